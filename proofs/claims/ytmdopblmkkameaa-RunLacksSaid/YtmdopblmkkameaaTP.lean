
import Derived.Test.YtmdopblmkkameaaTO
import Derived.Test.YtmdopblmkkameaaRU
import Derived.Test.YtmdopblmkkameaaRO
import Derived.Test.YtmdopblmkkameaaTy
import Derived.Test.YtmdopblmkkameaaXZ
namespace Go.Proofs.Ytmdopblmkkameaa
open Go Go.Lay
open Try renaming prog → Pg
set_option linter.unusedVariables false
set_option linter.unusedSimpArgs false
set_option maxRecDepth 20000
theorem shl12 {n : Nat} (h : n ≤ 12) : uQ .u64 (n : Int) = n ∧ binA Pg .shl 3 (.const (iV 1)) (.tmp 15) (iV 1) (.int .u64 (n : Int)) = some (iV ((2 ^ n : Nat) : Int)) := by
 have : n = 0 ∨ n = 1 ∨ n = 2 ∨ n = 3 ∨ n = 4 ∨ n = 5 ∨ n = 6 ∨ n = 7 ∨ n = 8 ∨ n = 9 ∨ n = 10 ∨ n = 11 ∨ n = 12 := by omega
 rcases this with rfl | rfl | rfl | rfl | rfl | rfl | rfl | rfl | rfl | rfl | rfl | rfl | rfl <;> exact ⟨by kernel_rfl, by kernel_rfl⟩
theorem shr12 {s n : Nat} (h : n ≤ 12) : uQ .u64 (n : Int) = n ∧ binA Pg .shr 3 (.tmp 27) (.tmp 29) (iV (s : Int)) (.int .u64 (n : Int)) = some (iV ((s / 2 ^ n : Nat) : Int)) := by
 refine ⟨(shl12 h).1, ?_⟩
 have e : Op.shift .shr .i64 (s : Int) .u64 (n : Int) = pure (iV ((s / 2 ^ n : Nat) : Int)) := by
  unfold Op.shift
  rw [if_neg (by omega)]
  have e1 : min (n : Int).toNat IntKind.i64.bits = n := by
   have : IntKind.i64.bits = 64 := rfl
   omega
  show pure (Value.int .i64 (Int.fdiv (s : Int) (2 ^ (min (n : Int).toNat IntKind.i64.bits)))) = _
  rw [e1]
  congr 2
  rw [Int.ofNat_fdiv]
  congr 1
 show ((yO Pg (do eqGuard .shr 3 (.tmp 27) (.tmp 29) (iV (s : Int)) (.int .u64 (n : Int)); Op.shift .shr .i64 (s : Int) .u64 (n : Int))).filter (zV RD)) = _
 rw [e]; rfl
section
variable {σ : St} {t : Tab} {pe pt : Option Addr} {le ce lt ct : Nat}
theorem rIsFleet_c {p : Option Addr} {l c : Nat} {f : List Int} (h : yV σ p l f) : zH Pg 28 [.slice p l c] σ (.bool (fleetB f)) σ := by
 have hl := h.len
 suffices hmain : zQ Pg 28 [.slice p l c] σ.re fun v s => v = .bool (fleetB f) ∧ σ.next ≤ s.low from zQ.pure hmain
 have h0 : yV σ.re p l f := SlV.le h (le0 σ)
 unfold fleetB
 by_cases h3 : l = 3
 rotate_left
 ·exact rIsFleet_rd ⟨by rw [decide_eq_false (by omega)]; rfl, Nat.le_refl _⟩ (by omega)
 subst h3
 rw [decide_eq_true hl, Bool.true_and]
 obtain ⟨a, rfl, x0, hx0, l0⟩ := wC h0 (i := 0) (by omega)
 obtain ⟨_, e, x1, hx1, l1⟩ := wC h0 (i := 1) (by omega)
 cases e
 obtain ⟨_, e, x2, hx2, l2⟩ := wC h0 (i := 2) (by omega)
 cases e
 have ef : f = [x0, x1, x2] := by
  apply List.ext_getElem?
  intro i
  match i with
  | 0 => exact hx0
  | 1 => exact hx1
  | 2 => exact hx2
  | i + 3 => rw [List.getElem?_eq_none (by omega), List.getElem?_eq_none (by simp)]
 rw [ef]
 have l0' : zD Pg σ.re 3 a = some (iV x0) := by simpa [zJ] using l0
 have l1' : zD Pg σ.re 3 (zJ a 1) = some (iV x1) := l1
 have l2' : zD Pg σ.re 3 (zJ a 2) = some (iV x2) := l2
 have c0 := rIn_c (σ := σ.re) (n := x0) (lo := 0) (hi := 12)
 have c1 := rIn_c (σ := σ.re) (n := x1) (lo := 0) (hi := 12)
 have c2 := rIn_c (σ := σ.re) (n := x2) (lo := 0) (hi := 12)
 have ea : ([x0, x1, x2].all fun x => inB x 0 12) = (inB x0 0 12 && (inB x1 0 12 && inB x2 0 12)) := by simp
 rw [ea]
 cases b0 : inB x0 0 12 with
 | false => rw [b0] at c0; exact rIsFleet_rc l0' c0 ⟨rfl, Nat.le_refl _⟩ rfl (by omega)
 | true =>
 rw [b0] at c0
 cases b1 : inB x1 0 12 with
 | false => rw [b1] at c1; exact rIsFleet_rb l0' c0 l1' c1 ⟨rfl, Nat.le_refl _⟩ rfl (by omega) (by omega)
 | true =>
 rw [b1] at c1
 exact rIsFleet_ra l0' c0 l1' c1 l2' c2 ⟨rfl, Nat.le_refl _⟩ rfl (by omega) (by omega) (by omega)
theorem rLacks_c {pf : Option Addr} {cf : Nat} {f : List Int} (hR : RefP σ pe le pt lt t) (hv : Valid t) (hlt : lt ≤ 12) (hI : yV σ pf 3 f) (hf : fleetB f = true) :
  ∃ p l c σ' b, zH Pg 30 [.agg ⟨yI t pe le ce pt lt ct⟩, .slice pf 3 cf] σ (.slice p l c) σ' ∧ New σ σ' ∧ yV σ' p l (xV b) ∧ riN t.nt 0 b ∧ enS t f (mns (fun _ => true) b) = true ∧ ∀ s, s < 2 ^ t.nt → enS t f (mns (fun _ => true) (uL t.nt s)) = true → uK (uL t.nt s) b = false := by
 have hnt : t.nt = lt := hR.len
 have hfb : ∀ x ∈ f, -100000 ≤ x ∧ x ≤ 100000 := fun x hx => by
  unfold fleetB at hf
  simp only [Bool.and_eq_true] at hf
  have := inB_iff.1 (List.all_eq_true.1 hf.2 x hx); omega
 suffices hmain : zQ Pg 30 [.agg ⟨yI t pe le ce pt lt ct⟩, .slice pf 3 cf] σ.re fun v s => New σ.re s ∧ ∃ p l c b, v = .slice p l c ∧ yV s p l (xV b) ∧ riN t.nt 0 b ∧ enS t f (mns (fun _ => true) b) = true ∧ ∀ s, s < 2 ^ t.nt → enS t f (mns (fun _ => true) (uL t.nt s)) = true → uK (uL t.nt s) b = false by
  obtain ⟨v, σ', h1, h2, p, l, c, b, rfl, h3, h4⟩ := zQ.new hmain
   (by rintro v s s' ⟨p, l, c, b, rfl, q1, q2⟩ hle; exact ⟨p, l, c, b, rfl, SlV.le q1 hle, q2⟩)
   (by
    rintro v s hr ⟨p, l, c, b, rfl, q1, q2⟩
    refine ⟨p, l, c, b, rfl, ?_, q2⟩
    cases p with
    | none => exact slv_none q1
    | some a => exact Bool.noConfusion (show false = true from hr))
  exact ⟨p, l, c, σ', b, h1, h2, h3, h4⟩
 obtain ⟨σ1, hσ1⟩ : ∃ σ1, σ1 = σ.re.row (yI t pe le ce pt lt ct) 4 := ⟨_, rfl⟩
 have n1 : New σ.re σ1 := by rw [hσ1]; exact New.row _ _ _
 have ot : Own σ1 σ.next (yI t pe le ce pt lt ct) 4 := by rw [hσ1]; exact zF _ _ _
 have R1 := (hR.le' (le0 σ)).le' n1.le
 have I1 : yV σ1 pf 3 f := SlV.le (SlV.le hI (le0 σ)) n1.le
 obtain ⟨p2, l2, c2, σ2, k1, n2, I2, _⟩ := rAll_c (ce := ce) (ct := ct) (kind := -1) (cw := 0) R1 (ints_none (σ := σ1)) (by omega) (by omega)
 have eall : allL t (-1) [] lt = List.range' 0 t.nt := by
  unfold allL
  rw [hnt, List.range_eq_range']
  exact List.filter_eq_self.2 (fun a _ => aB_nil)
 rw [eall] at I2
 have n12 := n1.trans n2
 have lt23 : ∀ u, Le σ1 u → zD Pg u 23 ⟨σ.next, 3, none⟩ = some (.slice pt lt ct) := fun u hu => (ot.le hu).ldI (i := 3) wI rfl
 have lt25 : ∀ u, Le σ1 u → zD Pg u 25 ⟨σ.next, 0, none⟩ = some (.agg ⟨yI t pe le ce pt lt ct⟩) := fun u hu => (ot.le hu).ldN agg25 wD (k := 0) rfl rfl (by simp)
 obtain ⟨w1, w2⟩ := shl12 hlt
 have hG : 2 ^ lt ≤ 4096 := Nat.pow_le_pow_right (by omega) hlt
 have hL : rLacks_L1 pf 3 cf σ.next p2 l2 c2 0 σ2 (fun p l c τ => New σ.re τ ∧ ∃ b, yV τ p l (xV b) ∧ riN t.nt 0 b ∧ enS t f (mns (fun _ => true) b) = true ∧ ∀ s, s < 2 ^ t.nt → enS t f (mns (fun _ => true) (uL t.nt s)) = true → uK (uL t.nt s) b = false) := by
  refine rLacks_loop1 (Inv := fun k p l c i τ => ∃ s : Nat, i = s ∧ s + k = 2 ^ lt ∧ New σ1 τ ∧ ∃ b, yV τ p l (xV b) ∧ riN t.nt 0 b ∧ enS t f (mns (fun _ => true) b) = true ∧ ∀ s', s' < s → enS t f (mns (fun _ => true) (uL t.nt s')) = true → uK (uL t.nt s') b = false) ?_ (2 ^ lt) p2 l2 c2 0 σ2 ⟨0, rfl, by omega, n2, _, I2, riN_range t.nt t.nt 0 (by omega), en_all hf, fun s' h => by omega⟩
  rintro k p l c i τ ⟨s, rfl, hk, hN, b, hb, hri, hen, hno⟩
  by_cases hs : s < 2 ^ lt
  rotate_left
  ·refine rLacks_s1b (lt23 τ hN.le) w1 w2 ⟨n1.trans hN, b, hb, hri, hen, fun s' h => hno s' (by rw [hnt] at h; omega)⟩ (by omega)
  refine rLacks_s1a (P2 := fun p' l' c' z => New τ z ∧ yV z p' l' (xV (uL lt s))) (lt23 τ hN.le) w1 w2 ?_ ?_ (by omega)
  ·refine rLacks_loop2 (Inv := fun k p' l' c' i z => ∃ j : Nat, i = j ∧ j + k = lt ∧ New τ z ∧ l' ≤ j ∧ Gr Pg z τ.next 3 1 p' l' c' ((xV (uL j s)).map xW)) ?_ lt none 0 0 0 τ ⟨0, rfl, by omega, New.refl _, Nat.le_refl _, Gr.nil⟩
   rintro k p' l' c' i z ⟨j, rfl, hk, hM, hlj, g⟩
   have hz := hN.trans hM
   by_cases hj : j < lt
   rotate_left
   ·have : j = lt := by omega
    subst this
    exact rLacks_s2c (lt23 z hz.le) ⟨hM, g.slv⟩ (by omega)
   obtain ⟨w3, w4⟩ := shr12 (s := s) (n := j) (by omega)
   have eb : uL (j + 1) s = uL j s ++ if s / 2 ^ j % 2 = 1 then [j] else [] := by
    unfold uL
    rw [filt_step]
    by_cases e : s / 2 ^ j % 2 = 1 <;> simp [e]
   have em : Int.tmod ((s / 2 ^ j : Nat) : Int) 2 = ((s / 2 ^ j % 2 : Nat) : Int) := by
    obtain ⟨m, hm⟩ : ∃ m, m = s / 2 ^ j := ⟨_, rfl⟩
    rw [← hm, Int.tmod_eq_emod_of_nonneg (by omega)]; omega
   by_cases e : s / 2 ^ j % 2 = 1
   ·rw [if_pos e] at eb
    obtain ⟨p4, c4, τ2, g1, g2, g3, g4, g5⟩ := grow (xW (j : Int)) appT_ints g hM (New.refl z) (elOk_int _) (by omega)
    exact rLacks_s2a (lt23 z hz.le) w3 w4 g1 ⟨k - 1, by omega, j + 1, by omega, by omega, g3, by omega, by rw [eb]; simpa [xV] using g2⟩ (by omega) (by rw [em, e]; rfl) (by omega)
   ·rw [if_neg e, List.append_nil] at eb
    exact rLacks_s2b (lt23 z hz.le) w3 w4 ⟨k - 1, by omega, j + 1, by omega, by omega, hM, by omega, by rw [eb]; exact g⟩ (by omega) (by rw [em]; omega) (by omega)
  ·rintro p' l' c' z ⟨hM, hI'⟩
   have hz := hN.trans hM
   have hb' : yV z p l (xV b) := SlV.le hb hM.le
   have hl' : l' ≤ 12 := by
    have h1 := hI'.len
    rw [natI_len] at h1
    have : (uL lt s).length ≤ lt := by have := List.length_filter_le (fun i => decide (s / 2 ^ i % 2 = 1)) (List.range lt); rw [List.length_range] at this; exact this
    omega
   have kl := rLess_c (ca := c') (cb := c) hI' hb' (by omega)
   have Rz := R1.le' hz.le
   have ke := rEnough_c (ce := ce) (ct := ct) (cf := cf) (cw := c') Rz hv (by omega) (SlV.le I1 hz.le) hfb hI' (by omega)
   have hstep : ∀ b', (b' = b ∨ uK b' b = true) → (enS t f (mns (fun _ => true) (uL t.nt s)) = true → uK (uL t.nt s) b' = false) → ∀ s', s' < s + 1 → enS t f (mns (fun _ => true) (uL t.nt s')) = true → uK (uL t.nt s') b' = false := fun b' h1 h2 s' hs' he => by
    by_cases e : s' = s
    ·subst e; exact h2 he
    ·have h3 := hno s' (by omega) he
     rcases h1 with rfl | h1
     ·exact h3
     ·cases h4 : uK (uL t.nt s') b' with
      | false => rfl
      | true => rw [lessB_trans h4 h1] at h3; cases h3
   cases hls : uK (uL lt s) b with
   | false =>
    rw [hls] at kl
    exact rLacks_t2x2c kl ⟨k - 1, by omega, s + 1, by omega, by omega, hz, b, hb', hri, hen, hstep b (.inl rfl) (fun _ => by rw [hnt]; exact hls)⟩ (by omega)
   | true =>
    rw [hls] at kl
    cases hee : enS t f (mns (fun _ => true) (uL lt s)) with
    | false =>
     rw [hee] at ke
     exact rLacks_t2x2b kl (lt25 z hz.le) ke ⟨k - 1, by omega, s + 1, by omega, by omega, hz, b, hb', hri, hen, hstep b (.inl rfl) (fun h => by rw [hnt, hee] at h; cases h)⟩ (by omega)
    | true =>
     rw [hee] at ke
     have hirr : ∀ y : List Nat, lexB y y = false := fun y => by
      induction y with
      | nil => rfl
      | cons a y ih => rw [lexB_cons, if_pos rfl]; exact ih
     exact rLacks_t2x2a kl (lt25 z hz.le) ke ⟨k - 1, by omega, s + 1, by omega, by omega, hz, uL lt s, hI', by rw [hnt]; exact riN_bits, hee, hstep _ (.inr hls) (fun _ => by rw [hnt]; unfold uK; rw [if_pos rfl]; exact hirr _)⟩ (by omega)
 subst hσ1
 exact rLacks_ra k1 hL (fun p l c τ ⟨g1, b, g2, g3⟩ => rLacks_t1x0a ⟨g1, p, l, c, b, rfl, g2, g3⟩)
theorem lLacks_top {pf : Option Addr} {lf cf : Nat} {f : List Int} (h : RefP σ pe le pt lt t) (hf : yV σ pf lf f) : TopQ Pg 17 4 [.agg ⟨yI t pe le ce pt lt ct⟩, .slice pf lf cf] σ fun v _ => v = .bool true := by
 have hnt : t.nt = lt := h.len
 obtain ⟨σ1, hσ1⟩ : ∃ σ1, σ1 = σ.row (yI t pe le ce pt lt ct) 4 := ⟨_, rfl⟩
 have n1 : New σ σ1 := by rw [hσ1]; exact New.row _ _ _
 have o1 : Own σ1 σ.next (yI t pe le ce pt lt ct) 4 := by rw [hσ1]; exact zF _ _ _
 have R1 := h.le' n1.le
 have F1 : yV σ1 pf lf f := SlV.le hf n1.le
 rcases few_c (ce := ce) (ct := ct) R1 with c0 | ⟨hth, c0⟩
 ·exact lLacks_rk (by rw [← hσ1]; exact c0) rfl
 by_cases hlf : lf ≤ 5
 rotate_left
 ·exact lLacks_ra (by rw [← hσ1]; exact c0) rfl (by omega)
 have bE : ∀ r ∈ t.empty, r.length ≤ 1073741824 := fun r hr => by have := hth.r r hr; omega
 have bl := hth.e
 have bn := hth.n
 obtain ⟨p2, c2, q4, d5, σ6, k2, n6, g6⟩ := table_c (ce := ce) (ct := ct) R1 (by omega) (by omega) bE
 obtain ⟨p7, c7, σ8, k3, n8, I8, _⟩ := list_c (c := cf) (SlV.le F1 n6.le) (by omega)
 have M8 := n6.trans n8
 obtain ⟨p9, l9, c9, e10, σ11, k4, n11, hC⟩ := Lacks_c (ce := c2) (ct := d5) (cf := c7) (g6.le' n8.le) (by omega) (by omega) bE I8 (by omega)
 have M11 := M8.trans n11
 have ldT : ∀ τ, Le σ1 τ → zD Pg τ 25 ⟨σ.next, 0, none⟩ = some (.agg ⟨yI t pe le ce pt lt ct⟩) := fun τ hn => (o1.le hn).ldN agg25 wD (k := 0) rfl rfl (by simp)
 have R11 := R1.le' M11.le
 have k6 := fault_c (ce := ce) (ct := ct) R11 (by omega) (by omega)
 have k7 := rIsFleet_c (c := cf) (SlV.le F1 M11.le)
 rcases hC with ⟨hz, rfl, rfl⟩ | ⟨hz, hb, rfl, rfl⟩ | ⟨hz, hb, rfl, x, hx, hl⟩
 ·subst hσ1
  exact lLacks_rh c0 k2 k3 k4 (ldT _ M11.le) k6 rfl
 ·rw [hz] at k6
  rw [hb] at k7
  subst hσ1
  exact lLacks_re c0 k2 k3 k4 (ldT _ M11.le) k6 k7 rfl
 ·rw [hz] at k6
  rw [hb] at k7
  have hv := valid_of hz
  have hn12 : lt ≤ 12 := by
   have hz' := hz
   unfold checkZ at hz'
   by_cases h12 : 12 < t.nt
   ·rw [if_pos h12] at hz'; cases hz'
   ·omega
  have h3 : lf = 3 := by
   unfold fleetB at hb
   simp only [Bool.and_eq_true, decide_eq_true_eq] at hb
   have := hf.len; omega
  subst h3
  obtain ⟨p18, l18, c18, σ19, b, k8, n19, I19, g1, g2, g3⟩ := rLacks_c (ce := ce) (ct := ct) (cf := cf) R11 hv hn12 (SlV.le F1 M11.le) hb
  have e := least_eq hl g1 g2 g3
  subst e
  have k9 := ints_c (c := c9) (d := c18) (SlV.le hx n19.le) I19 (by have := hx.len; rw [natI_len] at this; have := hl.le _ (riN_range t.nt t.nt 0 (by omega)) (en_all hb); simp at this; omega)
  rw [decide_eq_true rfl] at k9
  subst hσ1
  exact lLacks_rb c0 k2 k3 k4 (ldT _ M11.le) k6 k7 k8 k9 rfl
end
end Go.Proofs.Ytmdopblmkkameaa
