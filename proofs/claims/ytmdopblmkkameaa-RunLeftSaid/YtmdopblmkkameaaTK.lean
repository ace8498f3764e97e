
import Derived.Test.YtmdopblmkkameaaTJ
import Derived.Test.YtmdopblmkkameaaTH
import Derived.Test.YtmdopblmkkameaaXY
namespace Go.Proofs.Ytmdopblmkkameaa
open Go Go.Lay
open Try renaming prog → Pg
set_option linter.unusedVariables false
set_option linter.unusedSimpArgs false
set_option maxRecDepth 20000
theorem latest_c {z : St} {b c : Nat} {x y : Int} (h : Row z ⟨b, 0, none⟩ [iV x, iV y]) : zD Pg 59 [.slice (some ⟨b, 0, none⟩) 2 c] z (iV (max x y)) z := by
 have key : ∀ w : St, Row w ⟨b, 0, none⟩ [iV x, iV y] → zD Pg 84 [.slice (some ⟨b, 0, none⟩) 2 c] w (iV (max x y)) w := fun w hw => by
  refine zN.pure ?_
  have h0 := hw.le (le0 w)
  have l0 : zB Pg w.re 3 ⟨b, 0, none⟩ = some (iV x) := by simpa [zK] using h0.load1 (t := 3) yB (k := 0) rfl
  have l1 : zB Pg w.re 3 (zK ⟨b, 0, none⟩ (Int.toNat ((1 : Nat) : Int) * 1)) = some (iV y) := h0.load1 (t := 3) yB (k := 1) rfl
  refine smax_ra (P0 := fun n τ => τ = w.re ∧ n = max x y) l0 (smax_loop1 (Inv := fun k n i τ => ∃ s : Nat, i = s ∧ s + k = 2 ∧ τ = w.re ∧ ((s = 1 ∧ n = x) ∨ (s = 2 ∧ n = max x y))) ?_ 1 x 1 w.re ⟨1, rfl, rfl, rfl, .inl ⟨rfl, rfl⟩⟩) (fun n τ h => smax_t1x0a ⟨by rw [h.2], by rw [h.1]; exact Nat.le_refl _⟩) (by omega) (by omega)
  rintro k n i τ ⟨s, rfl, hk, rfl, ⟨rfl, rfl⟩ | ⟨rfl, rfl⟩⟩
  ·exact smax_s1a l1 max_see ⟨k - 1, by omega, 2, rfl, by omega, rfl, .inr ⟨rfl, rfl⟩⟩ (by omega) (by omega) (by omega)
  ·exact smax_s1b ⟨rfl, rfl⟩ (by omega)
 refine zN.pure ?_
 have h0 := h.le (le0 z)
 exact latest_ra (key _ h0) ⟨rfl, Nat.le_refl _⟩
structure EnK where
 σf : St
 Bk : Nat
 Bt : Nat
 Bf : Nat
 bm : Nat
structure EnK.Ok (K : EnK) : Prop where
 o1 : K.σf.next ≤ K.bm
 o2 : K.bm ≠ K.Bk
 o3 : K.bm ≠ K.Bt
 o4 : K.bm ≠ K.Bf
structure EnW (K : EnK) (t : Tab) (pe : Option Addr) (le ce : Nat) (pt : Option Addr) (lt ct : Nat) (pf : Option Addr) (cf : Nat) (f : List Int) (z : St) (F : B12 → Option Bool) : Prop where
 fl : Le K.σf z
 ok : Own z K.Bk [.map (some K.bm)] 1
 ot : Own z K.Bt (yE t pe le ce pt lt ct) 4
 of : Own z K.Bf [.slice pf 3 cf] 1
 mp : zDQ Pg z K.bm b12V Value.bool F
 kn : ∀ S b, F (b12 S) = some b → b = enS t f S
section
variable {K : EnK} {t : Tab} {pe pt pf : Option Addr} {le ce lt ct cf : Nat} {f : List Int} {z : St} {F : B12 → Option Bool}
abbrev EnK.args (K : EnK) : List Value := [.pointer (some ⟨K.Bk, 0, none⟩), .pointer (some ⟨K.Bt, 0, none⟩), .pointer (some ⟨K.Bf, 0, none⟩)]
theorem EnW.leT {z' : St} (h : EnW K t pe le ce pt lt ct pf cf f z F) (k : Le z z') : EnW K t pe le ce pt lt ct pf cf f z' F := ⟨h.fl.trans k, h.ok.le k, h.ot.le k, h.of.le k, h.mp.le k, h.kn⟩
theorem EnW.only {S : Nat → Prop} {z' : St} (h : EnW K t pe le ce pt lt ct pf cf f z F) (k : Only S z z') (h0 : ∀ b, S b → K.σf.next ≤ b) (h1 : ¬ S K.Bk) (h2 : ¬ S K.Bt) (h3 : ¬ S K.Bf) (h4 : ¬ S K.bm) : EnW K t pe le ce pt lt ct pf cf f z' F :=
 ⟨⟨Nat.le_trans h.fl.next k.next, fun b hb => (k.get b (Nat.lt_of_lt_of_le hb h.fl.next) (fun e => by have := h0 b e; omega)).trans (h.fl.get b hb)⟩, k.own' h.ok h1, k.own' h.ot h2, k.own' h.of h3, h.mp.at_ (k.get _ h.mp.1 h4) k.next, h.kn⟩
theorem EnW.low (h : EnW K t pe le ce pt lt ct pf cf f z F) (m : Nat) : EnW K t pe le ce pt lt ct pf cf f ⟨z.heap, z.next, m⟩ F := ⟨⟨h.fl.next, h.fl.get⟩, h.ok.low, h.ot.low, h.of.low, h.mp.at_ rfl (Nat.le_refl _), h.kn⟩
theorem enough_c (ok : K.Ok) (T : TabP K.σf pe le pt lt t) (hv : Valid t) (hlt : lt ≤ 12) (I : yZ K.σf pf 3 f) (hf : ∀ x ∈ f, -100000 ≤ x ∧ x ≤ 100000) {S : Nat → Bool} (w : EnW K t pe le ce pt lt ct pf cf f z F) :
  ∃ z' F', zD Pg 57 (.agg ⟨yJ 12 S⟩ :: K.args) z (.bool (enS t f S)) z' ∧ Only (· = K.bm) z z' ∧ EnW K t pe le ce pt lt ct pf cf f z' F' := by
 have hnt : t.nt = lt := T.len
 have hbm := w.mp.1
 suffices hmain : zN Pg 57 (.agg ⟨yJ 12 S⟩ :: K.args) z.re fun v s => Only (· = K.bm) z.re s ∧ (s.low < z.next ∨ zV RD v = false ∨ (v = .bool (enS t f S) ∧ ∃ F', EnW K t pe le ce pt lt ct pf cf f z F')) ∧ v = .bool (enS t f S) ∧ ∃ F', EnW K t pe le ce pt lt ct pf cf f s F' by
  obtain ⟨v, z', h1, h2, rfl, F', h3⟩ := mut2 (Q := fun v s => v = .bool (enS t f S) ∧ ∃ F', EnW K t pe le ce pt lt ct pf cf f s F') hmain (by rintro v s m ⟨rfl, F', h⟩; exact ⟨rfl, F', h.low m⟩)
  exact ⟨z', F', h1, h2, h3⟩
 obtain ⟨σ1, hσ1⟩ : ∃ σ1, σ1 = z.re.row (yJ 12 S) 1 := ⟨_, rfl⟩
 have n1 : New z.re σ1 := by rw [hσ1]; exact New.row _ _ _
 have w1 : EnW K t pe le ce pt lt ct pf cf f σ1 F := (w.leT (le0 z)).leT n1.le
 have oS : Own σ1 z.next (yJ 12 S) 1 := by rw [hσ1]; exact zC _ _ _
 have k1 : Only (· = K.bm) z.re σ1 := n1.only
 have lk : ∀ τ F', EnW K t pe le ce pt lt ct pf cf f τ F' → zB Pg τ 94 ⟨K.Bk, 0, none⟩ = some (.map (some K.bm)) := fun τ F' h => h.ok.ldI (i := 0) (by kernel_rfl) rfl
 have lS : ∀ τ, Own τ z.next (yJ 12 S) 1 → zB Pg τ 84 ⟨z.next, 0, none⟩ = some (.agg ⟨yJ 12 S⟩) := fun τ o => o.ldN (P := Pg) (t := 84) (by kernel_rfl) (by kernel_rfl : yV Pg 84 = some 12) (k := 0) rfl (by rw [xC]) (by rw [xC]; decide)
 cases hF : F (b12 S) with
 | some b =>
  have e := w.kn S b hF
  have h3 := w1.mp.look1 keySet mapS zero4 hF
  rw [zHC, e] at h3
  have l1 := lk _ _ w1
  have l2 := lS _ oS
  rw [hσ1] at h3 l1 l2
  exact Lacks2_ra l1 l2 h3 ⟨by rw [← hσ1]; exact k1, .inr (.inr ⟨rfl, F, w⟩), rfl, F, by rw [← hσ1]; exact w1⟩
 | none =>
  have h3 := w1.mp.look0 keySet mapS zero4 hF
  rw [zHC] at h3
  obtain ⟨es, e1, e2⟩ := w1.mp.put keySet mapS (b12 S) true
  rw [zHC] at e1
  have kk : Only (· = K.bm) σ1 (σ1.put K.bm (.map es)) := Only.put (.inr rfl)
  obtain ⟨o1, o2, o3, o4⟩ := id ok
  have hzn : z.next ≠ K.bm := by omega
  let W : St → Bool → Prop := fun τ b => Le K.σf τ ∧ Own τ K.Bk [.map (some K.bm)] 1 ∧ Own τ K.Bt (yE t pe le ce pt lt ct) 4 ∧ Own τ K.Bf [.slice pf 3 cf] 1 ∧ (∃ F', zDQ Pg τ K.bm b12V Value.bool F' ∧ F' (b12 S) = some b ∧ ∀ k, k ≠ b12 S → F' k = F k) ∧ Own τ z.next (yJ 12 S) 1 ∧ Only (· = K.bm) z.re τ ∧ τ.low ≤ K.bm
  have W4 : W (σ1.put K.bm (.map es)) true := by
   refine ⟨⟨Nat.le_trans w1.fl.next kk.next, fun b hb => (kk.get b (Nat.lt_of_lt_of_le hb w1.fl.next) (by show b ≠ K.bm; omega)).trans (w1.fl.get b hb)⟩, kk.own' w1.ok (fun e => o2 e.symm), kk.own' w1.ot (fun e => o3 e.symm), kk.own' w1.of (fun e => o4 e.symm), ⟨_, e2, by rw [if_pos rfl], fun k hk => by rw [if_neg hk]⟩, kk.own' oS hzn, k1.trans' kk (fun b _ e => .inl e), by simp; omega⟩
  have T4 : ∀ τ, Le K.σf τ → TabP τ pe le pt lt t := fun τ h => T.le' h
  have hfl : f.length = 3 := I.len
  have hk : ∀ s : Nat, s < 3 → ∃ x, f[s]? = some x ∧ -100000 ≤ x ∧ x ≤ 100000 := fun s hs => ⟨f[s]'(by omega), by simp, hf _ (List.getElem_mem _)⟩
  let okN : Nat → Bool := fun s => (List.range s).all fun k => decide ((yG t S (k : Int) : Int) ≤ f.getD k 0)
  have hen : okN 3 = enS t f S := by
   show (List.all [0, 1, 2] fun (k : Nat) => decide ((yG t S (k : Int) : Int) ≤ f.getD k 0)) = _
   unfold enS; simp [Bool.and_assoc]
  have hok1 : ∀ s, okN (s + 1) = (okN s && decide ((yG t S (s : Int) : Int) ≤ f.getD s 0)) := fun s => by
   show (List.range (s + 1)).all _ = _
   rw [List.range_succ, List.all_append]; simp [okN]
  have hL : Lacks2_L1 ⟨K.Bk, 0, none⟩ ⟨K.Bf, 0, none⟩ z.next (yG t S 0) (yG t S 1) (yG t S 2) 0 (σ1.put K.bm (.map es)) (fun τ => W τ (enS t f S)) := by
   refine Lacks2_loop1 (Inv := fun k i τ => ∃ s : Nat, i = s ∧ s + k = 3 ∧ W τ (okN s)) ?_ 3 0 _ ⟨0, rfl, rfl, W4⟩
   rintro k i τ ⟨s, rfl, hs3, x1, x2, x3, x4, ⟨F', y1, y2, y3⟩, x6, x7, x8⟩
   by_cases hs : s < 3
   rotate_left
   ·have : s = 3 := by omega
    subst this
    exact Lacks2_s1c ⟨x1, x2, x3, x4, ⟨F', y1, by rw [y2, hen], y3⟩, x6, x7, x8⟩ (by omega)
   obtain ⟨x, hx, hx1, hx2⟩ := hk s hs
   obtain ⟨af, rfl, x', hx', _⟩ := uX I (i := s) hs
   rw [hx] at hx'; cases hx'
   have hgd : f.getD s 0 = x := by rw [List.getD_eq_getElem?_getD, hx]; rfl
   have hI : zFX Pg 56 (.agg ⟨[iV (yG t S 0), iV (yG t S 1), iV (yG t S 2)]⟩) (iV (s : Int)) = some (iV (yG t S (s : Int))) := by
    have key : ∀ a b c : Int, zFX Pg 56 (.agg ⟨[iV a, iV b, iV c]⟩) (iV 0) = some (iV a) ∧ zFX Pg 56 (.agg ⟨[iV a, iV b, iV c]⟩) (iV 1) = some (iV b) ∧ zFX Pg 56 (.agg ⟨[iV a, iV b, iV c]⟩) (iV 2) = some (iV c) := fun a b c => ⟨by kernel_rfl, by kernel_rfl, by kernel_rfl⟩
    obtain ⟨a0, a1, a2⟩ := key (yG t S 0) (yG t S 1) (yG t S 2)
    have : s = 0 ∨ s = 1 ∨ s = 2 := by omega
    rcases this with rfl | rfl | rfl
    ·exact a0
    ·exact a1
    ·exact a2
   have lf : ∀ u, Le τ u → zB Pg u 41 ⟨K.Bf, 0, none⟩ = some (.slice (some af) 3 cf) := fun u hu => (x4.le hu).ldI (i := 0) zCB rfl
   have lx : ∀ u, Le τ u → zB Pg u 3 (zK af (Int.toNat (s : Int) * 1)) = some (iV x) := fun u hu => (SlV.le I (x1.trans hu)).at rfl (by rw [List.getElem?_map, hx]; rfl)
   obtain ⟨u, hu⟩ : ∃ u, u = τ.row [iV (yG t S (s : Int)), iV x] 1 := ⟨_, rfl⟩
   have nu : New τ u := by rw [hu]; exact New.row _ _ _
   have ru : Row u ⟨τ.next, 0, none⟩ [iV (yG t S (s : Int)), iV x] := by rw [hu]; exact (zC _ _ _).rw
   have lat := latest_c (c := 2) ru
   have b1 : K.Bf < τ.next := x4.lt
   have b2 : af.block < τ.next := xZ (SlV.le I x1) _ rfl
   have hko : Only (· = K.bm) z.re u := x7.trans' nu.only (fun b _ e => .inl e)
   have hlu : u.low ≤ K.bm := by rw [hu]; simp; omega
   have x1' := x1.trans nu.le
   by_cases hle : ((yG t S (s : Int) : Nat) : Int) ≤ x
   ·have hb : okN (s + 1) = okN s := by rw [hok1, hgd, decide_eq_true hle, Bool.and_true]
    have lu := lf u nu.le
    have lxu := lx u nu.le
    have W' : W u (okN (s + 1)) := ⟨x1', x2.le nu.le, x3.le nu.le, x4.le nu.le, ⟨F', y1.le nu.le, by rw [hb]; exact y2, y3⟩, x6.le nu.le, hko, hlu⟩
    rw [hu] at lat lu lxu W'
    exact Lacks2_s1b hI (lf τ (Le.refl _)) (lx τ (Le.refl _)) lat lu lxu (lf τ (Le.refl _)) (lx τ (Le.refl _)) ⟨k - 1, by omega, s + 1, by omega, by omega, W'⟩ (by omega) (by omega) (by omega) (by omega) (by omega) (by omega) (by omega) (by omega)
   ·have hb : okN (s + 1) = false := by rw [hok1, hgd, decide_eq_false hle, Bool.and_false]
    have lu := lf u nu.le
    have lxu := lx u nu.le
    obtain ⟨es', g1, g2⟩ := (y1.le nu.le).put keySet mapS (b12 S) false
    rw [zHC] at g1
    have kk' : Only (· = K.bm) u (u.put K.bm (.map es')) := Only.put (.inr rfl)
    have W' : W (u.put K.bm (.map es')) (okN (s + 1)) := ⟨⟨Nat.le_trans x1'.next kk'.next, fun b hb => (kk'.get b (Nat.lt_of_lt_of_le hb x1'.next) (by show b ≠ K.bm; omega)).trans (x1'.get b hb)⟩, kk'.own' (x2.le nu.le) (fun e => o2 e.symm), kk'.own' (x3.le nu.le) (fun e => o3 e.symm), kk'.own' (x4.le nu.le) (fun e => o4 e.symm), ⟨_, g2, by rw [if_pos rfl, hb], fun k hk => by rw [if_neg hk]; exact y3 k hk⟩, kk'.own' (x6.le nu.le) hzn, hko.trans' kk' (fun b _ e => .inl e), by simp; omega⟩
    have lm : zB Pg u 94 ⟨K.Bk, 0, none⟩ = some (.map (some K.bm)) := (x2.le nu.le).ldI (i := 0) (by kernel_rfl) rfl
    have ls := lS u (x6.le nu.le)
    rw [hu] at lat lu lxu lm ls g1
    exact Lacks2_s1a hI (lf τ (Le.refl _)) (lx τ (Le.refl _)) lat lu lxu (lf τ (Le.refl _)) (lx τ (Le.refl _)) lm ls g1 ⟨k - 1, by omega, s + 1, by omega, by omega, by rw [hu] at W'; exact W'⟩ (by omega) (by omega) (by omega) (by omega) (by omega) (by omega) (by omega) (by omega)
  obtain ⟨z1, z2, z3, z4, z5, z6, z7, z8⟩ := id W4
  have l34 : zB Pg (σ1.put K.bm (.map es)) 34 ⟨K.Bt, 0, none⟩ = some (.agg ⟨yE t pe le ce pt lt ct⟩) := z3.ldN wY xN (k := 0) rfl rfl (by simp)
  have kb := buses_c (ce := ce) (ct := ct) (T4 _ z1) hv hlt (S := S)
  have l1 := lk _ _ w1
  have l2 := lS _ oS
  have l6 := lS _ z6
  have hend : ∀ τ, W τ (enS t f S) → zJP ⟨K.Bk, 0, none⟩ ⟨K.Bf, 0, none⟩ z.next (yG t S 0) (yG t S 1) (yG t S 2) τ (fun v s => Only (· = K.bm) z.re s ∧ (s.low < z.next ∨ zV RD v = false ∨ (v = .bool (enS t f S) ∧ ∃ F', EnW K t pe le ce pt lt ct pf cf f z F')) ∧ v = .bool (enS t f S) ∧ ∃ F', EnW K t pe le ce pt lt ct pf cf f s F') := by
   rintro τ ⟨x1, x2, x3, x4, ⟨F', y1, y2, y3⟩, x6, x7, x8⟩
   have h5 := y1.lookv keySet mapS zero4 y2
   rw [zHC] at h5
   refine Lacks2_t1x0a (x2.ldI (i := 0) (by kernel_rfl) rfl) (lS _ x6) h5 ⟨x7, .inl (by omega), rfl, F', ⟨x1, x2, x3, x4, y1, fun S' b' hS => ?_⟩⟩
   by_cases e : b12 S' = b12 S
   ·rw [e, y2] at hS
    cases hS
    exact enS_congr fun i hi => (b12_inj e i (by omega)).symm
   ·rw [y3 _ e] at hS
    exact w.kn S' b' hS
  rw [hσ1] at l1 l2 h3 e1 l34 l6 kb hL
  exact Lacks2_rb l1 l2 h3 e1 l34 l6 kb hL hend
end
end Go.Proofs.Ytmdopblmkkameaa
