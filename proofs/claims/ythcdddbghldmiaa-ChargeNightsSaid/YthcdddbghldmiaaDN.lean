
import Derived.Test.YthcdddbghldmiaaPH
import Derived.Test.YthcdddbghldmiaaCW
import Derived.Test.YthcdddbghldmiaaDC
import Derived.Test.YthcdddbghldmiaaDA
import Derived.Test.YthcdddbghldmiaaXN
namespace Go.Proofs.Ythcdddbghldmiaa
open Go Go.Lay
open Try renaming prog → Pg
set_option linter.unusedVariables false
set_option linter.unusedSimpArgs false
set_option maxRecDepth 20000
set_option maxHeartbeats 1000000
theorem appT_busN : AppT Pg 23 23 52 9 := appT_of (by kernel_rfl)
theorem elOk_busN (b : Bus) : elOk Pg 52 9 (busV b) := .inr ⟨agg52, size52, _, rfl, rfl⟩
theorem shr_eq {s z : Int} (h : 0 ≤ z) : binA Pg .shr 5 (.tmp 58) (.tmp 60) (.int .u8 s) (.int .u64 z) = some (.int .u8 (s.fdiv (2 ^ (min z.toNat 8)))) := by
 have e : Op.shift .shr .u8 s .u64 z = pure (.int .u8 (s.fdiv (2 ^ (min z.toNat 8)))) := by unfold Op.shift; rw [if_neg (by omega)]; rfl
 show ((pureVal Pg (do eqGuard .shr 5 (.tmp 58) (.tmp 60) (.int .u8 s) (.int .u64 z); Op.shift .shr .u8 s .u64 z)).filter (rigidB RD)) = _
 rw [e]; rfl
def Dis (p q : Option Addr) : Prop := ∀ b, AtP p b → ¬ AtP q b
theorem Dis.symm {p q : Option Addr} (h : Dis p q) : Dis q p := fun b h1 h2 => h b h2 h1
theorem Dis.none {q : Option Addr} : Dis none q := fun b h => (AtP.none h).elim
section
variable {σ τ : St} {n0 la ca lb cb lc cc : Nat} {pa pb pc : Option Addr} {va vb vc : List Value}
theorem grow3 (v : Bus) (hA : Gr Pg σ n0 52 9 pa la ca va) (hB : Gr Pg σ n0 52 9 pb lb cb vb) (hC : Gr Pg σ n0 52 9 pc lc cc vc) (dab : Dis pa pb) (dac : Dis pa pc) (hN : New σ τ) (hroom : la + 1 ≤ 1073741824) (hn : n0 ≤ σ.next) :
  ∃ p' c' σ', appendA Pg 23 23 (.slice pa la ca) (.slice (some ⟨τ.next, 0, none⟩) 1 1) (τ.row (busL v) 9) = some (.slice p' (la + 1) c', σ') ∧ Gr Pg σ' n0 52 9 p' (la + 1) c' (va ++ [busV v]) ∧
   Gr Pg σ' n0 52 9 pb lb cb vb ∧ Gr Pg σ' n0 52 9 pc lc cc vc ∧ Dis p' pb ∧ Dis p' pc ∧ Only (AtP pa) τ σ' ∧ (τ.next + 1 ≤ σ'.next ∧ ∀ b, AtP p' b → b < σ.next ∨ τ.next ≤ b) := by
 obtain ⟨p', c', σ', h1, h2, h3, h4⟩ := grow1 (busV v) appT_busN hA hN.le (elOk_busN v) hroom hn
 have hnx := hN.nx
 have hO : Only (AtP pa) τ σ' := (Only.row τ _ _).trans h3 (fun _ _ x => x) (by intro m' h1 h2 b h3 h4; have := hA.bd h4; exact h2 b (by omega) h4)
 have nb : ∀ {pb lb cb vb}, Gr Pg σ n0 52 9 pb lb cb vb → Dis pa pb → Dis p' pb := fun hB d b x1 x2 => by
  rcases h4 b x1 with h5 | h5
  ·exact d b h5 x2
  ·have := (hB.bd x2).2; omega
 exact ⟨p', c', σ', h1, h2, (hB.le hN.le).only hO (fun b x1 x2 => dab b x2 x1), (hC.le hN.le).only hO (fun b x1 x2 => dac b x2 x1), nb hB dab, nb hC dac, hO, by have := h3.next; simpa using this, fun b hb => by
  rcases h4 b hb with h5 | h5
  ·exact .inl (hA.bd h5).2
  ·exact .inr h5⟩
end
def sideB (s : Int) (i : Nat) : Bool := decide (¬ Int.tmod (s.fdiv (2 ^ (min (wrapK .u64 (i : Int)).toNat 8))) 2 = 0)
def nl (s : Int) (bs : List Bus) : List (Bus × Bool) := bs.zipIdx.map fun x => (x.1, sideB s x.2)
theorem nl_snoc {s : Int} {bs : List Bus} {j : Nat} {x : Bus} (h : bs[j]? = some x) : nl s (bs.take (j + 1)) = nl s (bs.take j) ++ [(x, sideB s j)] := by
 have hj : j < bs.length := (List.getElem?_eq_some_iff.1 h).1
 have e : (bs.take j).length = j := by rw [List.length_take]; omega
 unfold nl
 rw [take_snoc h, List.zipIdx_append, List.map_append, e]
 simp
abbrev wL (s : Int) (k : Nat) (bs : List Bus) : List Value := ((nl s bs).map (wB k)).map busV
abbrev eL (s : Int) (k : Nat) (bs : List Bus) : List Value := (((nl s bs).filter (fun x => !x.2)).map (wB k)).map busV
abbrev dL (s : Int) (k : Nat) (bs : List Bus) : List Value := (((nl s bs).filter (fun x => x.2)).map (lB k)).map busV
theorem wrapU {j : Nat} : 0 ≤ wrapK .u64 (j : Int) := by
 rw [wrapK_eq]
 simp only [IntKind.wrap, IntKind.bits, IntKind.signed]
 have : (0 : Int) ≤ (j : Int) % 2 ^ 64 := Int.emod_nonneg _ (by decide)
 simp; omega
structure NightP (τ : St) (B : Nat) (gl : List Value) (n0 : Nat) (s1 s2 s3 : Value) (s : Int) (k : Nat) (bs : List Bus) (j : Nat) : Prop where
 g : Own τ B gl 2
 r : ∃ pw cw pe le ce pl ll cl, Own τ (B + 1) [s1, .slice pw j cw] 2 ∧ Own τ (B + 2) [s2, .slice pe le ce] 2 ∧ Own τ (B + 3) [s3, .slice pl ll cl] 2 ∧
  Gr Pg τ n0 52 9 pw j cw (wL s k (bs.take j)) ∧ Gr Pg τ n0 52 9 pe le ce (eL s k (bs.take j)) ∧ Gr Pg τ n0 52 9 pl ll cl (dL s k (bs.take j)) ∧ Dis pw pe ∧ Dis pw pl ∧ Dis pe pl
 v : ∀ x ∈ nl s (bs.take j), x.2 = true → busB (wB k x) = true
section
variable {σ0 τ : St} {g : Gar} {p q : Option Addr} {c d k B n0 j : Nat} {s : Int} {s1 s2 s3 : Value}
theorem night_round (hv : Valid g) (hk : k ≤ g.ns) (hR : RefP σ0 p g.ns q g.nb g) (hB : σ0.next = B) (hn0 : n0 = B + 4) {Nx : Int → St → Prop} {Qr : Bool → St → Prop} {Q0 : St → Prop} (hN : New σ0 τ)
  (h : NightP τ B (garL p g.ns c q g.nb d) n0 s1 s2 s3 s k g.buses j) (hj : j ≤ g.nb)
  (c1 : ∀ τ', j < g.nb → New σ0 τ' → NightP τ' B (garL p g.ns c q g.nb d) n0 s1 s2 s3 s k g.buses (j + 1) → Nx ((j : Int) + 1) τ')
  (c2 : ∀ τ', Qr true τ') (c3 : j = g.nb → Q0 τ) : lNights_B1 s B (k : Int) (B + 1) (B + 2) (B + 3) (j : Int) τ Nx Qr Q0 := by
 obtain ⟨w1, ⟨pw, cw, pe, le, ce, pl, ll, cl, w2, w3, w4, gw, ge, gl, d1, d2, d3⟩, hval⟩ := h
 have hw4 := w4.lt
 have hns := hv.ns; have hnb := hv.nb
 have lg : loadA Pg τ 23 ⟨B, 1, none⟩ = some (.slice q g.nb d) := w1.ld rfl agg23 (k := 1) rfl
 by_cases hi : j < g.nb
 case neg => exact lNights_s1d lg (c3 (by omega))
 obtain ⟨a, ea, x, hx, ld⟩ := slv_at (hR.le hN.le).bu hi
 have la := slv_lt (hR.le hN.le).bu a ea
 subst ea
 have bx := hv.bus x (List.mem_of_getElem? hx)
 have bi := busB_iff bx
 have sh := shr_eq (s := s) (z := wrapK .u64 (j : Int)) wrapU
 have lew : le ≤ 5 ∧ ll ≤ 5 := by
  have h1 := ge.len_eq; have h2 := gl.len_eq
  simp only [List.length_map] at h1 h2
  have h3 : (nl s (g.buses.take j)).length ≤ g.nb := by unfold nl; simp; show _ ≤ g.buses.length; omega
  have h4 := List.length_filter_le (fun x : Bus × Bool => !x.2) (nl s (g.buses.take j))
  have h5 := List.length_filter_le (fun x : Bus × Bool => x.2) (nl s (g.buses.take j))
  omega
 obtain ⟨z1, hz1⟩ : ∃ z, z = τ.row (ints9 0 0 0 0 0 0 0 0 0) 9 := ⟨_, rfl⟩
 obtain ⟨z2, hz2⟩ : ∃ z, z = z1.own τ.next (busL x) 9 := ⟨_, rfl⟩
 have N1 : New τ z1 := by rw [hz1]; exact New.row _ _ _
 have N2 : New τ z2 := by rw [hz2]; exact N1.own (Nat.le_refl _)
 have nx1 : z1.next = τ.next + 1 := by rw [hz1]; rfl
 have nx2 : z2.next = τ.next + 1 := by rw [hz2]; exact nx1
 have t2 : Own z2 τ.next (busL x) 9 := by rw [hz2, hz1]; exact Own.cp τ _ _ _
 have one : ∀ {pp : Option Addr} {l0 c0 : Nat} {vs0 : List Value}, Gr Pg τ n0 52 9 pp l0 c0 vs0 → ∀ b, AtP pp b → B + 4 ≤ b ∧ b < τ.next := fun h b hb => by have := h.bd hb; omega
 cases hs : sideB s j with
 | false =>
  have hm : Int.tmod (s.fdiv (2 ^ (min (wrapK .u64 (j : Int)).toNat 8))) 2 = 0 := by simpa [sideB] using hs
  obtain ⟨x', hx'⟩ : ∃ x', x' = wB k (x, false) := ⟨_, rfl⟩
  have ex : busL x' = [iV (min x.fr (min x.to k)), iV (min x.to k), iV x.rate, iV x.full, iV x.floor, iV x.hlo, iV x.hhi, iV x.ulo, iV x.uhi] := by rw [hx']; rfl
  obtain ⟨z3, hz3⟩ : ∃ z, z = z2.own τ.next [iV x.fr, iV (min x.to k), iV x.rate, iV x.full, iV x.floor, iV x.hlo, iV x.hhi, iV x.ulo, iV x.uhi] 9 := ⟨_, rfl⟩
  obtain ⟨z4, hz4⟩ : ∃ z, z = z3.own τ.next (busL x') 9 := ⟨_, rfl⟩
  have N4 : New τ z4 := by rw [hz4, hz3]; exact (N2.own (Nat.le_refl _)).own (Nat.le_refl _)
  have nx4 : z4.next = τ.next + 1 := by rw [hz4, hz3]; exact nx2
  have t4 : Own z4 τ.next (busL x') 9 := by rw [hz4, hz3]; exact t2.put.put
  obtain ⟨pe', ce', y1, a1, ge', gw1, gl1, de1, de3, o1, nxy1, _⟩ := grow3 x' ge gw gl d1.symm d3 N4 (by omega) (by omega)
  obtain ⟨y2, hy2⟩ : ∃ y, y = y1.own (B + 2) [s2, .slice pe' (le + 1) ce'] 2 := ⟨_, rfl⟩
  have k2 : Only (· = B + 2) y1 y2 := by rw [hy2]; exact Only.own (.inr rfl)
  have O2 : Only (fun b => AtP pe b ∨ b = B + 2) z4 y2 := (o1.mono (fun _ _ x => .inl x)).trans' k2 (by rintro b _ rfl; exact .inl (.inr rfl))
  have ne2 : ∀ b, b < B + 4 → b ≠ B + 2 → ¬ (AtP pe b ∨ b = B + 2) := fun b h1 h2 h3 => by
   rcases h3 with h3 | h3
   ·have := one ge b h3; omega
   ·exact h2 h3
  have u1 := O2.own' (w1.le N4.le) (ne2 _ (by omega) (by omega))
  have u2 := O2.own' (w2.le N4.le) (ne2 _ (by omega) (by omega))
  have u4 := O2.own' (w4.le N4.le) (ne2 _ (by omega) (by omega))
  have v3 := o1.own' (w3.le N4.le) (fun h => by have := one ge _ h; omega)
  have u3 : Own y2 (B + 2) [s2, .slice pe' (le + 1) ce'] 2 := by rw [hy2]; exact v3.put
  have ut := O2.own' t4 (fun h => by
   rcases h with h | h
   ·have := one ge _ h; omega
   ·omega)
  have ny2 : y1.next = y2.next := by rw [hy2]; rfl
  have l1 : ∀ a, pe' = some a → a.block < y1.next := fun a e => (ge'.bd ⟨a, e, rfl⟩).2
  have lw : ∀ a, pw = some a → a.block < y2.next := fun a e => by have := (gw1.bd ⟨a, e, rfl⟩).2; omega
  have le_ : ∀ a, pe = some a → a.block < z4.next := fun a e => by have := (one ge _ ⟨a, e, rfl⟩).2; omega
  have st : ∀ {b : Nat} {pp : Option Addr} {l0 c0 : Nat} {vs0 : List Value} {z z' : St}, Only (· = b) z z' → b < B + 4 → Gr Pg z n0 52 9 pp l0 c0 vs0 → Gr Pg z' n0 52 9 pp l0 c0 vs0 := fun k hb h => h.only k (by rintro b' h1 rfl; have := (h.bd h1).1; omega)
  obtain ⟨pw', cw', y3, a2, gw3, ge3, gl3, dw1, dw2, o3, nxy3, _⟩ := grow3 x' (st k2 (by omega) gw1) (st k2 (by omega) ge') (st k2 (by omega) gl1) de1.symm d2 (New.refl y2) (by omega) (by omega)
  obtain ⟨y4, hy4⟩ : ∃ y, y = y3.own (B + 1) [s1, .slice pw' (j + 1) cw'] 2 := ⟨_, rfl⟩
  have k4 : Only (· = B + 1) y3 y4 := by rw [hy4]; exact Only.own (.inr rfl)
  have ne4 : ∀ b, b < B + 4 → ¬ AtP pw b := fun b h1 h3 => by have := one gw b h3; omega
  have r2 := o3.own' u2 (ne4 _ (by omega))
  have l3 : ∀ a, pw' = some a → a.block < y3.next := fun a e => (gw3.bd ⟨a, e, rfl⟩).2
  have h3n : B + 3 < y1.next := by omega
  have h1n : B + 1 < y3.next := by omega
  have O4 : Only (fun b => AtP pw b ∨ b = B + 1) y2 y4 := (o3.mono (fun _ _ x => .inl x)).trans' k4 (by rintro b _ rfl; exact .inl (.inr rfl))
  have hnew : New σ0 y4 := by
   refine ((hN.trans N4).of_only O2 ?_).of_only O4 ?_
   ·rintro b (h | h)
    ·have := one ge b h; omega
    ·omega
   ·rintro b (h | h)
    ·have := one gw b h; omega
    ·omega
  have fin : NightP y4 B (garL p g.ns c (some a) g.nb d) n0 s1 s2 s3 s k g.buses (j + 1) := by
   refine ⟨k4.own' (o3.own' u1 (ne4 _ (by omega))) (by omega), ⟨pw', cw', pe', le + 1, ce', pl, ll, cl, by rw [hy4]; exact r2.put, k4.own' (o3.own' u3 (ne4 _ (by omega))) (by omega), k4.own' (o3.own' u4 (ne4 _ (by omega))) (by omega), ?_, ?_, ?_, dw1, dw2, de3⟩, ?_⟩
   ·have := st k4 (by omega) gw3
    rw [wL, nl_snoc hx, hs, List.map_append, List.map_append]; rw [hx'] at this; exact this
   ·have := st k4 (by omega) ge3
    rw [eL, nl_snoc hx, hs, List.filter_append, List.map_append, List.map_append]; rw [hx'] at this; exact this
   ·have := st k4 (by omega) gl3
    rw [dL, nl_snoc hx, hs, List.filter_append, List.map_append, List.map_append]
    simpa using this
   ·intro y hy hy2
    rw [nl_snoc hx, hs] at hy
    rcases List.mem_append.1 hy with h | h
    ·exact hval y h hy2
    ·simp at h; subst h; cases hy2
  have f1 : loadA Pg z4 23 ⟨B + 2, 1, none⟩ = some (.slice pe le ce) := (w3.le N4.le).ld rfl agg23 (k := 1) rfl
  have f2 : loadA Pg y2 23 ⟨B + 1, 1, none⟩ = some (.slice pw j cw) := u2.ld rfl agg23 (k := 1) rfl
  have f3 : loadA Pg y2 52 ⟨τ.next, 0, none⟩ = some (busV x') := ut.ldN agg52 size52 (k := 0) rfl rfl (by simp)
  have s1' : effOp Pg (evL [.pointer (some ⟨B + 2, 1, none⟩), .slice pe' (le + 1) ce']) y1 (.store 23 (.tmp 0) (.tmp 1)) = some (undef, y2) := by
   rw [hy2]; exact v3.store (k := 1) (vs := [.slice pe' (le + 1) ce']) rfl size23 rfl (by simp) rfl
  have s2' : effOp Pg (evL [.pointer (some ⟨B + 1, 1, none⟩), .slice pw' (j + 1) cw']) y3 (.store 23 (.tmp 0) (.tmp 1)) = some (undef, y4) := by
   rw [hy4]; exact r2.store (k := 1) (vs := [.slice pw' (j + 1) cw']) rfl size23 rfl (by simp) rfl
  rw [nx4] at a1
  unfold busV at f3
  rw [ex] at f3 a1 a2
  rw [hz4, hz3, hz2, hz1, ex] at a1 f1
  exact lNights_s1a lg ld rfl sh min_see min_see f1 a1 s1' f2 f3 a2 s2' (c1 _ hi hnew fin)
 | true =>
  have hm : ¬ Int.tmod (s.fdiv (2 ^ (min (wrapK .u64 (j : Int)).toNat 8))) 2 = 0 := by simpa [sideB] using hs
  obtain ⟨x', hx'⟩ : ∃ x', x' = wB k (x, true) := ⟨_, rfl⟩
  obtain ⟨x'', hx''⟩ : ∃ x'', x'' = lB k (x, true) := ⟨_, rfl⟩
  have ex : busL x' = [iV (max x.fr k), iV (max (max x.fr k) x.to), iV x.rate, iV x.full, iV x.floor, iV x.hlo, iV x.hhi, iV x.ulo, iV x.uhi] := by rw [hx']; rfl
  have ex2 : busL x'' = [iV (max x.fr k - k), iV (max (max x.fr k) x.to - k), iV x.rate, iV x.full, iV x.floor, iV x.hlo, iV x.hhi, iV x.ulo, iV x.uhi] := by rw [hx'']; rfl
  obtain ⟨z3, hz3⟩ : ∃ z, z = z2.own τ.next [iV (max x.fr k), iV x.to, iV x.rate, iV x.full, iV x.floor, iV x.hlo, iV x.hhi, iV x.ulo, iV x.uhi] 9 := ⟨_, rfl⟩
  obtain ⟨z4, hz4⟩ : ∃ z, z = z3.own τ.next (busL x') 9 := ⟨_, rfl⟩
  obtain ⟨z5, hz5⟩ : ∃ z, z = z4.row (busL x') 9 := ⟨_, rfl⟩
  have N4 : New τ z4 := by rw [hz4, hz3]; exact (N2.own (Nat.le_refl _)).own (Nat.le_refl _)
  have N5 : New τ z5 := by rw [hz5]; exact N4.row'
  have nx4 : z4.next = τ.next + 1 := by rw [hz4, hz3]; exact nx2
  have nx5 : z5.next = τ.next + 2 := by rw [hz5, St.row_next, nx4]
  have t4 : Own z4 τ.next (busL x') 9 := by rw [hz4, hz3]; exact t2.put.put
  have t5 : Own z5 τ.next (busL x') 9 := by rw [hz5]; exact t4.row
  have rx : RefP z5 none 0 (some ⟨τ.next + 1, 0, none⟩) 1 ⟨[], [x']⟩ := by
   refine ⟨⟨SlP.nil _ _, rfl, by simp⟩, ⟨⟨by simp [flat, Value.cells], ?_⟩, rfl, by simp only [List.map_cons, List.map_nil, List.mem_singleton, forall_eq]; exact elOk_busN x'⟩⟩
   have := row_new z4 (busL x') 9
   rw [nx4, ← hz5] at this
   exact this
  have ck := rFault_c (c := 0) (d := 1) rx
  by_cases hck : checkZ ⟨[], [x']⟩ = 0
  case neg =>
   rw [hz5, hz4, hz3, hz2, hz1, ex] at ck
   exact lNights_s1b lg ld rfl sh max_see max_see ck (c2 _)
  have bx' : busB x' = true := (valid_of hck).bus x' (by simp)
  have bi' := busB_iff bx'
  obtain ⟨pw', cw', y1, a1, gw1, ge1, gl1, dw1, dw2, o1, nxy1, hsep⟩ := grow3 x' gw ge gl d1 d2 N5 (by omega) (by omega)
  obtain ⟨y2, hy2⟩ : ∃ y, y = y1.own (B + 1) [s1, .slice pw' (j + 1) cw'] 2 := ⟨_, rfl⟩
  have k2 : Only (· = B + 1) y1 y2 := by rw [hy2]; exact Only.own (.inr rfl)
  have O2 : Only (fun b => AtP pw b ∨ b = B + 1) z5 y2 := (o1.mono (fun _ _ x => .inl x)).trans' k2 (by rintro b _ rfl; exact .inl (.inr rfl))
  have ne2 : ∀ b, b < B + 4 → b ≠ B + 1 → ¬ (AtP pw b ∨ b = B + 1) := fun b h1 h2 h3 => by
   rcases h3 with h3 | h3
   ·have := one gw b h3; omega
   ·exact h2 h3
  have v2 := o1.own' (w2.le N5.le) (fun h => by have := one gw _ h; omega)
  have u1 := O2.own' (w1.le N5.le) (ne2 _ (by omega) (by omega))
  have u3 := O2.own' (w3.le N5.le) (ne2 _ (by omega) (by omega))
  have u4 := O2.own' (w4.le N5.le) (ne2 _ (by omega) (by omega))
  have u2 : Own y2 (B + 1) [s1, .slice pw' (j + 1) cw'] 2 := by rw [hy2]; exact v2.put
  have ut := O2.own' t5 (fun h => by
   rcases h with h | h
   ·have := one gw _ h; omega
   ·omega)
  have ny2 : y2.next = y1.next := by rw [hy2]; rfl
  obtain ⟨y3, hy3⟩ : ∃ y, y = y2.own τ.next [iV (max x.fr k - k), iV (max (max x.fr k) x.to), iV x.rate, iV x.full, iV x.floor, iV x.hlo, iV x.hhi, iV x.ulo, iV x.uhi] 9 := ⟨_, rfl⟩
  obtain ⟨y4, hy4⟩ : ∃ y, y = y3.own τ.next (busL x'') 9 := ⟨_, rfl⟩
  have ny4 : y4.next = y1.next := by rw [hy4, hy3]; exact ny2
  have k3 : Only (· = τ.next) y2 y4 := by rw [hy4, hy3]; exact (Only.own (S := (· = τ.next)) (.inr rfl)).trans' (Only.own (.inr rfl)) (by rintro b _ rfl; exact .inl rfl)
  have t3 : Own y3 τ.next [iV (max x.fr k - k), iV (max (max x.fr k) x.to), iV x.rate, iV x.full, iV x.floor, iV x.hlo, iV x.hhi, iV x.ulo, iV x.uhi] 9 := by rw [hy3]; exact ut.put
  have t6 : Own y4 τ.next (busL x'') 9 := by rw [hy4]; exact t3.put
  have st : ∀ {b : Nat} {pp : Option Addr} {l0 c0 : Nat} {vs0 : List Value} {z z' : St}, Only (· = b) z z' → b < B + 4 → Gr Pg z n0 52 9 pp l0 c0 vs0 → Gr Pg z' n0 52 9 pp l0 c0 vs0 := fun k hb h => h.only k (by rintro b' h1 rfl; have := (h.bd h1).1; omega)
  have nw : ∀ b, AtP pw' b → b ≠ τ.next := by
   rintro b hb rfl
   have := hsep _ hb; omega
  have g1 : Gr Pg y4 n0 52 9 pw' (j + 1) cw' _ := (st k2 (by omega) gw1).only k3 (fun b hb h => nw b hb h)
  have g2 : Gr Pg y4 n0 52 9 pe le ce _ := (st k2 (by omega) ge1).only k3 (by rintro b hb rfl; have := one ge _ hb; omega)
  have g3 : Gr Pg y4 n0 52 9 pl ll cl _ := (st k2 (by omega) gl1).only k3 (by rintro b hb rfl; have := one gl _ hb; omega)
  have m1 := k3.own' u1 (by omega); have m2 := k3.own' u2 (by omega); have m3 := k3.own' u3 (by omega); have m4 := k3.own' u4 (by omega)
  obtain ⟨pl', cl', y5, a2, gl3, gw3, ge3, dl1, dl2, o3, nxy3, _⟩ := grow3 x'' g3 g1 g2 dw2.symm d3.symm (New.refl y4) (by omega) (by omega)
  obtain ⟨y6, hy6⟩ : ∃ y, y = y5.own (B + 3) [s3, .slice pl' (ll + 1) cl'] 2 := ⟨_, rfl⟩
  have k6 : Only (· = B + 3) y5 y6 := by rw [hy6]; exact Only.own (.inr rfl)
  have O6 : Only (fun b => AtP pl b ∨ b = B + 3) y4 y6 := (o3.mono (fun _ _ x => .inl x)).trans' k6 (by rintro b _ rfl; exact .inl (.inr rfl))
  have ne4 : ∀ b, b < B + 4 → ¬ AtP pl b := fun b h1 h3 => by have := one gl b h3; omega
  have r4 := o3.own' m4 (ne4 _ (by omega))
  have l1 : ∀ a, pw' = some a → a.block < y1.next := fun a e => (gw1.bd ⟨a, e, rfl⟩).2
  have hnew : New σ0 y6 := by
   refine (((hN.trans N5).of_only O2 ?_).of_only k3 ?_).of_only O6 ?_
   ·rintro b (h | h)
    ·have := one gw b h; omega
    ·omega
   ·rintro b rfl; omega
   ·rintro b (h | h)
    ·have := one gl b h; omega
    ·omega
  have fin : NightP y6 B (garL p g.ns c (some a) g.nb d) n0 s1 s2 s3 s k g.buses (j + 1) := by
   refine ⟨k6.own' (o3.own' m1 (ne4 _ (by omega))) (by omega), ⟨pw', cw', pe, le, ce, pl', ll + 1, cl', k6.own' (o3.own' m2 (ne4 _ (by omega))) (by omega), k6.own' (o3.own' m3 (ne4 _ (by omega))) (by omega), by rw [hy6]; exact r4.put, ?_, ?_, ?_, dw1, dl1.symm, dl2.symm⟩, ?_⟩
   ·have := st k6 (by omega) gw3
    rw [wL, nl_snoc hx, hs, List.map_append, List.map_append]; rw [hx'] at this; exact this
   ·have := st k6 (by omega) ge3
    rw [eL, nl_snoc hx, hs, List.filter_append, List.map_append, List.map_append]
    simpa using this
   ·have := st k6 (by omega) gl3
    rw [dL, nl_snoc hx, hs, List.filter_append, List.map_append, List.map_append]; rw [hx''] at this; exact this
   ·intro y hy hy2
    rw [nl_snoc hx, hs] at hy
    rcases List.mem_append.1 hy with h | h
    ·exact hval y h hy2
    ·simp at h; subst h; rw [← hx']; exact bx'
  have f1 : loadA Pg z5 23 ⟨B + 1, 1, none⟩ = some (.slice pw j cw) := (w2.le N5.le).ld rfl agg23 (k := 1) rfl
  have f2 : loadA Pg y2 3 ⟨τ.next, 0, none⟩ = some (iV (max x.fr k)) := ut.ld rfl agg3 (k := 0) (by rw [ex]; rfl)
  have f3 : loadA Pg y2 3 ⟨τ.next, 1, none⟩ = some (iV (max (max x.fr k) x.to)) := ut.ld rfl agg3 (k := 1) (by rw [ex]; rfl)
  have f4 : loadA Pg y4 23 ⟨B + 3, 1, none⟩ = some (.slice pl ll cl) := m4.ld rfl agg23 (k := 1) rfl
  have f5 : loadA Pg y4 52 ⟨τ.next, 0, none⟩ = some (busV x'') := t6.ldN agg52 size52 (k := 0) rfl rfl (by simp)
  have s1' : effOp Pg (evL [.pointer (some ⟨B + 1, 1, none⟩), .slice pw' (j + 1) cw']) y1 (.store 23 (.tmp 0) (.tmp 1)) = some (undef, y2) := by
   rw [hy2]; exact v2.store (k := 1) (vs := [.slice pw' (j + 1) cw']) rfl size23 rfl (by simp) rfl
  have s2' : effOp Pg (evL [.pointer (some ⟨B + 3, 1, none⟩), .slice pl' (ll + 1) cl']) y5 (.store 23 (.tmp 0) (.tmp 1)) = some (undef, y6) := by
   rw [hy6]; exact r4.store (k := 1) (vs := [.slice pl' (ll + 1) cl']) rfl size23 rfl (by simp) rfl
  have s3' : effOp Pg (evL [.pointer (some ⟨τ.next, 0, none⟩), iV (max x.fr k - k)]) y2 (.store 3 (.tmp 0) (.tmp 1)) = some (undef, y3) := by
   rw [hy3]; exact ut.store (k := 0) (vs := [iV (max x.fr k - k)]) rfl size3 rfl (by simp) (by rw [ex]; rfl)
  have s4' : effOp Pg (evL [.pointer (some ⟨τ.next, 1, none⟩), iV (max (max x.fr k) x.to - k)]) y3 (.store 3 (.tmp 0) (.tmp 1)) = some (undef, y4) := by
   rw [hy4]; exact t3.store (k := 1) (vs := [iV (max (max x.fr k) x.to - k)]) rfl size3 rfl (by simp) (by rw [ex2]; rfl)
  rw [nx5] at a1
  unfold busV at f5
  have b1 : x'.fr = max x.fr k := by rw [hx']; rfl
  have b2 : x'.to = max (max x.fr k) x.to := by rw [hx']; rfl
  have ny4' : y4.next = y2.next := by omega
  rw [ny4'] at a2
  rw [hy4, hy3, ex2] at a2 f4 f5 s4'
  rw [hy3] at s3'
  rw [hz5, hz4, hz3, hz2, hz1, ex] at a1 f1 ck
  rw [hck] at ck
  exact lNights_s1c lg ld rfl sh max_see max_see ck f1 a1 s1' f2 f3 s3' s4' f4 f5 a2 s2' (c1 _ hi hnew fin)
end
end Go.Proofs.Ythcdddbghldmiaa
