
import Derived.Test.YtmdopblmkkameaaRP
import Derived.Test.YtmdopblmkkameaaRW
import Derived.Test.YtmdopblmkkameaaXM
namespace Go.Proofs.Ytmdopblmkkameaa
open Go Go.Lay
set_option linter.unusedVariables false
set_option linter.unusedSimpArgs false
set_option maxRecDepth 20000
def GridI (z : St) (n1 q m : Nat) (L : Nat → List Int) : Prop := ∃ vs : List Value, Own z q vs 1 ∧ vs.length = m ∧ (∀ i, i < m → ∃ p c, vs[i]? = some (Value.slice p (L i).length c) ∧ App z n1 1 (.slice p (L i).length c) (L i).length ((L i).map intV)) ∧
 ∀ (i j : Nat) p l c p' l' c', i ≠ j → vs[i]? = some (Value.slice p l c) → vs[j]? = some (Value.slice p' l' c') → ∀ b, AtP p b → ¬ AtP p' b
theorem GridI.kept {z z' : St} {n1 q m : Nat} {L : Nat → List Int} (h : GridI z n1 q m L) (k : Kept z z') : GridI z' n1 q m L := by
 obtain ⟨vs, a1, a2, a3, a4⟩ := h
 exact ⟨vs, k.own a1, a2, fun i hi => by obtain ⟨p, c, g1, g2⟩ := a3 i hi; exact ⟨p, c, g1, k.app g2⟩, a4⟩
theorem GridI.congr {z : St} {n1 q m : Nat} {L L' : Nat → List Int} (h : GridI z n1 q m L) (e : ∀ i, i < m → L i = L' i) : GridI z n1 q m L' := by
 obtain ⟨vs, a1, a2, a3, a4⟩ := h
 exact ⟨vs, a1, a2, fun i hi => by rw [← e i hi]; exact a3 i hi, a4⟩
theorem GridI.rowsF {z : St} {n0 n1 q m : Nat} {L : Nat → List Int} (h : GridI z n1 q m L) (h0 : n0 ≤ n1) (hq : n0 ≤ q) : RowsF z n0 (some ⟨q, 0, none⟩) m ((List.range m).map fun i => L i) := by
 obtain ⟨vs, a1, a2, a3, a4⟩ := h
 have hsl : ∀ v ∈ vs, ∃ p l c, v = Value.slice p l c := by
  intro v hv
  obtain ⟨i, hi, rfl⟩ := List.mem_iff_getElem.1 hv
  obtain ⟨p, c, g1, _⟩ := a3 i (by omega)
  rw [List.getElem?_eq_getElem hi] at g1
  exact ⟨_, _, _, Option.some.inj g1⟩
 have hfl : flat vs = vs := by
  have : ∀ v ∈ vs, v.cells.toList = [v] := by
   intro v hv
   obtain ⟨p, l, c, rfl⟩ := hsl v hv; rfl
  clear hsl
  clear a1 a2 a3 a4
  induction vs with
  | nil => rfl
  | cons v vs ih =>
   rw [show (v :: vs) = [v] ++ vs from rfl, flat_append, ih (fun w hw => this w (List.mem_cons_of_mem _ hw))]
   have := this v List.mem_cons_self
   simp [flat, this]
 refine ⟨vs, ⟨⟨?_, ?_⟩, a2, ?_⟩, by simp, ?_, ?_⟩
 ·rw [hfl]; omega
 ·show Row z ⟨q, 0, none⟩ (flat vs)
  rw [hfl]; exact a1.rw
 ·intro v hv
  obtain ⟨p, l, c, rfl⟩ := hsl v hv
  exact elOk_row _ _ _
 ·rintro b ⟨a, e, rfl⟩; cases e; exact hq
 ·intro i r hi
  rw [List.getElem?_map] at hi
  by_cases hm : i < m
  ·rw [List.getElem?_range hm] at hi
   cases hi
   obtain ⟨p, c, g1, g2⟩ := a3 i hm
   refine ⟨p, c, g1, app_i g2, ?_⟩
   rintro b ⟨a, rfl, rfl⟩
   have := g2.ge a rfl; omega
  ·rw [List.getElem?_eq_none (by simp; omega)] at hi; cases hi
theorem GridI.push {σ : St} {n1 q m i : Nat} {k : Int} {L : Nat → List Int} (h : GridI σ n1 q m L) (hi : i < m) (hq : q < n1) (hn : n1 ≤ σ.next) (hlen : (L i).length ≤ 100000) :
  ∃ p c p' c' σ1 σ2, loadA Try.prog σ 41 (aadd ⟨q, 0, none⟩ (Int.toNat (i : Int) * 1)) = some (.slice p (L i).length c) ∧ loadA Try.prog (σ.row [iV k] 1) 41 (aadd ⟨q, 0, none⟩ (Int.toNat (i : Int) * 1)) = some (.slice p (L i).length c) ∧
   appendA Try.prog 41 41 (.slice p (L i).length c) (.slice (some ⟨σ.next, 0, none⟩) 1 1) (σ.row [iV k] 1) = some (.slice p' ((L i).length + 1) c', σ1) ∧
   effOp Try.prog (evL [.pointer (some (aadd ⟨q, 0, none⟩ (Int.toNat (i : Int) * 1))), .slice p' ((L i).length + 1) c']) σ1 (.store 41 (.tmp 0) (.tmp 1)) = some (undef, σ2) ∧
   (∀ a, p = some a → a.block < σ.next) ∧ (∀ a, p' = some a → a.block < σ1.next) ∧ Only (AtP p) σ σ1 ∧ Only (fun b => b = q ∨ AtP p b) σ σ2 ∧ (∀ b, AtP p b → n1 ≤ b ∧ ∃ cs log nx, getB σ.heap b = some (.cells cs 1 log nx false)) ∧ (∃ cs log nx, getB σ.heap q = some (.cells cs 1 log nx false)) ∧
   GridI σ2 n1 q m fun j => if j = i then L i ++ [k] else L j := by
 obtain ⟨vs, a1, a2, a3, a4⟩ := h
 obtain ⟨p, c, g1, g2⟩ := a3 i hi
 have hr : Row (σ.row [iV k] 1) ⟨σ.next, 0, none⟩ [iV k] := (own_new σ [iV k] 1).rw
 have g2' := Kept.app (Kept.of_le (Le.row σ [iV k] 1)) g2
 obtain ⟨p', c', σ1, e1, e2, e3, e4⟩ := app_step2 (k := 1) appT_ints g2' hr (m := 1) rfl (by omega) (by omega) rfl (by simp; omega)
 have o3 : Only (AtP p) σ σ1 := (New.row σ [iV k] 1).only.trans' e3 (fun b _ h => .inl h)
 have hqp : ¬ AtP p q := by rintro ⟨a, rfl, rfl⟩; have := g2.ge a rfl; omega
 have a1' := o3.own' a1 hqp
 have hi' : i < vs.length := by omega
 have st := a1'.stI (P := Try.prog) (t := 41) (v := .slice p' ((L i).length + 1) c') (i := i) rfl (by kernel_rfl) rfl hi'
 have k3 : Only (fun b => b = q) σ1 (σ1.own q (vs.set i (.slice p' ((L i).length + 1) c')) 1) := Only.own (.inr rfl)
 have hle : σ.next ≤ σ1.next := o3.next
 refine ⟨p, c, p', c', σ1, _, ?_, ?_, e1, st, g2.lt, e2.lt, o3, (o3.mono (T := fun b => b = q ∨ AtP p b) (fun b _ h => .inr h)).trans' k3 (fun b _ h => .inl (.inl h)), ?_, ⟨_, _, _, a1.get⟩, ?_⟩
 ·have := a1.ldI (P := Try.prog) (t := 41) agg41 g1; simpa [aadd] using this
 ·have := (a1.le (Le.row σ [iV k] 1)).ldI (P := Try.prog) (t := 41) agg41 g1; simpa [aadd] using this
 ·rintro b ⟨a, rfl, rfl⟩
  refine ⟨g2.ge a rfl, ?_⟩
  cases g2 with
  | more h1 _ _ _ _ _ _ => exact ⟨_, _, _, h1⟩
 ·refine ⟨vs.set i (.slice p' ((L i).length + 1) c'), Own.put a1', by simpa using a2, fun j hj => ?_, fun x y px lx cx py ly cy hxy hx hy b hbx hby => ?_⟩
  ·by_cases hji : j = i
   ·subst hji
    refine ⟨p', c', by simp [hi'], ?_⟩
    simp only [if_true]
    have : App (σ1.own q (vs.set j (.slice p' ((L j).length + 1) c')) 1) n1 1 (.slice p' ((L j).length + 1) c') ((L j).length + 1) (((L j).map intV) ++ [iV k]) := App.own' e2 hq
    simpa [intV] using this
   ·obtain ⟨pj, cj, j1, j2⟩ := a3 j hj
    refine ⟨pj, cj, by rw [List.getElem?_set_ne (by omega)]; simpa [hji] using j1, ?_⟩
    simp only [hji, if_false]
    exact App.own' (o3.app' j2 (by rintro a l' c'' e hs; cases e; exact a4 j i _ _ _ _ _ _ hji j1 g1 _ ⟨a, rfl, rfl⟩ hs)) hq
  ·
   have hnew : ∀ z pz lz cz, z ≠ i → vs[z]? = some (Value.slice pz lz cz) → ∀ b, AtP pz b → ¬ AtP p' b := by
    intro z pz lz cz hz hv b hb hb'
    have hzl : z < m := by
     have := (List.getElem?_eq_some_iff.1 hv).1; omega
    rcases e4 b hb' with h | h
    ·exact a4 z i _ _ _ _ _ _ hz hv g1 _ hb h
    ·obtain ⟨pj, cj, j1, j2⟩ := a3 z hzl
     rw [hv] at j1; cases j1
     obtain ⟨a, rfl, rfl⟩ := hb
     have := j2.lt a rfl
     simp at h; omega
   by_cases hxi : x = i
   ·subst hxi
    rw [List.getElem?_set_self hi'] at hx
    cases hx
    rw [List.getElem?_set_ne hxy] at hy
    exact hnew y _ _ _ (fun e => hxy e.symm) hy b hby hbx
   ·rw [List.getElem?_set_ne (fun e => hxi e.symm)] at hx
    by_cases hyi : y = i
    ·subst hyi
     rw [List.getElem?_set_self hi'] at hy
     cases hy
     exact hnew x _ _ _ hxi hx b hbx hby
    ·rw [List.getElem?_set_ne (fun e => hyi e.symm)] at hy
     exact a4 x y _ _ _ _ _ _ hxy hx hy b hbx hby
theorem gridI_new {σ : St} {q m n1 : Nat} (o : Own σ q (List.replicate m (Value.slice none 0 0)) 1) : GridI σ n1 q m fun _ => [] := by
 refine ⟨_, o, by simp, fun i hi => ⟨none, 0, by simp [hi], .nil⟩, fun i j p l c p' l' c' _ h1 _ b hb => ?_⟩
 rw [List.getElem?_replicate] at h1
 split at h1
 ·cases h1; exact (AtP.none hb).elim
 ·cases h1
end Go.Proofs.Ytmdopblmkkameaa
