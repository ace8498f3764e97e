
import Derived.Test.YthcdddbghldmiaaCH
namespace Go.Proofs.Ythcdddbghldmiaa
open Go Go.Lay
set_option linter.unusedVariables false
set_option linter.unusedSimpArgs false
set_option maxRecDepth 20000
section
variable {σ τ : St} {w b : Nat} {g : Gar} {W : Wk} {p q pp : Option Addr} {c d cp : Nat} {B : Nat → Nat} {ms : List Nat}
theorem only_true {σ τ : St} (h : σ.next ≤ τ.next) : Only (fun _ => True) σ τ := ⟨h, fun _ _ k => (k trivial).elim, fun m h1 h2 h3 => by
 by_cases e : σ.next = 0
 ·omega
 ·have := h3 0 (by omega) trivial; omega⟩
theorem ways_range {σ τ : St} {i B1 B2 a1 a2 : Nat} {bus : Bus} {q1 : Addr} {l1 c1 : Nat} {i19 : Int} (hw : WkAt σ w g W p c q d pp cp B) (hF : Feas g W) (hv : Valid g) (hb : g.buses[i]? = some bus)
  (hJ : WJ σ τ w b (waysU g W i) ms) (o1 : Own τ B1 [iV (i : Int)] 1) (o2 : Own τ B2 (busL bus) 9) (n1 : B1 ≠ b + 1) (n2 : B2 ≠ b + 1) (r1 : Row τ ⟨a1, 0, none⟩ (busL bus)) (r2 : Row τ ⟨a2, 0, none⟩ (garL p g.ns c q g.nb d)) (hms : ∀ m ∈ ms, m < τ.next) :
  ways_R2 b (b + 1) (b + 2) B1 B2 q1 l1 c1 i19 82 [.pointer (some ⟨a1, 0, none⟩), .pointer (some ⟨a2, 0, none⟩)] τ fun τ' => WJ σ τ' w b (waysU g W (i + 1)) (τ.next :: ms) := by
 have hi : i < g.nb := (List.getElem?_eq_some_iff.1 hb).1
 have hns := hv.ns; have hnb := hv.nb
 have hge := hJ.ge.1
 refine rangeG_of (fs := [.pointer (some ⟨a1, 0, none⟩), .pointer (some ⟨a2, 0, none⟩)]) (f := 82) (fun g0 => by kernel_rfl) (fun g0 => ?_)
 obtain ⟨τa, hτa⟩ : ∃ τa, τa = (τ.add .defd).add (ways_k2 b (b + 1) (b + 2) B1 B2 q1 l1 c1 i19 82 [.pointer (some ⟨a1, 0, none⟩), .pointer (some ⟨a2, 0, none⟩)] g0 .ready none τ.next) := ⟨_, rfl⟩
 have hN : New τ τa := by rw [hτa]; exact (New.add _ _).trans (New.add _ _)
 have nxa : τa.next = τ.next + 2 := by rw [hτa]; rfl
 have Ld : getB τa.heap τ.next = some .defd := by
  rw [hτa, St.add_get, if_neg (by simp), St.add_get, if_pos rfl]
 have Ll : getB τa.heap (τ.next + 1) = some (ways_k2 b (b + 1) (b + 2) B1 B2 q1 l1 c1 i19 82 [.pointer (some ⟨a1, 0, none⟩), .pointer (some ⟨a2, 0, none⟩)] g0 .ready none τ.next) := by
  rw [hτa, St.add_get, if_pos (by simp)]
 have Ja : WJ σ τa w b (waysU g W i) (τ.next :: ms) := by
  have h := hJ.le hN
  refine ⟨h.new, h.ow, h.oc, h.out, fun m hm => ?_, List.nodup_cons.2 ⟨fun hm => by have := hms _ hm; omega, hJ.nodup⟩, h.ge.1, fun m hm => ?_⟩
  ·rcases List.mem_cons.1 hm with rfl | hm
   ·exact ⟨Ld, by omega⟩
   ·exact h.marks m hm
  ·rcases List.mem_cons.1 hm with rfl | hm
   ·exact hJ.new.nx
   ·exact h.ge.2 m hm
 let J : Nat → St → Prop := fun s z => WJ σ z w b (waysU g W i ++ waysI g W i bus s) (τ.next :: ms) ∧ getB z.heap (τ.next + 1) = some (ways_k2 b (b + 1) (b + 2) B1 B2 q1 l1 c1 i19 82 [.pointer (some ⟨a1, 0, none⟩), .pointer (some ⟨a2, 0, none⟩)] g0 .ready none τ.next) ∧ τ.next + 1 < z.next ∧
  Own z B1 [iV (i : Int)] 1 ∧ Own z B2 (busL bus) 9 ∧ (z = τa.re ∧ waysI g W i bus s = [] ∨ z.low ≤ τ.next + 1) ∧ τa.next ≤ z.next
 have hrun : RunsQ Try.prog 82 [.func (.yield (τ.next + 1)) ⟨[]⟩ ⟨[]⟩, .pointer (some ⟨a1, 0, none⟩), .pointer (some ⟨a2, 0, none⟩)] τa.re fun v s => v = .tuple ⟨[]⟩ ∧ J g.ns s := by
  refine stay1_run (hv.b hb) ((r1.le hN.le).le (le0 _)) ((r2.le hN.le).le (le0 _)) (by omega) (J := J) ?_ ?_
  ·refine ⟨?_, Ll, by simp; omega, (o1.le hN.le).le (le0 _), (o2.le hN.le).le (le0 _), .inl ⟨rfl, by simp [waysI]⟩, Nat.le_refl _⟩
   have : waysI g W i bus 0 = [] := by simp [waysI]
   rw [this, List.append_nil]
   exact Ja.le (New.re _)
  ·rintro s z hs ⟨j1, j2, j3, j4, j5, j6, j7⟩
   cases ht : thereB bus (s : Int) with
   | true =>
    rw [if_pos rfl]
    have hlen : (waysU g W i ++ waysI g W i bus s).length ≤ 1000 := by
     rw [List.length_append]
     have := waysU_len (W := W) hv (i := i) (by omega)
     have := waysI_len (g := g) (W := W) (i := i) (bus := bus) (n := s)
     omega
    obtain ⟨z', k1, k2, k3, k4, k5, k6, k7⟩ := ways_round hw hF hv hb hs j1 hlen j2 j3 (by have := hJ.new.nx; omega) j4 j5 n1 n2
    refine ⟨z', k1, ?_, k3, k4, k5, k6, .inr k7, ?_⟩
    ·rw [waysI_succ, if_pos ht, ← List.append_assoc]; exact k2
    ·have h1 : z.next ≤ z'.next := by
      obtain ⟨N0, hN0⟩ := k1
      have := k2.new.nx
      have hc := hN0 N0 (Nat.le_refl _)
      unfold callA at hc
      split at hc
      ·cases hc
      ·rename_i v1 s1 h1
       unfold backA at hc
       rcases Bool.eq_false_or_eq_true (Nat.ble z.next s1.low && rigidB RD v1) with e | e
       ·rw [e, cond_true] at hc; simp at hc; rw [← hc.2]; exact Nat.le_refl _
       ·rw [e, cond_false] at hc
        rcases Bool.eq_false_or_eq_true (Nat.ble z.next s1.next) with e2 | e2
        ·rw [e2, cond_true, fN_eq] at hc; simp at hc; rw [← hc.2]; exact (ble_iff _ _).1 e2
        ·rw [e2, cond_false] at hc; cases hc
     omega
   | false =>
    rw [if_neg (by simp)]
    refine ⟨?_, j2, j3, j4, j5, ?_, j7⟩
    ·rw [waysI_succ, if_neg (by simp [ht]), List.append_nil]; exact j1
    ·rcases j6 with ⟨e1, e2⟩ | e
     ·exact .inl ⟨e1, by rw [waysI_succ, e2, if_neg (by simp [ht])]; rfl⟩
     ·exact .inr e
 have hcall : ∃ z, CallsA Try.prog 82 [.func (.yield (τ.next + 1)) ⟨[]⟩ ⟨[]⟩, .pointer (some ⟨a1, 0, none⟩), .pointer (some ⟨a2, 0, none⟩)] τa (.tuple ⟨[]⟩) z ∧ WJ σ z w b (waysU g W (i + 1)) (τ.next :: ms) ∧ getB z.heap (τ.next + 1) = some (ways_k2 b (b + 1) (b + 2) B1 B2 q1 l1 c1 i19 82 [.pointer (some ⟨a1, 0, none⟩), .pointer (some ⟨a2, 0, none⟩)] g0 .ready none τ.next) ∧ τ.next + 1 < z.next := by
  rw [waysU_succ hb]
  obtain ⟨v, s, h1, rfl, j1, j2, j3, j4, j5, j6, j7⟩ := hrun
  rcases j6 with ⟨rfl, e2⟩ | e
  ·refine ⟨τa, pure_c h1 (Nat.le_refl _) rfl, ?_, Ll, by omega⟩
   rw [e2, List.append_nil]; exact Ja
  ·have j1' : WJ σ ⟨s.heap, s.next, σ.next⟩ w b (waysU g W i ++ waysI g W i bus g.ns) (τ.next :: ms) := ⟨⟨⟨j1.new.nx, j1.new.le.get⟩, fun m _ h2 => h2⟩, ⟨j1.ow.get, j1.ow.lt⟩, ⟨j1.oc.get, j1.oc.lt⟩, by obtain ⟨po, lo, co, x1, x2⟩ := j1.out; exact ⟨po, lo, co, ⟨x1.get, x1.lt⟩, x2.le ⟨Nat.le_refl _, fun _ _ => rfl⟩⟩, j1.marks, j1.nodup, j1.ge⟩
   obtain ⟨v', z, k1, k2, rfl, k3, k4, k5⟩ := RunsQ.mut (σ := τa) (S := fun _ => True) (Q := fun v z => v = .tuple ⟨[]⟩ ∧ WJ σ ⟨z.heap, z.next, σ.next⟩ w b (waysU g W i ++ waysI g W i bus g.ns) (τ.next :: ms) ∧ getB z.heap (τ.next + 1) = some (ways_k2 b (b + 1) (b + 2) B1 B2 q1 l1 c1 i19 82 [.pointer (some ⟨a1, 0, none⟩), .pointer (some ⟨a2, 0, none⟩)] g0 .ready none τ.next) ∧ τ.next + 1 < z.next)
    ⟨_, s, h1, only_true j7, .inl (by omega), rfl, j1', j2, j3⟩ (by rintro v z m ⟨rfl, x1, x2, x3⟩; exact ⟨rfl, x1, x2, x3⟩)
   refine ⟨z, k1, ?_, k4, k5⟩
   obtain ⟨N0, hN0⟩ := k1
   have hlow : ∀ m, m ≤ σ.low → m ≤ σ.next → m ≤ z.low := by
    intro m h1' h2'
    have hc := hN0 _ (Nat.le_max_left N0 h1.choose)
    have hr := h1.choose_spec (max N0 h1.choose) (Nat.le_max_right _ _)
    unfold callA at hc
    rw [show (⟨τa.heap, τa.next, τa.next⟩ : St) = τa.re from rfl, hr] at hc
    have hc : backA τa (.tuple ⟨[]⟩) s = some (.tuple ⟨[]⟩, z) := hc
    unfold backA at hc
    have e1 : Nat.ble τa.next s.low = false := by
     rw [Bool.eq_false_iff]; intro e'; have := (ble_iff _ _).1 e'; omega
    have e2 : Nat.ble τa.next s.next = true := (ble_iff _ _).2 j7
    rw [e1, Bool.false_and, cond_false, e2, cond_true, fN_eq, cond_ble] at hc
    simp at hc
    rw [← hc]
    have a1' := j1.new.low m h1' h2'
    have a2' := Ja.new.low m h1' h2'
    show m ≤ min _ _
    omega
   exact ⟨⟨⟨k3.new.nx, k3.new.le.get⟩, hlow⟩, ⟨k3.ow.get, k3.ow.lt⟩, ⟨k3.oc.get, k3.oc.lt⟩, by obtain ⟨po, lo, co, x1, x2⟩ := k3.out; exact ⟨po, lo, co, ⟨x1.get, x1.lt⟩, x2.le ⟨Nat.le_refl _, fun _ _ => rfl⟩⟩, k3.marks, k3.nodup, k3.ge⟩
 obtain ⟨z, k1, k2, k3, k4⟩ := hcall
 refine ⟨_, z, .ready, none, by rw [hτa] at k1; exact k1, k3, .inl ⟨rfl, rfl⟩, .inl ⟨rfl, ?_⟩⟩
 refine k2.chg ⟨_, _, _, _, _, _, _, k3⟩ (by have := hJ.new.nx; omega) (fun y hy _ => ?_) (Nat.le_refl _) (fun m h1 h2 => ?_)
 ·rw [St.put_get, if_neg hy]
 ·have := k2.new.low m h1 h2; have := hJ.new.nx
  show m ≤ min _ _
  omega
end
end Go.Proofs.Ythcdddbghldmiaa
