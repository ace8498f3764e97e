
import Derived.Test.YtffgfojabcbegaaUP
import Derived.Test.YtffgfojabcbegaaXI
namespace Go.Proofs.Ytffgfojabcbegaa
open Go Go.Lay
set_option linter.unusedVariables false
set_option linter.unusedSimpArgs false
set_option maxRecDepth 20000
section
variable {σ τ : St}
theorem gr_st {n0 c l : Nat} {p : Option Addr} {L : List Rec} (h : Gr Try.prog τ n0 59 6 p l c (L.map recV)) {i : Nat} (x : Rec) (hi : i < L.length) :
  ∃ a τ', p = some a ∧ effOp Try.prog (evL [.pointer (some (aadd a (i * 6))), recV x]) τ (.store 59 (.tmp 0) (.tmp 1)) = some (undef, τ') ∧ Gr Try.prog τ' n0 59 6 p l c ((L.set i x).map recV) ∧ Only (AtP p) τ τ' := by
 have hL := h.len_eq
 have ha := h.app
 rw [flat_recs] at ha
 obtain ⟨cs, hcs⟩ : ∃ cs, cs = L.flatMap recL := ⟨_, rfl⟩
 have hcl : cs.length = L.length * 6 := by rw [hcs, recsL_len]
 have hLl : L.length = l := by simpa using hL
 rw [← hcs] at ha
 cases ha with
 | nil => omega
 | more h1 h2 h3 h4 h5 h6 h7 =>
  rename_i b s0 nx sp log
  subst h2
  have hw : writeRow τ ⟨b, 0 + i * 6, sp⟩ (recL x) = some (τ.put b (.cells ((L.set i x).flatMap recL) 6 [(sp.getD 0, cs.length)] nx false)) := by
   have e6 : (recL x).length = 6 := rfl
   have hc : (Nat.beq (sp.getD 0) (sp.getD 0) && Nat.ble (0 + i * 6 + 6) cs.length && !false && (recL x).all cellB) = true := by
    rw [Nat.beq_refl, (ble_iff _ _).2 (show 0 + i * 6 + 6 ≤ cs.length by omega)]; rfl
   unfold writeRow
   simp only [h1, stampOf, e6, hc, cond_true, fVs_eq, St.write_eq]
   have e : cs.take (0 + i * 6) ++ (recL x ++ cs.drop (0 + i * 6 + 6)) = (L.set i x).flatMap recL := by
    rw [Nat.zero_add, hcs]
    exact recs_set L i x hi
   rw [e]
  refine ⟨⟨b, 0, sp⟩, τ.put b (.cells ((L.set i x).flatMap recL) 6 [(sp.getD 0, cs.length)] nx false), rfl, ?_, ⟨?_, by simp [hLl], ?_⟩, Only.put (.inr ⟨_, rfl, rfl⟩)⟩
  ·have e0 : effOp Try.prog (evL [.pointer (some (aadd ⟨b, 0, sp⟩ (i * 6))), recV x]) τ (.store 59 (.tmp 0) (.tmp 1)) = (writeRow τ ⟨b, 0 + i * 6, sp⟩ (recL x)).map fun σ' => (undef, σ') := by
    have e1 : ∀ l : List Value, evL l (.tmp 0) = l.getD 0 undef := fun _ => rfl
    have e2 : ∀ l : List Value, evL l (.tmp 1) = l.getD 1 undef := fun _ => rfl
    have e3 : sizeT Try.prog 59 = some 6 := size59
    unfold effOp
    simp only [e1, e2, List.getD_cons_zero, List.getD_cons_succ, storeA, e3]
    rfl
   rw [e0, hw]; rfl
  ·rw [flat_recs]
   have e2 : ((L.set i x).flatMap recL).length = cs.length := by rw [recsL_len, hcl]; simp
   refine .more (log := []) (nx := nx) (s := sp.getD 0) ?_ rfl h3 h4 (by rw [e2]; omega) h6 h7
   rw [St.put_get, if_pos rfl, e2]
  ·intro v hv
   obtain ⟨y, _, rfl⟩ := List.mem_map.1 hv
   exact elOk_ref y
theorem swap_l {A B : List Rec} {x y : Rec} : ((A ++ y :: x :: B).set (A.length + 1) y).set A.length x = A ++ x :: y :: B := by
 simp [List.set_append]
end
end Go.Proofs.Ytffgfojabcbegaa
