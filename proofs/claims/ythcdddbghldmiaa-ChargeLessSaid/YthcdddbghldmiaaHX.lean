
import Derived.Test.YthcdddbghldmiaaCB
namespace Go.Proofs.Ythcdddbghldmiaa
open Go Go.Lay
set_option linter.unusedVariables false
section
variable {σ : St} {t n : Nat} {a : Addr} {v : Value} {vs : List Value}
theorem LD (h : loadA Try.prog σ t a = some v := by
  first
  | assumption
  | exact Own.ld (by assumption) rfl (by first | exact agg3 | exact agg59 | kernel_rfl) (by rfl)
  | exact Own.ld (Own.row (by assumption)) rfl (by first | exact agg3 | exact agg59 | kernel_rfl) (by rfl)
  | exact Own.ldN (by assumption) (by first | exact agg7 | exact agg8 | exact agg13 | exact agg14 | exact agg18 | exact agg19 | exact agg24 | exact agg25 | exact agg34 | exact agg35 | exact agg39 | exact agg46 | exact agg47 | exact agg49 | exact agg50 | exact agg51 | exact agg52 | exact agg63 | exact agg64 | exact agg71 | exact agg86 | exact agg94 | exact agg95 | exact agg96 | exact agg97 | exact agg102 | exact agg103 | exact agg104 | exact agg105 | exact agg109 | exact agg110 | exact agg112 | exact agg124 | exact agg125 | exact agg142 | exact agg143 | exact agg149 | exact agg150 | exact agg151 | exact agg152 | exact agg153 | exact agg161 | exact agg162) (by first | exact size7 | exact size8 | exact size13 | exact size14 | exact size18 | exact size19 | exact size24 | exact size25 | exact size34 | exact size35 | exact size39 | exact size46 | exact size47 | exact size49 | exact size50 | exact size51 | exact size52 | exact size63 | exact size64 | exact size71 | exact size86 | exact size94 | exact size95 | exact size96 | exact size97 | exact size102 | exact size103 | exact size104 | exact size105 | exact size109 | exact size110 | exact size112 | exact size124 | exact size125 | exact size142 | exact size143 | exact size149 | exact size150 | exact size151 | exact size152 | exact size153 | exact size161 | exact size162) (by rfl) (by rfl) (by simp)
  | exact Own.ldN (Own.row (by assumption)) (by first | exact agg7 | exact agg8 | exact agg13 | exact agg14 | exact agg18 | exact agg19 | exact agg24 | exact agg25 | exact agg34 | exact agg35 | exact agg39 | exact agg46 | exact agg47 | exact agg49 | exact agg50 | exact agg51 | exact agg52 | exact agg63 | exact agg64 | exact agg71 | exact agg86 | exact agg94 | exact agg95 | exact agg96 | exact agg97 | exact agg102 | exact agg103 | exact agg104 | exact agg105 | exact agg109 | exact agg110 | exact agg112 | exact agg124 | exact agg125 | exact agg142 | exact agg143 | exact agg149 | exact agg150 | exact agg151 | exact agg152 | exact agg153 | exact agg161 | exact agg162) (by first | exact size7 | exact size8 | exact size13 | exact size14 | exact size18 | exact size19 | exact size24 | exact size25 | exact size34 | exact size35 | exact size39 | exact size46 | exact size47 | exact size49 | exact size50 | exact size51 | exact size52 | exact size63 | exact size64 | exact size71 | exact size86 | exact size94 | exact size95 | exact size96 | exact size97 | exact size102 | exact size103 | exact size104 | exact size105 | exact size109 | exact size110 | exact size112 | exact size124 | exact size125 | exact size142 | exact size143 | exact size149 | exact size150 | exact size151 | exact size152 | exact size153 | exact size161 | exact size162) (by rfl) (by rfl) (by simp)) : loadA Try.prog σ t a = some v := h
theorem LT (h : a.block < n := by
  first
  | assumption
  | omega
  | (dsimp only [aadd_blk, St.row_next, St.own_next]; first | assumption | omega)
  | exact Own.lt (by assumption)
  | exact slv_lt (by assumption) _ rfl
  | exact Nat.lt_succ_of_lt (Own.lt (by assumption))
  | exact Nat.lt_succ_of_lt (slv_lt (by assumption) _ rfl)) : a.block < n := h
theorem GB (h1 : a.block < n := by exact LT) (h2 : goodB RD v = true := by rfl) (h3 : loadA Try.prog σ t a = some v := by exact LD) : (a.block < n ∧ goodB RD v = true) ∧ loadA Try.prog σ t a = some v := ⟨⟨h1, h2⟩, h3⟩
theorem BL (h : belowL n vs := by
  (repeat' (first | exact belowL_nil | refine belowL_cons ?_ ?_)) <;>
  (first | exact belowB_rig rfl | exact belowB_ptr LT | exact belowB_sl1 LT | exact belowB_sl (by assumption) | exact belowB_sl (slv_lt (by assumption)))) : belowL n vs := h
theorem ST {τ : St} {b k m : Nat} {cs ds : List Value} (h : Own σ b cs m) (hv : v.cells.toList = [v] := by rfl) (hs : sizeT Try.prog t = some 1 := by kernel_rfl) (hc : cellB v = true := by rfl) (hk : k < cs.length := by simp) (hd : cs.take k ++ ([v] ++ cs.drop (k + 1)) = ds := by rfl) (hτ : τ = σ.own b ds m := by rfl) :
  effOp Try.prog (evL [.pointer (some ⟨b, k, none⟩), v]) σ (.store t (.tmp 0) (.tmp 1)) = some (undef, τ) := by
 subst hτ; exact h.store hv hs (by simp [hc]) hk hd
end
end Go.Proofs.Ythcdddbghldmiaa
