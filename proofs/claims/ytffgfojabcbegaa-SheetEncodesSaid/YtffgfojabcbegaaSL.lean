
import Derived.Test.YtffgfojabcbegaaSK
import Derived.Test.YtffgfojabcbegaaXD
namespace Go.Proofs.Ytffgfojabcbegaa
open Go Go.Lay
set_option linter.unusedVariables false
set_option linter.unusedSimpArgs false
set_option maxRecDepth 20000
def strB (bs : List Int) : List UInt8 := bs.map fun n => UInt8.ofNat n.toNat
theorem bytesA_map : ∀ bs : List Int, bytesA (bs.map byV) = some (strB bs)
 | [] => rfl
 | b :: bs => by rw [List.map_cons, bytesA, bytesA_map bs]; rfl
theorem eq_str {s : ByteArray} {o1 o2 : Operand} : binA Try.prog .eql 9 o1 o2 (.string s) (.string s) = some (.bool true) := by
 have e : binA Try.prog .eql 9 o1 o2 (.string s) (.string s) = (pureVal Try.prog (do eqGuard .eql 9 o1 o2 (.string s) (.string s); binOp .eql 9 (.string s) (.string s))).filter (rigidB RD) := by kernel_rfl
 have e1 : pureVal Try.prog (eqGuard .eql 9 o1 o2 (.string s) (.string s)) = some () := by kernel_rfl
 have e2 : binOp .eql 9 (.string s) (.string s) = pure (.bool (s.toList == s.toList)) := rfl
 rw [e, pv_bind, e1]
 simp only [Option.bind_some]
 rw [e2, pv_pure, beq_self_eq_true]
 rfl
section
variable {σ : St}
theorem conv_str {p : Option Addr} {c : Nat} {bs : List Int} (h : BytesP σ p bs.length bs) : seeOp Try.prog (evL [.slice p bs.length c]) σ (.convert 24 9 (.tmp 0)) = some (.string ⟨⟨strB bs⟩⟩) := by
 cases p with
 | none =>
  have h0 : bs.length = 0 := h.1.2
  have : bs = [] := List.eq_nil_of_length_eq_zero h0
  subst this
  show seeOp Try.prog (evL [.slice none 0 c]) σ (.convert 24 9 (.tmp 0)) = some (.string ⟨⟨[]⟩⟩)
  kernel_rfl
 | some a =>
  have hr := h.1.2
  rw [flatB] at hr
  have hrd := hr.rd
  rw [List.length_map] at hrd
  have e : seeOp Try.prog (evL [.slice (some a) bs.length c]) σ (.convert 24 9 (.tmp 0)) = (match readRow σ a bs.length with
    | some cs => match bytesA cs with
     | some bs => some (.string ⟨⟨bs⟩⟩)
     | none => none
    | none => none) := by kernel_rfl
  rw [e, hrd]
  simp only [bytesA_map]
theorem lEncodes_top {p : Option Addr} {l c : Nat} {xs : List Rec} (h : RecsP σ 59 p l xs) (hb : ∀ x ∈ xs, Byte x) : TopQ Try.prog 12 3 [.slice p l c] σ fun v _ => v = .bool true := by
 have hlen := h.len
 by_cases h65 : 65 < l
 ·exact lEncodes_ra rfl (by omega)
 obtain ⟨p1, c1, σ2, k1, n1, r1, _⟩ := Records_c (c := c) h (by omega)
 rcases Encode_c (c := c1) r1 (by omega) hb with ⟨hz, k2⟩ | ⟨hz, q3, d3, σ5, k2, n2, b3⟩
 ·obtain ⟨b, σ7, k3, n3, o3, _⟩ := one_c (c := c) (SlV.le h n1.le)
  have k4 := rFault_c (c := 1) (RowsP.single agg22 o3 ((SlV.le h n1.le).le n3.le)) (by omega) (by intro r hr; simp at hr; subst hr; omega)
  exact lEncodes_rb k1 k2 k3 k4 rfl (by omega) hz rfl rfl
 ·have L2 := n1.le.trans n2.le
  obtain ⟨b, σ7, k3, n3, o3, _⟩ := one_c (c := c) (SlV.le h L2)
  have L7 := L2.trans n3.le
  have k4 := rFault_c (c := 1) (RowsP.single agg22 o3 (SlV.le h L7)) (by omega) (by intro r hr; simp at hr; subst hr; omega)
  rw [hz] at k4
  have hz' := hz
  rw [faultZ_one] at hz'
  have h60 : xs.length ≤ 60 := by
   by_cases e : 60 < xs.length
   ·rw [if_pos e] at hz'; cases hz'
   ·omega
  have hall : xs.all rightB = true := by
   rw [if_neg (by omega)] at hz'
   cases e : xs.all rightB with
   | true => rfl
   | false => rw [e] at hz'; cases hz'
  obtain ⟨q10, c10, σ11, k6, n6, b6, _⟩ := rFile_c (c := c) (SlV.le h L7) (by omega) hall
  have b37 := SlV.le b3 n3.le
  have b311 := SlV.le b37 n6.le
  exact lEncodes_re k1 k2 k3 k4 (conv_str b37) k6 (conv_str b6) eq_str (belowL_cons (belowB_sl (slv_lt b37)) belowL_nil) (belowL_cons (belowB_sl (slv_lt (SlV.le h L7))) belowL_nil) (belowL_cons (belowB_sl (slv_lt b6)) belowL_nil)
   ⟨⟨belowL_cons (belowB_sl (slv_lt b37)) belowL_nil, rfl⟩, conv_str b37⟩ ⟨⟨belowL_cons (belowB_sl (slv_lt b311)) belowL_nil, rfl⟩, conv_str b311⟩ rfl (by omega) rfl rfl
end
end Go.Proofs.Ytffgfojabcbegaa
