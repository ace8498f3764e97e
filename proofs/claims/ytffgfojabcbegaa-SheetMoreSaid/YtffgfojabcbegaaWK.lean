import Derived.Test.YtffgfojabcbegaaWG
import Derived.Test.YtffgfojabcbegaaTy
import Derived.Test.YtffgfojabcbegaaWJ

namespace Go.Proofs.Ytffgfojabcbegaa
open Go Go.Lay
set_option linter.unusedVariables false
set_option linter.unusedSimpArgs false
set_option maxRecDepth 20000
theorem fault_of {xs : List Rec} (hl : xs.length ≤ 60) (hr : ∀ x ∈ xs, yA x = true) : xG [xs] = 0 := by
 rw [yNA, if_neg (by omega), if_pos (List.all_eq_true.2 hr)]
theorem yGH {l : List Rec} (hs : Srt l) (hc : vD l) : xM l = l := (yCP hc hs fun _ => Iff.rfl).symm
theorem yNU {xs : List Rec} (hr : ∀ x ∈ xs, yA x = true) : ∀ x ∈ xs, zXL x := fun x hx => by
 have := zFN (hr x hx)
 unfold zXL; omega
section
variable {σ σ8 : St}
end
end Go.Proofs.Ytffgfojabcbegaa

namespace Go.Proofs.Ytffgfojabcbegaa
open Go Go.Lay
open Try renaming prog → Pg
set_option linter.unusedVariables false
set_option linter.unusedSimpArgs false
set_option maxRecDepth 20000
section
variable {P : Program} {σ : St}
theorem copy_new {st xt e n m k b : Nat} {q : Option Addr} {xs : List Value} (T : AppT P st xt e n) (o : Own σ b [] n) (hs : SlP σ n q m xs) (hroom : m ≤ 1073741824) (hc : xs.all cellB = true) :
  ∃ p' c' σ', zU P st xt (.slice (some ⟨b, 0, none⟩) 0 0) (.slice q m k) σ = some (.slice p' m c', σ') ∧ ((m = 0 ∧ σ' = σ ∧ p' = some ⟨b, 0, none⟩) ∨ (0 < m ∧ p' = some ⟨σ.next, 0, none⟩ ∧ σ' = σ.row xs n)) := by
 obtain ⟨xd, hxd, hxi⟩ := T.src
 obtain ⟨ei, z, hei, hz, hby, hrz, hzl⟩ := T.info
 have hsrc : zCC σ n z xd (.slice q m k) = some (m, xs) := by
  have : wK σ n (.slice q m k) = some (m, xs) := by
   cases q with
   | none =>
    obtain ⟨h1, h2⟩ := hs
    have h2 : m = 0 := h2
    subst h2
    have : xs = [] := List.eq_nil_of_length_eq_zero (by omega)
    subst this
    simp [wK]
   | some a =>
    have hrd := hs.2.rd
    rw [hs.1] at hrd
    simp [wK, hrd]
  unfold zCC
  cases xd with
  | int _ => cases hxi
  | _ => simp only [this]
 have hcond : (zCY (0 + m) n ei.bytes && xs.all cellB && Nat.beq xs.length (m * n) && zP RD z && Nat.beq z.cells.toList.length n) = true := by
  unfold zCY
  rw [(zO _ _).2 (by omega), (zO _ _).2 T.le, (zO _ _).2 hby, hc, hs.1, Nat.beq_refl, hrz, hzl]; rfl
 have hc0 : yG 0 = 0 := by unfold yG; have := zAW; rw [if_neg (by omega)]
 have hc1 : yV 0 = true := (yX 0).2 zAW
 rcases Nat.eq_zero_or_pos m with h0 | h0
 ·subst h0
  have hx : xs = [] := List.eq_nil_of_length_eq_zero (by have := hs.1; omega)
  subst hx
  have hlc : Nat.ble (0 + 0) (yG 0) = true := by rw [hc0]; rfl
  refine ⟨some ⟨b, 0, none⟩, 0, σ, ?_, .inl ⟨rfl, rfl, rfl⟩⟩
  unfold zU
  simp only [T.el, hxd, hei, hz, hsrc, hcond, cond_true, uN, hlc]
  simp
 ·have hble : Nat.ble (0 + m) 0 = false := by rw [Bool.eq_false_iff]; intro e; have := (zO _ _).1 e; omega
  have hrd := o.rw.rd
  have hrd : yP σ ⟨b, 0, none⟩ (0 * n) = some [] := by rw [Nat.zero_mul]; exact hrd
  refine ⟨some ⟨σ.next, 0, none⟩, 0 + m + zBQ, σ.add (.cells xs n [(0, xs.length)] 1 false), ?_, .inr ⟨h0, rfl, rfl⟩⟩
  have : zU P st xt (.slice (some ⟨b, 0, none⟩) 0 0) (.slice q m k) σ = some (.slice (some ⟨σ.next, 0, none⟩) (0 + m) (0 + m + zBQ), σ.add (.cells xs n [(0, xs.length)] 1 false)) := by
   unfold zU
   simp only [T.el, hxd, hei, hz, hsrc, hcond, cond_true, uN, hc0, hble, cond_false, hc1, hrd, List.nil_append, yL]
  rw [this, Nat.zero_add]
end
theorem yNO (xs : List Rec) : (zAI (xs.map yH)).all cellB = true := by
 induction xs with
 | nil => rfl
 | cons x xs ih =>
  rw [List.map_cons, show (yH x :: xs.map yH) = [yH x] ++ xs.map yH from rfl, zDZ, List.all_append, ih]
  rfl
theorem rate_bd {rate : Int} (h : 0 ≤ rate) : 0 ≤ rate.tmod 1001 ∧ rate.tmod 1001 ≤ 1000 := by
 have h1 := Int.tmod_nonneg 1001 h
 have h2 := Int.tmod_lt_of_pos rate (show (0 : Int) < 1001 by omega)
 omega
theorem yGC {L : List Rec} {rate : Int} {W : Nat → Int} (hs : Srt L) (hc : vD L) (r0 : 0 ≤ rate) (r1 : rate ≤ 1000) (hW : ∀ i, 0 ≤ W i) {i : Nat} (hi : i < L.length) : 0 ≤ xO L rate W i := by
 have := zGF hs hc r0 r1 hW i hi
 unfold xO; rw [Int.tdiv_eq_ediv_of_nonneg (by omega)]; omega
theorem zTE {x : Rec} {m : Int} (h : yA x = true) (h0 : 0 ≤ m) (h1 : m ≤ 1000000) : yA { x with k := 1, a := m, b := 0 } = true := by
 have e : yA { x with k := 1, a := m, b := 0 } = (inB x.m 0 999 && inB x.s 1 9999 && inB x.t 0 1000000 && (inB m 0 1000000 && true)) := rfl
 rw [e]
 unfold yA at h
 simp only [Bool.and_eq_true, zJF] at h ⊢
 exact ⟨h.1, ⟨h0, h1⟩, trivial⟩
theorem yWO {x : Rec} (h : yA x = true) (hk : x.k = 1) : x.b = 0 := by
 unfold yA at h
 rw [if_neg (by omega), if_pos hk] at h
 simp only [Bool.and_eq_true, decide_eq_true_eq] at h
 exact h.2.2
theorem yDZ {L : List Rec} {rate : Int} {W : Nat → Int} (hs : Srt L) (hc : vD L) (r0 : 0 ≤ rate) (r1 : rate ≤ 1000) (hW : ∀ i, 0 ≤ W i) (hr : ∀ x ∈ L, yA x = true) (hle : ∀ i, i < L.length → xO L rate W i ≤ 1000000) : ∀ x ∈ vL L rate W, yA x = true := by
 intro x hx
 obtain ⟨i, r, e1, rfl⟩ := yQU hx
 have hi := (List.getElem?_eq_some_iff.1 e1).1
 have hrr := hr r (List.mem_of_getElem? e1)
 unfold zEG
 split
 ·rename_i hk
  have h := zTE hrr (yGC hs hc r0 r1 hW hi) (hle i hi)
  have hb := yWO hrr hk
  have e : ({ r with a := xO L rate W i } : Rec) = { r with k := 1, a := xO L rate W i, b := 0 } := by rw [← hk, ← hb]
  rw [e]; exact h
 ·exact hrr
theorem zGE {L : List Rec} {rate : Int} {W : Nat → Int} : yQP L (vL L rate W) (xO L rate W) := fun i x' hx => by
 obtain ⟨r, e1, rfl⟩ := zOA hx
 refine ⟨r, e1, zDB.1, zDB.2.1, zDB.2.2.1, fun hk => ?_⟩
 rw [zDB.2.2.2.1] at hk
 unfold zEG; rw [if_pos hk]
theorem yYS {w : Int × Int} {v : Int} (h : w.1 ≤ v ∧ v ≤ w.2) : okW w = true := yCC.2 (by omega)
section
variable {σ : St}
theorem zOE {p : Option Addr} {l c : Nat} {M : List Rec} {k : Int} (h : yZ σ 59 p l M) (hl : l ≤ 60) (hr : ∀ x ∈ M, yA x = true) (hs : Srt M) (hc : vD M) (r0 : 0 ≤ k) (r1 : k ≤ 1000) : ∃ p1 c1 σ1, zD Pg 14 [.slice p l c] σ (.slice p1 l c1) σ1 ∧ New σ σ1 ∧
    ((M.all (fun r => okW (yB M k r)) = false ∧ zD Pg 23 [.slice p1 l c1, yD k] σ1 (.tuple ⟨[.slice none 0 0, iV 9]⟩) σ1) ∨
     (M.all (fun r => okW (yB M k r)) = true ∧ ∃ q d σ2, zD Pg 23 [.slice p1 l c1, yD k] σ1 (.tuple ⟨[.slice q M.length d, iV 0]⟩) σ2 ∧ New σ1 σ2 ∧ SlV Pg σ2 52 2 q M.length ((M.map (yB M k)).map spV))) := by
  have hlen := h.len
  obtain ⟨p1, c1, σ1, k1, n1, r1', _⟩ := yAI (c := c) h (by omega)
  refine ⟨p1, c1, σ1, k1, n1, ?_⟩
  have hz : zBZ M k = if M.all (fun r => okW (yB M k r)) then 0 else 9 := by
    unfold zBZ
    rw [if_pos (fault_of (by omega) hr), if_pos (zFB.2 hc), if_pos (zJF.2 ⟨r0, r1⟩), yGH hs hc]
    unfold zBE
    cases M.all (fun r => okW (yB M k r)) <;> rfl
  rcases Spans_c (c := c1) (rate := k) r1' (by omega) (yNU hr) with ⟨e, k2⟩ | ⟨e, _, _, _, _, o, q, d, σ2, ho, k2, n2, s2⟩
  · left
    cases ha : M.all (fun r => okW (yB M k r)) with
    | true => rw [ha] at hz; exact absurd hz e
    | false =>
      rw [ha] at hz
      have hz : zBZ M k = 9 := hz
      rw [hz] at k2
      exact ⟨rfl, k2⟩
  · right
    cases ha : M.all (fun r => okW (yB M k r)) with
    | false => rw [ha] at hz; rw [e] at hz; cases hz
    | true =>
      rw [yGH hs hc] at ho
      unfold zBE at ho
      rw [if_pos ha] at ho
      cases ho
      rw [List.length_map] at k2 s2
      exact ⟨rfl, q, d, σ2, k2, n2, s2⟩
theorem True_c {p pw : Option Addr} {l c lw cw : Nat} {rate : Int} {ws : List Int} {xs : List Rec} (h : yZ σ 59 p l xs) (hl : l ≤ 1000) (hc : vD xs) (hw : yDO σ pw lw ws) (hb : ∀ x ∈ ws, 0 ≤ x ∧ x ≤ 65535) (r0 : 0 ≤ rate) (r1 : rate ≤ 1000) (hm : ∀ x ∈ xs, Mt x) :
  zD Pg 28 [.slice p l c, yD rate, .slice pw lw cw] σ (.tuple ⟨[.slice none 0 0, .slice none 0 0, .bool false]⟩) σ ∨
  ((∀ i, i < (xM xs).length → xO (xM xs) rate (zX ws) i ≤ 1000000) ∧ ∃ p' c' q d σ', zD Pg 28 [.slice p l c, yD rate, .slice pw lw cw] σ (.tuple ⟨[.slice p' (xM xs).length c', .slice q (xM xs).length d, .bool true]⟩) σ' ∧ New σ σ' ∧ yZ σ' 59 p' (xM xs).length (vL (xM xs) rate (zX ws)) ∧ SlV Pg σ' 3 1 q (xM xs).length ((zKO (xM xs) rate (zX ws) (xM xs).length).map yD)) := by
 obtain ⟨v, τ, hN, hNew, ⟨_, rfl⟩ | ⟨hle, p', c', q, d, rfl, h1, h2⟩⟩ := True_run (c := c) (cw := cw) h hl hc hw hb r0 r1 hm
 ·exact .inl (zK.pure ⟨_, τ, hN, rfl, hNew.lw⟩)
 ·right
  obtain ⟨v, σ', g1, g2, p', c', q, d, rfl, g3, g4⟩ := zK.new (P := Pg) (f := 28) (args := [.slice p l c, yD rate, .slice pw lw cw]) (σ := σ) (Q := fun v s => ∃ p' c' q d, v = .tuple ⟨[.slice p' (xM xs).length c', .slice q (xM xs).length d, .bool true]⟩ ∧ yZ s 59 p' (xM xs).length (vL (xM xs) rate (zX ws)) ∧ SlV Pg s 3 1 q (xM xs).length ((zKO (xM xs) rate (zX ws) (xM xs).length).map yD)) ⟨_, τ, hN, hNew, p', c', q, d, rfl, h1, h2⟩ (by rintro v s s' ⟨p, c, q, d, rfl, a, b⟩ hle; exact ⟨p, c, q, d, rfl, SlV.le a hle, SlV.le b hle⟩) (by
   rintro v s hr ⟨p, c, q, d, rfl, a, b⟩
   refine ⟨p, c, q, d, rfl, ?_⟩
   cases p with
   | some a => exact Bool.noConfusion (show false = true from hr)
   | none =>
    cases q with
    | some a => exact Bool.noConfusion (show false = true from hr)
    | none => exact ⟨zGZ a, zGZ b⟩)
  exact ⟨hle, p', c', q, d, σ', g1, g2, g3, g4⟩
theorem yWZ {p : Option Addr} {l c : Nat} {xs : List Rec} (h : yZ σ 59 p l xs) : zD Pg 26 [.slice p l c] σ (.bool false) σ ∨ (zD Pg 26 [.slice p l c] σ (.bool true) σ ∧ l ≤ 60 ∧ vD xs ∧ ∀ x ∈ xs, yA x = true) := by
 have k1 := ready_c (c := c) h
 by_cases hrd : l ≤ 60 ∧ zEL [xs] = 0
 rotate_left
 ·have e : (decide (l ≤ 60) && decide (zEL [xs] = 0)) = false := by
   cases e : (decide (l ≤ 60) && decide (zEL [xs] = 0)) with
   | false => rfl
   | true => simp at e; exact absurd e hrd
  rw [e] at k1
  exact .inl k1
 obtain ⟨h60, hcz⟩ := hrd
 rw [decide_eq_true h60, decide_eq_true hcz] at k1
 obtain ⟨hf, hcb⟩ := codeZ_0 hcz
 exact .inr ⟨k1, h60, zFB.1 hcb, (yCZ hf).2⟩
end
end Go.Proofs.Ytffgfojabcbegaa
