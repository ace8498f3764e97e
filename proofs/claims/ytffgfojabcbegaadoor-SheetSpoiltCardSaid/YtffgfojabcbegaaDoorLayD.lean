
import Derived.Test.YtffgfojabcbegaaDoorLayC
namespace Go.Lay
open Go
section
variable {P : Program} {S : Nat → Prop} {σ τ : St} {n0 n N len c : Nat} {p : Option Addr} {cs : List Value}
def Buf (σ : St) (n0 n N : Nat) (p : Option Addr) (len c : Nat) (cs : List Value) : Prop :=
 (p = none ∧ N = 0 ∧ len = 0 ∧ c = 0 ∧ cs = []) ∨ ∃ b bc, p = some ⟨b, 0, none⟩ ∧ capLow c = N ∧ Own σ b bc n ∧ bc.length = N * n ∧ len ≤ N ∧ bc.take (len * n) = cs ∧ n0 ≤ b ∧ 0 < N
theorem Buf.nil : Buf σ n0 n 0 none 0 0 [] := .inl ⟨rfl, rfl, rfl, rfl, rfl⟩
theorem Buf.bd (h : Buf σ n0 n N p len c cs) : ∀ b, AtP p b → n0 ≤ b ∧ b < σ.q := by
 rintro b ⟨a, rfl, rfl⟩
 rcases h with ⟨h, _⟩ | ⟨b, bc, h1, _, h3, _, _, _, h7, _⟩
 ·cases h
 ·cases h1; exact ⟨h7, h3.lt⟩
theorem Buf.le (h : Buf σ n0 n N p len c cs) (k : Le σ τ) : Buf τ n0 n N p len c cs := by
 rcases h with h | ⟨b, bc, rfl, h2, h3, h4, h5, h6, h7, h8⟩
 ·exact .inl h
 ·exact .inr ⟨b, bc, rfl, h2, h3.le k, h4, h5, h6, h7, h8⟩
theorem Buf.len_le (h : Buf σ n0 n N p len c cs) : len ≤ N ∧ cs.length = len * n := by
 rcases h with ⟨rfl, rfl, rfl, rfl, rfl⟩ | ⟨b, bc, rfl, h2, h3, h4, h5, h6, h7, h8⟩
 ·simp
 ·refine ⟨h5, ?_⟩
  rw [← h6, List.length_take, h4]
  exact Nat.min_eq_left (Nat.mul_le_mul_right _ h5)
theorem Buf.slp (h : Buf σ n0 n N p len c cs) : SlP σ n p len cs := by
 refine ⟨h.len_le.2, ?_⟩
 rcases h with ⟨rfl, rfl, rfl, rfl, rfl⟩ | ⟨b, bc, rfl, h2, h3, h4, h5, h6, h7, h8⟩
 ·rfl
 ·have := h3.rw.part (k := 0) (m := len * n) (by rw [h4, Nat.zero_add]; exact Nat.mul_le_mul_right _ h5)
  rw [List.drop_zero, h6] at this
  exact this
theorem Buf.slv {t : Nat} {vs : List Value} (h : Buf σ n0 n N p len c (flat vs)) (hl : vs.length = len) (he : ∀ v ∈ vs, elOk P t n v) : SlV P σ t n p len vs := ⟨h.slp, hl, he⟩
theorem Buf.push {st xt e m d : Nat} {q : Option Addr} {xs : List Value} (T : AppT P st xt e n) (h : Buf σ n0 n N p len c cs) (hs : SlP σ n q m xs) (hm : len + m ≤ N) (hN : N ≤ 1073741824) (hc : xs.all cellB = true) :
  ∃ σ', appendA P st xt (.slice p len c) (.slice q m d) σ = some (.slice p (len + m) c, σ') ∧ Buf σ' n0 n N p (len + m) c (cs ++ xs) ∧ Only (AtP p) σ σ' ∧ σ'.q = σ.q ∧ (σ' = σ ∨ ∃ b, AtP p b ∧ σ'.low ≤ b) := by
 obtain ⟨xd, hxd, hxi⟩ := T.src
 obtain ⟨ei, z, hei, hz, hby, hrz, hzl⟩ := T.info
 have hsrc : appSrc σ n z xd (.slice q m d) = some (m, xs) := by
  have : srcCells σ n (.slice q m d) = some (m, xs) := by
   cases q with
   | none =>
    obtain ⟨h1, h2⟩ := hs
    have h2 : m = 0 := h2
    subst h2
    have : xs = [] := List.eq_nil_of_length_eq_zero (by omega)
    subst this
    simp [srcCells]
   | some a =>
    have hrd := hs.2.rd
    rw [hs.1] at hrd
    simp [srcCells, hrd]
  unfold appSrc
  cases xd with
  | int _ => cases hxi
  | _ => simp only [this]
 have hcond : (roomy (len + m) n ei.bytes && xs.all cellB && Nat.beq xs.length (m * n) && rigidB RD z && Nat.beq z.cells.toList.length n) = true := by
  unfold roomy
  rw [(ble_iff _ _).2 (by omega), (ble_iff _ _).2 T.le, (ble_iff _ _).2 hby, hc, hs.1, Nat.beq_refl, hrz, hzl]; rfl
 have hc0 : capLow 0 = 0 := by unfold capLow; have := inex_pos; rw [if_neg (by omega)]
 rcases h with ⟨rfl, rfl, rfl, rfl, rfl⟩ | ⟨b, bc, rfl, hcl, h3, h4, h5, h6, h7, h8⟩
 ·have hm0 : m = 0 := by omega
  subst hm0
  have hx : xs = [] := List.eq_nil_of_length_eq_zero (by have := hs.1; omega)
  subst hx
  have hlc : Nat.ble (0 + 0) (capLow 0) = true := by rw [hc0]; rfl
  refine ⟨σ, ?_, .inl ⟨rfl, rfl, rfl, rfl, rfl⟩, Only.refl _ _, rfl, .inl rfl⟩
  unfold appendA
  simp only [T.el, hxd, hei, hz, hsrc, hcond, cond_true, appRows, hlc]
  simp
 ·have hlc : Nat.ble (len + m) (capLow c) = true := by rw [hcl]; exact (ble_iff _ _).2 hm
  rcases Nat.eq_zero_or_pos m with h0 | h0
  ·subst h0
   have hx : xs = [] := List.eq_nil_of_length_eq_zero (by have := hs.1; omega)
   subst hx
   refine ⟨σ, ?_, .inr ⟨b, bc, rfl, hcl, h3, h4, by omega, by rw [Nat.add_zero, h6, List.append_nil], h7, h8⟩, Only.refl _ _, rfl, .inl rfl⟩
   unfold appendA
   simp only [T.el, hxd, hei, hz, hsrc, hcond, cond_true, appRows, hlc]
   simp
  ·have hb : Nat.beq m 0 = false := by rw [Bool.eq_false_iff]; intro e; have := Nat.eq_of_beq_eq_true e; omega
   have hxl : xs.length = m * n := hs.1
   have hle : len * n + m * n ≤ bc.length := by rw [h4, ← Nat.add_mul]; exact Nat.mul_le_mul_right _ hm
   have hw : writeRow σ (aadd ⟨b, 0, none⟩ (len * n)) xs = some (σ.own b (bc.take (len * n) ++ (xs ++ bc.drop (len * n + m * n))) n) := by
    have h2 : (Nat.beq 0 0 && Nat.ble (0 + len * n + m * n) bc.length && !false && xs.all cellB) = true := by
     rw [hc, (ble_iff _ _).2 (by omega)]; rfl
    unfold writeRow
    simp only [aadd, h3.get, stampOf, Option.getD_none, hxl, h2, cond_true, fVs_eq, St.write_eq, Nat.zero_add]
    rw [Nat.zero_add] at h2
    simp only [h2, cond_true]
    unfold St.own
    have hl : (bc.take (len * n) ++ (xs ++ bc.drop (len * n + m * n))).length = bc.length := by simp; omega
    rw [hl]
   refine ⟨_, ?_, .inr ⟨b, bc.take (len * n) ++ (xs ++ bc.drop (len * n + m * n)), rfl, hcl, h3.put, by rw [← h4]; simp; omega, hm, ?_, h7, h8⟩, Only.own (.inr ⟨_, rfl, rfl⟩), rfl, .inr ⟨b, ⟨_, rfl, rfl⟩, by simp [St.own]; omega⟩⟩
   ·unfold appendA
    simp only [T.el, hxd, hei, hz, hsrc, hcond, cond_true, appRows, hlc, hb, cond_false, hw, Option.map_some]
   ·have e1 : (bc.take (len * n)).length = len * n := by rw [List.length_take]; omega
    rw [Nat.add_mul, List.take_append, e1, Nat.add_sub_cancel_left, List.take_of_length_le (by omega), ← hxl, List.take_left, h6]
theorem grow_new {st xt e : Nat} {k : IntKind} {z : Value} (hel : elemOfSlice P st = some (e, n)) (hx : P.underlying xt = some (.int k)) {ei : TypeInfo} (hei : P.info? e = some ei) (hz : ei.zero = some z) (hby : ei.bytes ≤ 4096) (hrz : rigidB RD z = true) (hzl : Nat.beq z.cells.toList.length n = true) (hn : 0 < n ∧ n ≤ 4096) (hN : N ≤ 1073741824) (hp : 0 < N) {q : IntKind}
  (hzc : (zerosA z.cells.toList N).length = N * n) (hcb : (zerosA z.cells.toList N).all cellB = true) :
  appendA P st xt (.slice none 0 0) (.int q (N : Int)) σ = some (.slice (some ⟨σ.q, 0, none⟩) N (N + INEX), σ.row (zerosA z.cells.toList N) n) := by
 have h1 : leI 0 (N : Int) = true := (leI_iff _ _).2 (by omega)
 have h2 : leI (N : Int) 1073741824 = true := (leI_iff _ _).2 (by omega)
 have h3 : Nat.blt 0 n = true := (blt_iff _ _).2 hn.1
 have hsrc : appSrc σ n z (.int k) (.int q (N : Int)) = some (N, zerosA z.cells.toList N) := by
  unfold appSrc
  simp only [h1, h2, h3, hzl, Bool.and_self, cond_true, Int.toNat_natCast]
 have hcond : (roomy (0 + N) n ei.bytes && (zerosA z.cells.toList N).all cellB && Nat.beq (zerosA z.cells.toList N).length (N * n) && rigidB RD z && Nat.beq z.cells.toList.length n) = true := by
  unfold roomy
  rw [(ble_iff _ _).2 (by omega), (ble_iff _ _).2 hn.2, (ble_iff _ _).2 hby, hcb, hzc, Nat.beq_refl, hrz, hzl]; rfl
 have hc0 : capLow 0 = 0 := by unfold capLow; have := inex_pos; rw [if_neg (by omega)]
 have hc1 : capExact 0 = true := (capExact_iff 0).2 inex_pos
 have hble : Nat.ble (0 + N) 0 = false := by rw [Bool.eq_false_iff]; intro e; have := (ble_iff _ _).1 e; omega
 have : appendA P st xt (.slice none 0 0) (.int q (N : Int)) σ = some (.slice (some ⟨σ.q, 0, none⟩) (0 + N) (0 + N + INEX), σ.add (.cells (zerosA z.cells.toList N) n [(0, (zerosA z.cells.toList N).length)] 1 false)) := by
  unfold appendA
  simp only [hel, hx, hei, hz, hsrc, hcond, cond_true, appRows, hc0, hble, cond_false, hc1, newRow_eq]
  rfl
 rw [this, Nat.zero_add]; rfl
theorem slice_room {t e b : Nat} {bc : List Value} (hu : P.underlying t = some (.slice e)) (hs : sizeT P e = some n) (o : Own σ b bc n) (hp : 0 < N) (hcl : capLow c = N) (hx : capExact c = false) {q : IntKind} : ∃ c', sliceA P σ t (.slice (some ⟨b, 0, none⟩) N c) none (some (.int q 0)) none = some (.slice (some ⟨b, 0, none⟩) 0 c') ∧ capLow c' = N := by
 have hok : eszOk σ ⟨b, 0, none⟩ n = true := by simp [eszOk, o.get, stampOf, extOf]
 have h1 : boundA (some (.int q 0)) N N = some 0 := bound_some (x := 0) rfl (Nat.zero_le _)
 have h2 : boundA none 0 0 = some 0 := rfl
 have h3 : Nat.ble N 0 = false := by rw [Bool.eq_false_iff]; intro e; have := (ble_iff _ _).1 e; omega
 have ea : aadd ⟨b, 0, none⟩ (0 * n) = ⟨b, 0, none⟩ := by rw [Nat.zero_mul]; rfl
 refine ⟨N - 0 + INEX, ?_, by rw [capLow_inex]; rfl⟩
 simp only [sliceA, hu, hs, hok, cond_true, sliceNums, hcl, h1, h2, hx, Bool.or_false, Option.isSome_none, cond_false, h3, ea]
def Ax (σ : St) (n0 n : Nat) (p : Option Addr) (len c : Nat) (cs : List Value) : Prop :=
 App σ n0 n (.slice p len c) len cs ∨ ∃ b, p = some ⟨b, 0, none⟩ ∧ c = len ∧ capExact len = true ∧ cs.length = len * n ∧ Own σ b cs n ∧ n0 ≤ b
theorem Ax.nil : Ax σ n0 n none 0 0 [] := .inl .nil
theorem Ax.lit {b : Nat} (o : Own σ b cs n) (hl : cs.length = len * n) (he : capExact len = true) (hb : n0 ≤ b) : Ax σ n0 n (some ⟨b, 0, none⟩) len len cs := .inr ⟨b, rfl, rfl, he, hl, o, hb⟩
theorem Ax.slp (h : Ax σ n0 n p len c cs) : SlP σ n p len cs := by
 rcases h with h | ⟨b, rfl, rfl, _, h1, h2, h3⟩
 ·cases h with
  | nil => exact SlP.nil _ _
  | more h1 h2 h3 h4 h5 h6 h7 =>
   refine ⟨h5, ?_, h4⟩
   have hle : ∀ k : Nat, Nat.ble (0 + k) k = true := fun k => (ble_iff _ _).2 (by omega)
   unfold readRow
   simp only [h1, stampOf, h2, extOf, Nat.beq_refl, cond_true, hle, List.drop_zero, List.take_length]
 ·exact ⟨h1, h2.rw⟩
theorem Ax.slv {t : Nat} {vs : List Value} (h : Ax σ n0 n p len c (flat vs)) (hl : vs.length = len) (he : ∀ v ∈ vs, elOk P t n v) : SlV P σ t n p len vs := ⟨h.slp, hl, he⟩
theorem Ax.bd (h : Ax σ n0 n p len c cs) : ∀ b, AtP p b → n0 ≤ b ∧ b < σ.q := by
 rintro b ⟨a, rfl, rfl⟩
 rcases h with h | ⟨b, h0, _, _, _, h2, h3⟩
 ·exact ⟨h.ge a rfl, h.lt a rfl⟩
 ·cases h0; exact ⟨h3, h2.lt⟩
theorem Ax.le (h : Ax σ n0 n p len c cs) (k : Le σ τ) : Ax τ n0 n p len c cs := by
 rcases h with h | ⟨b, h1, h2, h3, h4, h5, h6⟩
 ·exact .inl (h.keep k)
 ·exact .inr ⟨b, h1, h2, h3, h4, h5.le k, h6⟩
theorem Ax.only (h : Ax σ n0 n p len c cs) (k : Only S σ τ) (hs : ∀ b, AtP p b → ¬ S b) : Ax τ n0 n p len c cs := by
 rcases h with h | ⟨b, rfl, h2, h3, h4, h5, h6⟩
 ·exact .inl (k.app' h (by rintro a l c' e; cases e; exact hs _ ⟨a, rfl, rfl⟩))
 ·exact .inr ⟨b, rfl, h2, h3, h4, k.own' h5 (hs b ⟨_, rfl, rfl⟩), h6⟩
theorem Ax.append {st xt e m k : Nat} {q : Option Addr} {xs : List Value} (T : AppT P st xt e n) (hA : Ax σ n0 n p len c cs) (hs : SlP σ n q m xs) (hroom : len + m ≤ 1073741824) (hc : xs.all cellB = true) (hn0 : n0 ≤ σ.q) :
  ∃ p' c' σ', appendA P st xt (.slice p len c) (.slice q m k) σ = some (.slice p' (len + m) c', σ') ∧ Ax σ' n0 n p' (len + m) c' (cs ++ xs) ∧ Only (AtP p) σ σ' ∧ (∀ b, AtP p' b → AtP p b ∨ σ.q ≤ b) := by
 obtain ⟨xd, hxd, hxi⟩ := T.src
 obtain ⟨ei, z, hei, hz, hby, hrz, hzl⟩ := T.info
 have hsrc : appSrc σ n z xd (.slice q m k) = some (m, xs) := by
  have : srcCells σ n (.slice q m k) = some (m, xs) := by
   cases q with
   | none =>
    obtain ⟨h1, h2⟩ := hs
    have h2 : m = 0 := h2
    subst h2
    have : xs = [] := List.eq_nil_of_length_eq_zero (by omega)
    subst this
    simp [srcCells]
   | some a =>
    have hrd := hs.2.rd
    rw [hs.1] at hrd
    simp [srcCells, hrd]
  unfold appSrc
  cases xd with
  | int _ => cases hxi
  | _ => simp only [this]
 have hcond : (roomy (len + m) n ei.bytes && xs.all cellB && Nat.beq xs.length (m * n) && rigidB RD z && Nat.beq z.cells.toList.length n) = true := by
  unfold roomy
  rw [(ble_iff _ _).2 hroom, (ble_iff _ _).2 T.le, (ble_iff _ _).2 hby, hc, hs.1, Nat.beq_refl, hrz, hzl]; rfl
 have hc0 : capLow 0 = 0 := by unfold capLow; have := inex_pos; rw [if_neg (by omega)]
 rcases Nat.eq_zero_or_pos m with h0 | h0
 ·subst h0
  have hx : xs = [] := List.eq_nil_of_length_eq_zero (by have := hs.1; omega)
  subst hx
  have hlc : Nat.ble (len + 0) (capLow c) = true := by
   rcases hA with h | ⟨b, _, rfl, he, _⟩
   ·cases h with
    | nil => rw [hc0]; rfl
    | more _ _ _ _ _ _ _ => rw [capLow_inex]; exact (ble_iff _ _).2 (Nat.le_refl _)
   ·rw [capLow_ex he]; exact (ble_iff _ _).2 (Nat.le_refl _)
  refine ⟨p, c, σ, ?_, by simpa using hA, Only.refl _ _, fun b hb => .inl hb⟩
  unfold appendA
  simp only [T.el, hxd, hei, hz, hsrc, hcond, cond_true, appRows, hlc]
  cases p <;> simp
 ·rcases hA with h | ⟨b, rfl, rfl, he, hl, h5, h6⟩
  ·obtain ⟨a, rfl, hr⟩ := hs.some h0
   obtain ⟨p', c', σ', h1, h2, h3, h4⟩ := app_step2 (k := k) T h hr hs.1 h0 hroom hc hn0
   exact ⟨p', c', σ', h1, .inl h2, h3, h4⟩
  ·have hble : Nat.ble (c + m) c = false := by rw [Bool.eq_false_iff]; intro e; have := (ble_iff _ _).1 e; omega
   have hrd := h5.rw.rd
   rw [hl] at hrd
   have el : (cs ++ xs).length = (c + m) * n := by rw [List.length_append, hl, hs.1, Nat.add_mul]
   refine ⟨some ⟨σ.q, 0, none⟩, c + m + INEX, σ.add (.cells (cs ++ xs) n [(0, (cs ++ xs).length)] 1 false), ?_, .inl ?_, Only.add _ _, fun b hb => .inr (by obtain ⟨a, e, rfl⟩ := hb; cases e; exact Nat.le_refl _)⟩
   ·unfold appendA
    simp only [T.el, hxd, hei, hz, hsrc, hcond, cond_true, appRows, capLow_ex he, hble, cond_false, he, hrd, newRow_eq]
   ·exact .more (b := σ.q) (s := 0) (nx := 1) (log := []) (by rw [St.add_get, if_pos rfl]) rfl hn0 (by simp) el (by omega) (by omega)
end
end Go.Lay

namespace Go.Lay
open Go
section
variable {P : Program} {alts : List Alt}
end
end Go.Lay

namespace Go.Lay
open Go
section
variable {P : Program} {R : Nat → Rec} {rd : Option Nat}
end
end Go.Lay
