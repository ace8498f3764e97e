import Derived.Test.YtffgfojabcbegaaLayC
import Derived.Test.YtffgfojabcbegaaSD
import Derived.Test.YtffgfojabcbegaaTy

set_option linter.unusedVariables false
set_option linter.unusedSimpArgs false
namespace Go.Lay
open Go
section
variable {P : Program} {S : Nat → Prop} {σ τ : St} {n0 n N len c : Nat} {p : Option Addr} {cs : List Value}
def Buf (σ : St) (n0 n N : Nat) (p : Option Addr) (len c : Nat) (cs : List Value) : Prop :=
 (p = none ∧ N = 0 ∧ len = 0 ∧ c = 0 ∧ cs = []) ∨ ∃ b bc, p = some ⟨b, 0, none⟩ ∧ yS c = N ∧ Own σ b bc n ∧ bc.length = N * n ∧ len ≤ N ∧ bc.take (len * n) = cs ∧ n0 ≤ b ∧ 0 < N
theorem Buf.nil : Buf σ n0 n 0 none 0 0 [] := .inl ⟨rfl, rfl, rfl, rfl, rfl⟩
theorem Buf.bd (h : Buf σ n0 n N p len c cs) : ∀ b, AtP p b → n0 ≤ b ∧ b < σ.next := by
 rintro b ⟨a, rfl, rfl⟩
 rcases h with ⟨h, _⟩ | ⟨b, bc, h1, _, h3, _, _, _, h7, _⟩
 ·cases h
 ·cases h1; exact ⟨h7, h3.lt⟩
theorem Buf.le (h : Buf σ n0 n N p len c cs) (k : Le σ τ) : Buf τ n0 n N p len c cs := by
 rcases h with h | ⟨b, bc, rfl, h2, h3, h4, h5, h6, h7, h8⟩
 ·exact .inl h
 ·exact .inr ⟨b, bc, rfl, h2, h3.le k, h4, h5, h6, h7, h8⟩
theorem Buf.len_le (h : Buf σ n0 n N p len c cs) : len ≤ N ∧ cs.length = len * n := by
 rcases h with ⟨rfl, rfl, rfl, rfl, rfl⟩ | ⟨b, bc, rfl, h2, h3, h4, h5, h6, h7, h8⟩
 ·simp
 ·refine ⟨h5, ?_⟩
  rw [← h6, List.length_take, h4]
  exact Nat.min_eq_left (Nat.mul_le_mul_right _ h5)
theorem Buf.slp (h : Buf σ n0 n N p len c cs) : SlP σ n p len cs := by
 refine ⟨h.len_le.2, ?_⟩
 rcases h with ⟨rfl, rfl, rfl, rfl, rfl⟩ | ⟨b, bc, rfl, h2, h3, h4, h5, h6, h7, h8⟩
 ·rfl
 ·have := h3.rw.part (k := 0) (m := len * n) (by rw [h4, Nat.zero_add]; exact Nat.mul_le_mul_right _ h5)
  rw [List.drop_zero, h6] at this
  exact this
theorem Buf.slv {t : Nat} {vs : List Value} (h : Buf σ n0 n N p len c (zAS vs)) (hl : vs.length = len) (he : ∀ v ∈ vs, zMZ P t n v) : SlV P σ t n p len vs := ⟨h.slp, hl, he⟩
theorem Buf.push {st xt e m d : Nat} {q : Option Addr} {xs : List Value} (T : AppT P st xt e n) (h : Buf σ n0 n N p len c cs) (hs : SlP σ n q m xs) (hm : len + m ≤ N) (hN : N ≤ 1073741824) (hc : xs.all cellB = true) :
  ∃ σ', zZ P st xt (.slice p len c) (.slice q m d) σ = some (.slice p (len + m) c, σ') ∧ Buf σ' n0 n N p (len + m) c (cs ++ xs) ∧ Only (AtP p) σ σ' ∧ σ'.next = σ.next ∧ (σ' = σ ∨ ∃ b, AtP p b ∧ σ'.low ≤ b) := by
 obtain ⟨xd, hxd, hxi⟩ := T.src
 obtain ⟨ei, z, hei, hz, hby, hrz, hzl⟩ := T.info
 have hsrc : zEB σ n z xd (.slice q m d) = some (m, xs) := by
  have : uA σ n (.slice q m d) = some (m, xs) := by
   cases q with
   | none =>
    obtain ⟨h1, h2⟩ := hs
    have h2 : m = 0 := h2
    subst h2
    have : xs = [] := List.eq_nil_of_length_eq_zero (by omega)
    subst this
    simp [uA]
   | some a =>
    have hrd := hs.2.rd
    rw [hs.1] at hrd
    simp [uA, hrd]
  unfold zEB
  cases xd with
  | int _ => cases hxi
  | _ => simp only [this]
 have hcond : (zEU (len + m) n ei.bytes && xs.all cellB && Nat.beq xs.length (m * n) && zQ RD z && Nat.beq z.cells.toList.length n) = true := by
  unfold zEU
  rw [(zR _ _).2 (by omega), (zR _ _).2 T.le, (zR _ _).2 hby, hc, hs.1, Nat.beq_refl, hrz, hzl]; rfl
 have hc0 : yS 0 = 0 := by unfold yS; have := zCZ; rw [if_neg (by omega)]
 rcases h with ⟨rfl, rfl, rfl, rfl, rfl⟩ | ⟨b, bc, rfl, hcl, h3, h4, h5, h6, h7, h8⟩
 ·have hm0 : m = 0 := by omega
  subst hm0
  have hx : xs = [] := List.eq_nil_of_length_eq_zero (by have := hs.1; omega)
  subst hx
  have hlc : Nat.ble (0 + 0) (yS 0) = true := by rw [hc0]; rfl
  refine ⟨σ, ?_, .inl ⟨rfl, rfl, rfl, rfl, rfl⟩, Only.refl _ _, rfl, .inl rfl⟩
  unfold zZ
  simp only [T.el, hxd, hei, hz, hsrc, hcond, cond_true, uR, hlc]
  simp
 ·have hlc : Nat.ble (len + m) (yS c) = true := by rw [hcl]; exact (zR _ _).2 hm
  rcases Nat.eq_zero_or_pos m with h0 | h0
  ·subst h0
   have hx : xs = [] := List.eq_nil_of_length_eq_zero (by have := hs.1; omega)
   subst hx
   refine ⟨σ, ?_, .inr ⟨b, bc, rfl, hcl, h3, h4, by omega, by rw [Nat.add_zero, h6, List.append_nil], h7, h8⟩, Only.refl _ _, rfl, .inl rfl⟩
   unfold zZ
   simp only [T.el, hxd, hei, hz, hsrc, hcond, cond_true, uR, hlc]
   simp
  ·have hb : Nat.beq m 0 = false := by rw [Bool.eq_false_iff]; intro e; have := Nat.eq_of_beq_eq_true e; omega
   have hxl : xs.length = m * n := hs.1
   have hle : len * n + m * n ≤ bc.length := by rw [h4, ← Nat.add_mul]; exact Nat.mul_le_mul_right _ hm
   have hw : xM σ (zJ ⟨b, 0, none⟩ (len * n)) xs = some (σ.own b (bc.take (len * n) ++ (xs ++ bc.drop (len * n + m * n))) n) := by
    have h2 : (Nat.beq 0 0 && Nat.ble (0 + len * n + m * n) bc.length && !false && xs.all cellB) = true := by
     rw [hc, (zR _ _).2 (by omega)]; rfl
    unfold xM
    simp only [zJ, h3.get, yA, Option.getD_none, hxl, h2, cond_true, zDA, St.write_eq, Nat.zero_add]
    rw [Nat.zero_add] at h2
    simp only [h2, cond_true]
    unfold St.own
    have hl : (bc.take (len * n) ++ (xs ++ bc.drop (len * n + m * n))).length = bc.length := by simp; omega
    rw [hl]
   refine ⟨_, ?_, .inr ⟨b, bc.take (len * n) ++ (xs ++ bc.drop (len * n + m * n)), rfl, hcl, h3.put, by rw [← h4]; simp; omega, hm, ?_, h7, h8⟩, Only.own (.inr ⟨_, rfl, rfl⟩), rfl, .inr ⟨b, ⟨_, rfl, rfl⟩, by simp [St.own]; omega⟩⟩
   ·unfold zZ
    simp only [T.el, hxd, hei, hz, hsrc, hcond, cond_true, uR, hlc, hb, cond_false, hw, Option.map_some]
   ·have e1 : (bc.take (len * n)).length = len * n := by rw [List.length_take]; omega
    rw [Nat.add_mul, List.take_append, e1, Nat.add_sub_cancel_left, List.take_of_length_le (by omega), ← hxl, List.take_left, h6]
theorem grow_new {st xt e : Nat} {k : IntKind} {z : Value} (hel : vD P st = some (e, n)) (hx : P.underlying xt = some (.int k)) {ei : TypeInfo} (hei : P.info? e = some ei) (hz : ei.zero = some z) (hby : ei.bytes ≤ 4096) (hrz : zQ RD z = true) (hzl : Nat.beq z.cells.toList.length n = true) (hn : 0 < n ∧ n ≤ 4096) (hN : N ≤ 1073741824) (hp : 0 < N) {q : IntKind}
  (hzc : (xF z.cells.toList N).length = N * n) (hcb : (xF z.cells.toList N).all cellB = true) :
  zZ P st xt (.slice none 0 0) (.int q (N : Int)) σ = some (.slice (some ⟨σ.next, 0, none⟩) N (N + zCL), σ.row (xF z.cells.toList N) n) := by
 have h1 : leI 0 (N : Int) = true := (zAL _ _).2 (by omega)
 have h2 : leI (N : Int) 1073741824 = true := (zAL _ _).2 (by omega)
 have h3 : Nat.blt 0 n = true := (zDC _ _).2 hn.1
 have hsrc : zEB σ n z (.int k) (.int q (N : Int)) = some (N, xF z.cells.toList N) := by
  unfold zEB
  simp only [h1, h2, h3, hzl, Bool.and_self, cond_true, Int.toNat_natCast]
 have hcond : (zEU (0 + N) n ei.bytes && (xF z.cells.toList N).all cellB && Nat.beq (xF z.cells.toList N).length (N * n) && zQ RD z && Nat.beq z.cells.toList.length n) = true := by
  unfold zEU
  rw [(zR _ _).2 (by omega), (zR _ _).2 hn.2, (zR _ _).2 hby, hcb, hzc, Nat.beq_refl, hrz, hzl]; rfl
 have hc0 : yS 0 = 0 := by unfold yS; have := zCZ; rw [if_neg (by omega)]
 have hc1 : xK 0 = true := (xN 0).2 zCZ
 have hble : Nat.ble (0 + N) 0 = false := by rw [Bool.eq_false_iff]; intro e; have := (zR _ _).1 e; omega
 have : zZ P st xt (.slice none 0 0) (.int q (N : Int)) σ = some (.slice (some ⟨σ.next, 0, none⟩) (0 + N) (0 + N + zCL), σ.add (.cells (xF z.cells.toList N) n [(0, (xF z.cells.toList N).length)] 1 false)) := by
  unfold zZ
  simp only [hel, hx, hei, hz, hsrc, hcond, cond_true, uR, hc0, hble, cond_false, hc1, yO]
  rfl
 rw [this, Nat.zero_add]; rfl
theorem yJY {t e b : Nat} {bc : List Value} (hu : P.underlying t = some (.slice e)) (hs : xI P e = some n) (o : Own σ b bc n) (hp : 0 < N) (hcl : yS c = N) (hx : xK c = false) {q : IntKind} : ∃ c', zHA P σ t (.slice (some ⟨b, 0, none⟩) N c) none (some (.int q 0)) none = some (.slice (some ⟨b, 0, none⟩) 0 c') ∧ yS c' = N := by
 have hok : yAF σ ⟨b, 0, none⟩ n = true := by simp [yAF, o.get, yA, zAF]
 have h1 : uZ (some (.int q 0)) N N = some 0 := yOM (x := 0) rfl (Nat.zero_le _)
 have h2 : uZ none 0 0 = some 0 := rfl
 have h3 : Nat.ble N 0 = false := by rw [Bool.eq_false_iff]; intro e; have := (zR _ _).1 e; omega
 have ea : zJ ⟨b, 0, none⟩ (0 * n) = ⟨b, 0, none⟩ := by rw [Nat.zero_mul]; rfl
 refine ⟨N - 0 + zCL, ?_, by rw [zEM]; rfl⟩
 simp only [zHA, hu, hs, hok, cond_true, zCN, hcl, h1, h2, hx, Bool.or_false, Option.isSome_none, cond_false, h3, ea]
end
end Go.Lay

namespace Go.Lay
open Go
section
variable {P : Program} {alts : List Alt}
theorem zPN {lo db : Nat} {tm : Tm} {ps : List Tmp} {a b : Code} {args : List Value} {τ τ1 : St} (hl : yJ τ.heap lo = some (.loop tm ps a b .ready none db)) (hn : args.length = ps.length) {σ1 : St} (hl1 : yJ τ1.heap lo = some (.loop tm ps a b .ready none db)) (hσ : σ1 = τ1.put lo (.loop tm ps a b .busy none db)) (aq : List Ans)
  (h : Hid (wpE P (zT P) (some lo) a aq ⟨(ps.zip args).foldl (fun f p => f.set p.1 p.2) tm, []⟩ τ.re (KAs P (zT P) lo b τ1 σ1 (KFinS alts)))) :
  zQL P lo args τ tm ps a b db alts := by
 subst hσ
 obtain ⟨e1, fr1, s1, an1, ⟨N1, h1⟩, ⟨rfl, rfl⟩, h2⟩ := zLU _ _ _ _ _ (hid h)
 obtain ⟨e, fr2, s, an2, ⟨N2, h3⟩, h4⟩ := zLU _ _ _ _ _ h2
 unfold KFinS at h4
 split at h4
 rotate_left
 ·exact h4.elim
 obtain ⟨rfl, h5, h6⟩ := h4
 rename_i al t
 refine ⟨_, s, ⟨al, h6, rfl, t, h5⟩, fun he hlt hb hs => ⟨N1 + N2 + 1, fun N hN => ?_⟩⟩
 obtain ⟨N, rfl⟩ : ∃ N', N = N' + 1 := ⟨N - 1, by omega⟩
 have k1 := h1 N (by omega)
 have k3 := h3 N (by omega)
 have hr : (⟨τ.heap, τ.next, τ.next⟩ : St) = τ.re := rfl
 have hlr : yJ τ.re.heap lo = some (.loop tm ps a b .ready none db) := hl
 unfold zBJ
 rw [hr]
 simp only [zT, hlr, hn, Nat.beq_refl, cond_true, Tm.puts_eq, k1, zPP, hl1, St.write_eq, k3]
 have key : ∀ y : Blk, zCD τ (.bool (yNI al.e)) (s.put lo y) = some (.bool (yNI al.e), ⟨(s.put lo y).heap, s.next, min τ.low (min s.low lo)⟩) := by
  intro y
  unfold zCD
  have e1 : Nat.ble τ.next (s.put lo y).low = false := by
   rw [Bool.eq_false_iff]; intro e; have := (zR _ _).1 e; simp only [St.put_low] at this; omega
  have e2 : Nat.ble τ.next (s.put lo y).next = true := (zR _ _).2 hs
  simp only [e1, Bool.false_and, cond_false, e2, cond_true, vN, zEL]
  rfl
 rcases he with e | e | ⟨i, e⟩ <;> (rw [e] at key ⊢; simp only [zPO, zHN, hb, St.write_eq]; exact key _)
end
end Go.Lay

namespace Go.Lay
open Go
section
variable {P : Program} {R : Nat → Rec} {rd : Option Nat}
end
end Go.Lay

namespace Go.Proofs.Ytffgfojabcbegaa
open Go Go.Lay
set_option linter.unusedVariables false
set_option linter.unusedSimpArgs false
set_option maxRecDepth 20000
section
variable {σ : St}
theorem zSY (zs : List Value) : ∀ N, (xF zs N).length = N * zs.length
 | 0 => by simp [xF]
 | N + 1 => by simp [xF, zSY zs N, Nat.add_mul]; omega
theorem zQN {zs : List Value} (h : zs.all cellB = true) : ∀ N, (xF zs N).all cellB = true
 | 0 => by simp [xF]
 | N + 1 => by simp only [xF, List.all_append, zQN h N, h, Bool.and_self]
theorem yHY {α : Type} {f : α → Value} (hf : ∀ x, (f x).cells.toList.all cellB = true) (r : List α) : (zAS (r.map f)).all cellB = true := by
 induction r with
 | nil => rfl
 | cons x r ih => rw [List.map_cons, show f x :: r.map f = [f x] ++ r.map f from rfl, zGU, List.all_append, ih, Bool.and_true]; simpa [zAS] using hf x

end
end Go.Proofs.Ytffgfojabcbegaa
