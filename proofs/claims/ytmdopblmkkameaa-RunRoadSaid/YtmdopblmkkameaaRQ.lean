
import Derived.Test.YtmdopblmkkameaaRP
namespace Go.Proofs.Ytmdopblmkkameaa
open Go Go.Lay
set_option linter.unusedVariables false
set_option linter.unusedSimpArgs false
set_option maxRecDepth 20000
section
variable {σ : St} {t : Tab} {pe pt : Option Addr} {le ce lt ct : Nat}
theorem ProveCut_c {pb : Option Addr} {lb cb : Nat} {bs : List (List Int)} (h : TabP σ pe le pt lt t) (hle : le ≤ 1073741824) (hlt : lt ≤ 100000) (hre : ∀ r ∈ t.empty, r.length ≤ 1073741824) (hb : RowsP σ pb lb bs) (hlb : lb ≤ 100000) (hr : ∀ r ∈ bs, r.length ≤ 100000) :
  CallsA Try.prog 20 [.agg ⟨tabL t pe le ce pt lt ct⟩, .slice pb lb cb] σ (.bool (decide (checkZ t = 0) && cutB t bs)) σ := by
 have n1 : New σ.re (σ.re.row (tabL t pe le ce pt lt ct) 4) := New.row _ _ _
 have h1 : TabP (σ.re.row (tabL t pe le ce pt lt ct) 4) pe le pt lt t := (h.le' (le0 σ)).le' n1.le
 have hb1 : RowsP (σ.re.row (tabL t pe le ce pt lt ct) 4) pb lb bs := (hb.le (le0 σ)).le n1.le
 have ck := check_c (ce := ce) (ct := ct) h1 hle (by omega) hre
 suffices hmain : RunsQ Try.prog 20 [.agg ⟨tabL t pe le ce pt lt ct⟩, .slice pb lb cb] σ.re fun v s => v = .bool (decide (checkZ t = 0) && cutB t bs) ∧ σ.next ≤ s.low from RunsQ.pure hmain
 by_cases hz : checkZ t = 0
 ·have hv := valid_of hz
  have hnt : t.nt = lt := h.len
  have hn12 : lt ≤ 12 := by
   have hz' := hz
   unfold checkZ at hz'
   by_cases h12 : 12 < t.nt
   ·rw [if_pos h12] at hz'; cases hz'
   ·omega
  rw [hz] at ck
  exact ProveCut_ra ck (cutting_c (ce := ce) (ct := ct) (cb := cb) h1 hv hn12 hb1 hlb hr) ⟨by rw [decide_eq_true hz]; rfl, n1.lw⟩
 ·exact ProveCut_rb ck ⟨by rw [decide_eq_false hz]; rfl, n1.lw⟩ hz
end
section
variable {t : Tab}
def chn (t : Tab) : Option Int → List Int → Prop
 | _, [] => True
 | p, x :: xs => mayP t p x = true ∧ chn t (some x) xs
theorem blkS_ok : ∀ (b D : List Int) (p : Option Int), (∀ x ∈ b, inB x 0 ((t.nt : Int) - 1) = true) → (D ++ b).Nodup → chn t p b → blkS t D p b = some (D ++ b)
 | [], D, p, _, _, _ => by simp [blkS]
 | x :: xs, D, p, h1, h2, h3 => by
  have hn : ¬ x ∈ D := fun hm => by
   have := (List.nodup_append.1 h2).2.2 x hm x List.mem_cons_self; exact this rfl
  show (if inB x 0 ((t.nt : Int) - 1) = true ∧ ¬ x ∈ D ∧ mayP t p x = true then blkS t (D ++ [x]) (some x) xs else none) = _
  rw [if_pos ⟨h1 x List.mem_cons_self, hn, h3.1⟩, blkS_ok xs (D ++ [x]) (some x) (fun y hy => h1 y (List.mem_cons_of_mem _ hy)) (by simpa using h2) h3.2]
  simp
theorem cutS_ok : ∀ (bs : List (List Int)) (D : List Int), (∀ b ∈ bs, b ≠ [] ∧ (∀ x ∈ b, inB x 0 ((t.nt : Int) - 1) = true) ∧ chn t none b) → (D ++ bs.flatten).Nodup → cutS t D bs = some (D ++ bs.flatten)
 | [], D, _, _ => by simp [cutS]
 | b :: bs, D, h1, h2 => by
  obtain ⟨a1, a2, a3⟩ := h1 b List.mem_cons_self
  rw [List.flatten_cons] at h2 ⊢
  have h3 : (D ++ b).Nodup := by
   rw [← List.append_assoc] at h2
   exact (List.nodup_append.1 h2).1
  show (if b = [] then none else match blkS t D none b with | none => none | some D' => cutS t D' bs) = _
  rw [if_neg a1, blkS_ok b D none a2 h3 a3]
  simp only
  rw [cutS_ok bs (D ++ b) (fun b' hb' => h1 b' (List.mem_cons_of_mem _ hb')) (by rw [List.append_assoc]; exact h2), List.append_assoc]
theorem flat_natI (L : List (List Nat)) : (L.map natI).flatten = natI L.flatten := by
 induction L with
 | nil => rfl
 | cons a L ih => rw [List.map_cons, List.flatten_cons, ih, List.flatten_cons]; simp [natI]
theorem natI_nodup {l : List Nat} (h : l.Nodup) : (natI l).Nodup := by
 induction l with
 | nil => simp [natI]
 | cons a l ih =>
  rw [List.nodup_cons] at h
  show ((a : Int) :: natI l).Nodup
  refine List.nodup_cons.2 ⟨fun hm => ?_, ih h.2⟩
  obtain ⟨x, hx, e⟩ := List.mem_map.1 hm
  have : x = a := by omega
  subst this
  exact h.1 hx
theorem chn_cq {n : Nat} {nx : Nat → Int} {rk : Nat → Nat} (h : Dn n nx rk) (hE : ∀ i k : Nat, i < n → nx i = k → mayI t i k = true) : ∀ k, k < n → ∀ p, mayP t p (k : Int) = true → chn t p (natI (cq nx rk k)) := by
 refine cq_ind h (fun k hk e p hp => ?_) (fun k k' hk hk' e hr ih p hp => ?_)
 ·rw [cq_last h hk e]
  exact ⟨hp, trivial⟩
 ·rw [cq_next h hk e]
  exact ⟨hp, ih (some (k : Int)) (by show mayI t (k : Int).toNat (k' : Int).toNat = true; rw [Int.toNat_natCast, Int.toNat_natCast]; exact hE k k' hk e)⟩
theorem cut_blk {x : Tab} {n : Nat} {nx bf : Nat → Int} {S : Nat → Bool} (hv : Valid t) (hM : Mt n (EdS t S) nx bf) (hn : x.nt = n) (hx : ∀ i k, mayI t i k = true → mayI x i k = true) : cutB x (blkI t n nx bf) = true := by
 have hD := dn_of hv hM
 have hl := blk_len hM hD 2000 (fun k _ => rkT_le hv k)
 have hnd := blk_nodup hM hD 2000 (fun k _ => rkT_le hv k)
 have h1 : cutS x [] (blkI t n nx bf) = some ([] ++ (blkI t n nx bf).flatten) := by
  refine cutS_ok _ _ (fun b hb => ?_) ?_
  ·obtain ⟨l, hl, rfl⟩ := List.mem_map.1 hb
   obtain ⟨s, hs, rfl⟩ := List.mem_map.1 hl
   have hsn : s < n := by have := (List.mem_filter.1 hs).1; simpa using this
   refine ⟨?_, fun y hy => ?_, ?_⟩
   ·rw [cq_eq hD hsn]; simp [natI]
   ·obtain ⟨z, hz, rfl⟩ := List.mem_map.1 hy
    have := (cq_lt hD s hsn z hz).1
    refine inB_iff.2 ⟨by omega, by omega⟩
   ·refine chn_cq hD (fun i k hi e => hx i k ?_) s hsn none rfl
    obtain ⟨k', g1, g2, g3⟩ := hM.n1 i hi (by omega)
    obtain ⟨i', x1, x2, x3, x4⟩ := hM.b1 k' g1 (by omega)
    have e1 : i' = i := by omega
    have e2 : k' = k := by omega
    subst e1 e2
    exact x3.1
  ·rw [List.nil_append]
   unfold blkI
   rw [flat_natI]; exact natI_nodup hnd
 unfold cutB
 rw [h1]
 simp only [List.nil_append]
 unfold blkI
 rw [flat_natI]
 exact decide_eq_true (by rw [natI_len, hl, hn])
end
end Go.Proofs.Ytmdopblmkkameaa
