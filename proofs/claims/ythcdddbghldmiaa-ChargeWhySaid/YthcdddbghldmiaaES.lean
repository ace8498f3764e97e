
import Derived.Test.YthcdddbghldmiaaEB
import Derived.Test.YthcdddbghldmiaaDE3
import Derived.Test.YthcdddbghldmiaaXS
namespace Go.Proofs.Ythcdddbghldmiaa
open Go Go.Lay
open Try renaming prog → Pg
set_option linter.unusedVariables false
set_option linter.unusedSimpArgs false
set_option maxRecDepth 20000
def moreUse (b : Bus) : Bus := ⟨b.fr, b.to, b.rate, b.full, b.floor, b.hlo, b.hhi, b.ulo, b.uhi + 1⟩
def gMore (g : Gar) (i : Nat) (b : Bus) : Gar := ⟨g.slots, g.buses.set i (moreUse b)⟩
theorem shrU {s z : Int} {ox oy : Operand} (h : 0 ≤ z) : binA Pg .shr 5 ox oy (.int .u8 s) (.int .u64 z) = some (.int .u8 (s.fdiv (2 ^ (min z.toNat 8)))) := by
 have e : Op.shift .shr .u8 s .u64 z = pure (.int .u8 (s.fdiv (2 ^ (min z.toNat 8)))) := by unfold Op.shift; rw [if_neg (by omega)]; rfl
 show ((pureVal Pg (do eqGuard .shr 5 ox oy (.int .u8 s) (.int .u64 z); Op.shift .shr .u8 s .u64 z)).filter (rigidB RD)) = _
 rw [e]; rfl
theorem wrapU2 {j : Nat} : 0 ≤ wrapK .u64 (j : Int) := by
 rw [wrapK_eq]
 simp only [IntKind.wrap, IntKind.bits, IntKind.signed]
 have : (0 : Int) ≤ (j : Int) % 2 ^ 64 := Int.emod_nonneg _ (by decide)
 simp; omega
def bitW (s : Int) (i : Nat) : Bool := decide (Int.tmod (s.fdiv (2 ^ (min (wrapK .u64 (i : Int)).toNat 8))) 2 = 1)
theorem filt_step {P : Nat → Bool} {i : Nat} : (List.range (i + 1)).filter P = (List.range i).filter P ++ if P i then [i] else [] := by
 rw [List.range_succ, List.filter_append]
 cases h : P i <;> simp [h]
section
variable {σ : St} {g : Gar} {p q : Option Addr} {l c m d : Nat}
theorem more_most {i0 : Nat} {b : Bus} {n m : Int} (hb : g.buses[i0]? = some b) (h : IsMost g n) (k : IsMost (gMore g i0 b) m) : n ≤ m ∧ m ≤ n + 1 := by
 have hi0 : i0 < g.buses.length := (List.getElem?_eq_some_iff.1 hb).1
 have hg : ∀ i, (gMore g i0 b).buses[i]? = if i0 = i then some (moreUse b) else g.buses[i]? := fun i => by
  show (g.buses.set i0 (moreUse b))[i]? = _
  rw [List.getElem?_set]
  by_cases e : i0 = i
  ·rw [if_pos e, if_pos e, if_pos hi0]
  ·rw [if_neg e, if_neg e]
 refine most_step (g := g) (x := gMore g i0 b) (i0 := i0) (by simp [gMore, Gar.nb]) rfl (fun s => rfl) (fun i s => ?_) (fun i => ?_) h k
 ·unfold rateI
  rw [hg]
  by_cases e : i0 = i
  ·subst e; rw [if_pos rfl, hb]; rfl
  ·rw [if_neg e]
 ·unfold needI
  rw [hg]
  by_cases e : i0 = i
  ·subst e
   rw [if_pos rfl, hb, if_pos rfl]
   simp only [needZ, moreUse]
   omega
  ·rw [if_neg e, if_neg (fun x => e x.symm)]; omega
theorem IsMost.bd {n : Int} (hv : Valid g) (h : IsMost g n) : 0 ≤ n ∧ n ≤ 5000 := by
 obtain ⟨l, h1, rfl⟩ := h.at_
 have hl := h1.len
 have hns := hv.ns; have hnb := hv.nb
 obtain ⟨bN, bR⟩ := sums_bd (g := g) hv (l := l) (by omega)
 have b1 := bN l.length
 rw [List.take_length] at b1
 have b2 := mins_bd (g := g) hv (R := fun s => (l.map fun i => rateI g i s).sum) (fun s => by have := bR l.length s; rw [List.take_length] at this; exact this.1) g.ns hns
 unfold lackL
 omega
theorem lWhy_top (hR : RefP σ p l q m g) {bits at_ : Int} (hb : 0 ≤ bits ∧ bits ≤ 255) (ha : 0 ≤ at_ ∧ at_ ≤ 255) : TopQ Pg 17 14 [.agg ⟨garL p l c q m d⟩, .int .u8 bits, .int .u8 at_] σ fun v _ => v = .bool true := by
  have hl1 : g.ns = l := hR.len1; have hl2 : g.nb = m := hR.len2
  subst hl1 hl2
  obtain ⟨τ, hτ⟩ : ∃ τ, τ = σ.row (garL p g.ns c q g.nb d) 2 := ⟨_, rfl⟩
  have N1 : New σ τ := by rw [hτ]; exact New.row _ _ _
  have o1 : Own τ σ.next (garL p g.ns c q g.nb d) 2 := by rw [hτ]; exact own_new σ _ _
  have R1 := hR.le N1.le
  have c1 := ready_c (c := c) (d := d) R1
  cases ht : (decide (g.ns ≤ 15) && decide (g.nb ≤ 8) && decide (checkZ g = 0)) with
  | false => rw [ht, hτ] at c1; exact lWhy_rn c1 rfl
  | true =>
  rw [ht] at c1
  simp only [Bool.and_eq_true, decide_eq_true_eq] at ht
  have hv := valid_of ht.2
  have hns := hv.ns; have hnb := hv.nb
  obtain ⟨p3, c3, q3, d3, σ4, k3, n3, g3⟩ := garage_c (c := c) (d := d) R1 (by omega) (by omega)
  obtain ⟨pb, lb, cb, σ8, z, e, k8, n8, b8⟩ := Best_c (c := c3) (d := d3) g3
  have M8 := n3.trans n8
  have R8 := R1.le M8.le
  have o8 := o1.le M8.le
  have ld8 := o8.ldN (P := Pg) agg25 size25 (k := 0) (ds := garL p g.ns c q g.nb d) rfl rfl (by simp)
  obtain ⟨p4, c4, q4, d4, σ13, k13, n13, g13⟩ := garage_c (c := c) (d := d) R8 (by omega) (by omega)
  obtain ⟨pl, ll, cl, n, e2, σ17, k17, n17, b17⟩ := Lack_c (c := c4) (d := d4) g13
  have M17 := (M8.trans n13).trans n17
  have R17 := R1.le M17.le
  have o17 := o1.le M17.le
  have ld17 := o17.ldN (P := Pg) agg25 size25 (k := 0) (ds := garL p g.ns c q g.nb d) rfl rfl (by simp)
  rw [hτ] at c1 k3
  have rest : IsMost g n → lWhy_L1 bits at_ σ.next n none 0 0 0 σ17 (fun p5 l5 c5 τ' => New σ17 τ' ∧ ∃ l, RiseN g.nb 0 l ∧ IntsP τ' p5 l5 (natI l)) ∧
      ∀ p5 l5 c5 τ', (New σ17 τ' ∧ ∃ l, RiseN g.nb 0 l ∧ IntsP τ' p5 l5 (natI l)) → lWhy_K1_0 bits at_ σ.next n p5 l5 c5 τ' (fun v _ => v = .bool true) := by
    intro hM
    have hnB := hM.bd hv
    constructor
    · refine lWhy_loop1 (Inv := fun k p5 l5 c5 i τ' => ∃ b : Nat, i = b ∧ b + k = g.nb ∧ New σ17 τ' ∧ Gr Pg τ' σ17.next 3 1 p5 l5 c5 ((natI ((List.range b).filter (bitW bits))).map intV)) ?_ g.nb none 0 0 0 _ ⟨0, rfl, by omega, New.refl _, Gr.nil⟩
      rintro k p5 l5 c5 i τ' ⟨b, rfl, hk, h1, h2⟩
      have o' := o17.le h1.le
      by_cases hbn : b < g.nb
      rotate_left
      · have : b = g.nb := by omega
        subst this
        exact lWhy_s1c (o'.ld rfl agg23 (k := 1) rfl) ⟨h1, _, rise_filter _, h2.slv⟩
      have sh := shrU (s := bits) (z := wrapK .u64 (b : Int)) (ox := .tmp 87) (oy := .tmp 89) wrapU2
      have hst := filt_step (P := bitW bits) (i := b)
      have hlb : l5 ≤ 5 := by
        have e1 := h2.len_eq
        have e2 := List.length_filter_le (bitW bits) (List.range b)
        simp only [List.length_map, List.length_range] at e1 e2
        omega
      cases hbit : bitW bits b with
      | true =>
        rw [hbit] at hst
        have hbit : Int.tmod (bits.fdiv (2 ^ (min (wrapK .u64 (b : Int)).toNat 8))) 2 = 1 := by simpa [bitW] using hbit
        obtain ⟨p', c', τ2, a1, a2, a3, a4, a5⟩ := grow (σ0 := σ17) (τ := τ') (intV (b : Int)) appT_ints h2 h1 (New.refl _) (elOk_int _) (by omega)
        exact lWhy_s1a (o'.ld rfl agg23 (k := 1) rfl) rfl sh a1 ⟨k - 1, by omega, b + 1, by omega, by omega, a3, by rw [hst]; simpa using a2⟩
      | false =>
        rw [hbit] at hst
        have hbit : ¬ Int.tmod (bits.fdiv (2 ^ (min (wrapK .u64 (b : Int)).toNat 8))) 2 = 1 := by simpa [bitW] using hbit
        exact lWhy_s1b (o'.ld rfl agg23 (k := 1) rfl) rfl sh ⟨k - 1, by omega, b + 1, by omega, by omega, h1, by rw [hst]; simpa using h2⟩
    rintro p5 l5 c5 τ' ⟨h1, l, h2, h3⟩
    have o' := o17.le h1.le
    have R' := R17.le h1.le
    have ld' := o'.ldN (P := Pg) agg25 size25 (k := 0) (ds := garL p g.ns c q g.nb d) rfl rfl (by simp)
    have kL := rLack_c (c := c) (d := d) (cb := c5) R' hv h3 h2
    have hle := hM.le l h2
    have ldb := o'.ld (P := Pg) rfl agg23 (k := 1) (v := .slice q g.nb d) rfl
    by_cases h0 : g.nb = 0
    · exact lWhy_t1x0b ld' kL ldb rfl
    obtain ⟨y1, hy1⟩ : ∃ y1, y1 = ((τ'.row [.slice none 0 0, .slice none 0 0] 2).own τ'.next (garL p g.ns c q g.nb d) 2).row [] 9 := ⟨_, rfl⟩
    have n1 : New τ' y1 := by rw [hy1]; exact ((New.row _ _ _).own (Nat.le_refl _)).row'
    have oe : Own y1 (τ'.next + 1) [] 9 := by rw [hy1]; exact own_new ((τ'.row [.slice none 0 0, .slice none 0 0] 2).own τ'.next (garL p g.ns c q g.nb d) 2) _ _
    have ox : Own y1 τ'.next (garL p g.ns c q g.nb d) 2 := by rw [hy1]; exact (Own.cp _ _ _ _).row
    have R1' := R'.le n1.le
    obtain ⟨p', c', y2, a1, a2⟩ := copy_new (k := d) appT_busE oe R1'.bu.1 (by omega) (cells_busE g.buses)
    obtain ⟨_, rfl, rfl⟩ : 0 < g.nb ∧ p' = some ⟨y1.next, 0, none⟩ ∧ y2 = y1.row (flat (g.buses.map busV)) 9 := by
      rcases a2 with ⟨h, _⟩ | h
      · exact absurd h h0
      · exact h
    obtain ⟨i0, hi0⟩ : ∃ i0 : Nat, at_ = i0 := ⟨at_.toNat, by omega⟩
    subst hi0
    have hmod : i0 % g.nb < g.nb := Nat.mod_lt _ (by omega)
    obtain ⟨b, hbb⟩ := bus_at hmod
    have hB := busB_iff (hv.b hbb)
    have eT : (i0 : Int).tmod (g.nb : Int) = ((i0 % g.nb : Nat) : Int) := by rw [Int.tmod_eq_emod_of_nonneg (by omega)]; omega
    have r1 : binA Pg .rem 3 (.tmp 116) (.tmp 119) (iV (i0 : Int)) (iV (g.nb : Int)) = some (iV ((i0 % g.nb : Nat) : Int)) := by rw [rem_eq (by omega), eT]
    have hcnt : ∀ y : Bus, (busV y).cells.toList.length = 9 := fun _ => rfl
    have ob : Own (y1.row (flat (g.buses.map busV)) 9) y1.next (flat (g.buses.map busV)) 9 := own_new _ _ _
    have nx1 : τ'.next + 2 = y1.next := by rw [hy1]; rfl
    have oxr := ox.row (ds := flat (g.buses.map busV)) (m := 9)
    have ob2 : Own ((y1.row (flat (g.buses.map busV)) 9).own τ'.next [.slice p g.ns c, .slice (some ⟨y1.next, 0, none⟩) g.nb c'] 2) y1.next (flat (g.buses.map busV)) 9 := ob.own (by omega)
    have ox2 : Own ((y1.row (flat (g.buses.map busV)) 9).own τ'.next [.slice p g.ns c, .slice (some ⟨y1.next, 0, none⟩) g.nb c'] 2) τ'.next [.slice p g.ns c, .slice (some ⟨y1.next, 0, none⟩) g.nb c'] 2 := oxr.put
    obtain ⟨y3, hy3⟩ : ∃ y3, y3 = (y1.row (flat (g.buses.map busV)) 9).own τ'.next [.slice p g.ns c, .slice (some ⟨y1.next, 0, none⟩) g.nb c'] 2 := ⟨_, rfl⟩
    rw [← hy3] at ob2 ox2
    have ea : aadd (⟨y1.next, 0, none⟩ : Addr) (Int.toNat ((i0 % g.nb : Nat) : Int) * 9 + 7 + 1) = ⟨y1.next, (i0 % g.nb) * 9 + 8, none⟩ := by rw [Int.toNat_natCast]; simp [aadd]
    have lu : loadA Pg y3 3 (aadd ⟨y1.next, 0, none⟩ (Int.toNat ((i0 % g.nb : Nat) : Int) * 9 + 7 + 1)) = some (iV b.uhi) := by
      rw [ea]
      exact ob2.ld rfl agg3 (flat_nth (F := busV) hcnt (by omega) (k := 8) rfl hbb)
    have hlen : (g.buses.set (i0 % g.nb) (moreUse b)).length = g.nb := by simp
    have su : effOp Pg (evL [.pointer (some (aadd ⟨y1.next, 0, none⟩ (Int.toNat ((i0 % g.nb : Nat) : Int) * 9 + 7 + 1))), iV (b.uhi + 1)]) y3 (.store 3 (.tmp 0) (.tmp 1)) = some (undef, y3.own y1.next (flat ((g.buses.set (i0 % g.nb) (moreUse b)).map busV)) 9) := by
      rw [ea]
      refine ob2.store (k := (i0 % g.nb) * 9 + 8) (t := 3) (v := iV (b.uhi + 1)) (vs := [iV (b.uhi + 1)]) rfl size3 rfl ?_ (flat_upd (F := busV) (x := b) (x' := moreUse b) hcnt (by omega) rfl hbb)
      rw [flat_cnt hcnt]
      show _ ≤ g.nb * 9
      simp; omega
    obtain ⟨y4, hy4⟩ : ∃ y4, y4 = y3.own y1.next (flat ((g.buses.set (i0 % g.nb) (moreUse b)).map busV)) 9 := ⟨_, rfl⟩
    rw [← hy4] at su
    have ob4 : Own y4 y1.next (flat ((g.buses.set (i0 % g.nb) (moreUse b)).map busV)) 9 := by rw [hy4]; exact ob2.put
    have ox4 : Own y4 τ'.next [.slice p g.ns c, .slice (some ⟨y1.next, 0, none⟩) g.nb c'] 2 := by rw [hy4]; exact ox2.own (by omega)
    have n4 : New τ' y4 := by
      rw [hy4, hy3]
      exact ((n1.trans (New.row _ _ _)).own (Nat.le_refl _)).own (by omega)
    have R4 : RefP y4 p g.ns (some ⟨y1.next, 0, none⟩) g.nb (gMore g (i0 % g.nb) b) := by
      refine ⟨(R'.le n4.le).sl, ⟨⟨?_, ob4.rw⟩, ?_, ?_⟩⟩
      · rw [flat_cnt hcnt]; exact congrArg (· * 9) hlen
      · simp [gMore]
      · intro v hv'
        obtain ⟨y, _, rfl⟩ := List.mem_map.1 hv'
        exact elOk_busE y
    have kF := rFault_c (c := c) (d := c') R4
    have ld4 := ox4.ldN (P := Pg) agg25 size25 (k := 0) (ds := [.slice p g.ns c, .slice (some ⟨y1.next, 0, none⟩) g.nb c']) rfl rfl (by simp)
    have lq := (o'.le n1.le).ld (P := Pg) rfl agg23 (k := 1) (v := .slice q g.nb d) rfl
    have st1 : effOp Pg (evL [.pointer (some ⟨τ'.next, 1, none⟩), .slice (some ⟨y1.next, 0, none⟩) g.nb c']) (y1.row (flat (g.buses.map busV)) 9) (.store 23 (.tmp 0) (.tmp 1)) = some (undef, y3) := by
      rw [hy3]
      exact oxr.store (k := 1) (t := 23) (v := .slice (some ⟨y1.next, 0, none⟩) g.nb c') (vs := [.slice (some ⟨y1.next, 0, none⟩) g.nb c']) rfl size23 rfl (by simp) rfl
    have lx3 := ox2.ld (P := Pg) rfl agg23 (k := 1) (v := .slice (some ⟨y1.next, 0, none⟩) g.nb c') rfl
    rw [hy1] at lq a1
    by_cases hz : checkZ (gMore g (i0 % g.nb) b) = 0
    rotate_left
    · rw [hy3, hy1] at st1
      rw [hy3, hy1] at lu su lx3
      rw [hy1] at ld4 kF
      exact lWhy_t1x0c ld' kL ldb lq a1 st1 lx3 r1 lu su ld4 kF rfl
    rw [hz] at kF
    obtain ⟨p6, c6, q6, d6, y6, k6, n6, g6⟩ := garage_c (c := c) (d := c') R4 (by omega) (by omega)
    obtain ⟨pr, lr, cr, nr, er, y7, k7, n7, b7⟩ := Lack_c (c := c6) (d := d6) (by rw [show (gMore g (i0 % g.nb) b).nb = g.nb from hlen]; exact g6)
    rw [show (gMore g (i0 % g.nb) b).nb = g.nb from hlen] at k7
    rw [hy3, hy1] at st1
    rw [hy3, hy1] at lu su lx3
    rw [hy1] at ld4 kF k6
    rcases b7 with ⟨h, _⟩ | ⟨_, hM', _, _, rfl, rfl⟩ | ⟨_, hM', _, rfl, _⟩
    · exact absurd hz h
    · have := more_most hbb hM hM'
      exact lWhy_t1x0g ld' kL ldb lq a1 st1 lx3 r1 lu su ld4 kF k6 k7 rfl
    · have := more_most hbb hM hM'
      exact lWhy_t1x0d ld' kL ldb lq a1 st1 lx3 r1 lu su ld4 kF k6 k7 rfl
  rcases b8 with ⟨h, _⟩ | ⟨_, _, _, _, _, rfl, hP⟩ | ⟨_, rfl, W, hG, hn, _, _⟩
  · exact absurd ht.2 h
  · rcases b17 with ⟨h, _⟩ | ⟨_, hM, _⟩ | ⟨_, hM, h0, rfl, l, h1, h2, h3⟩
    · exact absurd ht.2 h
    · have := hM.pos.2 hP; omega
    · obtain ⟨r1, r2⟩ := rest hM
      have kR := rRising_c (p := p) (q := q) (c := c) (d := d) (cb := cl) (by omega) h3 h1
      have kL := rLack_c (c := c) (d := d) (cb := cl) R17 hv h3 h1
      rw [h2] at kL
      exact lWhy_rl c1 k3 k8 ld8 k13 k17 ld17 kR kL r1 r2
  · have hP := hG.feas.plan hn
    rcases b17 with ⟨h, _⟩ | ⟨_, hM, rfl, rfl, rfl, rfl⟩ | ⟨_, hM, h0, _⟩
    · exact absurd ht.2 h
    · obtain ⟨r1, r2⟩ := rest hM
      exact lWhy_ra c1 k3 k8 ld8 k13 k17 r1 r2
    · obtain ⟨P, h⟩ := hM.pos.1 h0
      have := plan_lack hP P
      omega
end
end Go.Proofs.Ythcdddbghldmiaa
