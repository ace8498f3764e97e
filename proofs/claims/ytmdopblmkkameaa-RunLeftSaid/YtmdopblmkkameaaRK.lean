
import Derived.Test.YtmdopblmkkameaaRJ
import Derived.Test.YtmdopblmkkameaaPN
import Derived.Test.YtmdopblmkkameaaXG
namespace Go.Proofs.Ytmdopblmkkameaa
open Go Go.Lay
open Try renaming prog → Pg
set_option linter.unusedVariables false
set_option linter.unusedSimpArgs false
set_option maxRecDepth 20000
def RowG (τ : St) (n0 : Nat) (p : Option Addr) (l c : Nat) (rs : List (List Int)) : Prop := rs.length = l ∧ ∃ vs, Gr Pg τ n0 41 1 p l c vs ∧ ∀ (j : Nat) (r : List Int), rs[j]? = some r → ∃ q d, vs[j]? = some (Value.slice q r.length d) ∧ yZ τ q r.length r ∧ ∀ b, AtP q b → ¬ AtP p b ∧ n0 ≤ b
theorem RowG.nil {τ : St} {n0 : Nat} : RowG τ n0 none 0 0 [] := ⟨rfl, [], Gr.nil, fun j r h => by simp at h⟩
theorem RowG.push {σ τ τ1 : St} {l c d : Nat} {p q : Option Addr} {rs : List (List Int)} {r : List Int} (h : RowG τ σ.next p l c rs) (hN : New σ τ) (n1 : New τ τ1) (s1 : yZ τ1 q r.length r) (f1 : ∀ b, AtP q b → τ.next ≤ b) (hl : l ≤ 100000) :
  ∃ p4 c4 τ2, yY Pg 22 22 (.slice p l c) (.slice (some ⟨τ1.next, 0, none⟩) 1 1) (τ1.row [.slice q r.length d] 1) = some (.slice p4 (l + 1) c4, τ2) ∧ RowG τ2 σ.next p4 (l + 1) c4 (rs ++ [r]) ∧ New σ τ2 ∧ Only (AtP p) (τ1.row [.slice q r.length d] 1) τ2 := by
 obtain ⟨h0, vs, hg, hrow⟩ := h
 obtain ⟨p4, c4, τ2, g1, g2, g3, g4, g5⟩ := grow (.slice q r.length d) appT_rows hg hN n1 (elOk_row _ _ _) (by omega)
 have s2 : yZ τ2 q r.length r := g4.slv' s1.row (fun a e hb => by
  have := f1 a.block ⟨a, e, rfl⟩; have := (hg.bd hb).2; omega)
 refine ⟨p4, c4, τ2, g1, ⟨by simp [h0], _, g2, fun j x hx => ?_⟩, g3, g4⟩
 have hvl := hg.len_eq
 by_cases hjl : j = l
 ·subst hjl
  rw [List.getElem?_append_right (by omega), h0] at hx
  simp at hx; subst hx
  refine ⟨q, d, by rw [List.getElem?_append_right (by omega)]; simp [hvl], s2, fun b hb => ⟨fun h4 => ?_, by have := f1 b hb; have := hN.nx; omega⟩⟩
  have hb1 := f1 b hb
  have hb2 : b < τ1.next := by obtain ⟨a, e, rfl⟩ := hb; exact xZ s1 a e
  rcases g5 b h4 with h5 | h5
  ·have := (hg.bd h5).2; omega
  ·omega
 ·have hj : j < l := by
   have := (List.getElem?_eq_some_iff.1 hx).1
   simp [h0] at this; omega
  rw [List.getElem?_append_left (by omega)] at hx
  obtain ⟨q2, d2, e1, e2, e3⟩ := hrow j x hx
  have e4 : ∀ b, AtP q2 b → b < τ.next := fun b hb => by obtain ⟨a, e, rfl⟩ := hb; exact xZ e2 a e
  refine ⟨q2, d2, by rw [List.getElem?_append_left (by omega)]; exact e1, g4.slv' ((e2.le n1.le).row) (fun a e hb => (e3 a.block ⟨a, e, rfl⟩).1 hb), fun b hb => ⟨fun h4 => ?_, (e3 b hb).2⟩⟩
  rcases g5 b h4 with h5 | h5
  ·exact (e3 b hb).1 h5
  ·have := e4 b hb; have := n1.nx; omega
theorem RowG.rowsF {τ : St} {n0 l c : Nat} {p : Option Addr} {rs : List (List Int)} (h : RowG τ n0 p l c rs) : zAB τ n0 p l rs := by
 obtain ⟨h0, vs, hg, hrow⟩ := h
 exact ⟨vs, hg.slv, h0, fun b hb => (hg.bd hb).1, fun j r hj => by obtain ⟨q, d, e1, e2, e3⟩ := hrow j r hj; exact ⟨q, d, e1, e2, fun b hb => (e3 b hb).2⟩⟩
theorem zAB.mono {σ : St} {n0 n1 l : Nat} {p : Option Addr} {rs : List (List Int)} (h : zAB σ n1 p l rs) (k : n0 ≤ n1) : zAB σ n0 p l rs := by
 obtain ⟨vs, g1, g2, g3, g4⟩ := h
 exact ⟨vs, g1, g2, fun b hb => Nat.le_trans k (g3 b hb), fun i r hi => by obtain ⟨q, c, e1, e2, e3⟩ := g4 i r hi; exact ⟨q, c, e1, e2, fun b hb => Nat.le_trans k (e3 b hb)⟩⟩
theorem zAB.none_any {σ τ : St} {n0 l : Nat} {rs : List (List Int)} (h : zAB σ n0 none l rs) : zAB τ n0 none l rs := by
 obtain ⟨vs, g1, g2, _, g3⟩ := h
 have hl0 : l = 0 := by have := g1.1.2; simpa using this
 subst hl0
 refine ⟨vs, zEO g1, g2, fun b hb => (AtP.none hb).elim, fun i r hi => ?_⟩
 have : rs = [] := by simpa using g2
 subst this; simp at hi
section
variable {σ : St} {t : Tab} {pe pt : Option Addr} {le ce lt ct : Nat}
def rkT (t : Tab) (k : Nat) : Nat := match t.trips[k]? with | some x => (2000 - x.st).toNat | none => 0
theorem ch_len (nx : Nat → Int) : ∀ (f k : Nat), (ch nx f k).length ≤ f
 | 0, _ => by simp [ch]
 | f + 1, k => by
  show (k :: _).length ≤ _
  have := ch_len nx f (nx k).toNat
  split <;> simp <;> omega
theorem rkT_le (hv : Valid t) (k : Nat) : rkT t k ≤ 2000 := by
 unfold rkT
 cases h : t.trips[k]? with
 | none => simp
 | some x => have := hv.trip h; simp only; omega
theorem dn_of {nx bf : Nat → Int} {S : Nat → Bool} {n : Nat} (hv : Valid t) (hM : Mt n (EdS t S) nx bf) : Dn n nx (rkT t) := by
 refine ⟨fun k hk e => ?_⟩
 obtain ⟨k', h1, h2, h3⟩ := hM.n1 k hk e
 obtain ⟨i, g1, g2, g3, g4⟩ := hM.b1 k' h1 (by omega)
 have : i = k := by omega
 subst this
 refine ⟨k', h1, h2, ?_⟩
 obtain ⟨l1, l2⟩ := mayI_lt g3.1
 have e1 : t.trips[i]? = some t.trips[i] := by simp
 have e2 : t.trips[k']? = some t.trips[k'] := by simp
 have hs := mayI_st hv g3.1 e1 e2
 have b1 := hv.trip e1; have b2 := hv.trip e2
 unfold rkT
 simp only [e1, e2]
 omega
def blkI (t : Tab) (n : Nat) (nx bf : Nat → Int) : List (List Int) := (blk n nx bf (rkT t)).map wI
theorem Cut_c (h : TabP σ pe le pt lt t) (hle : le ≤ 1073741824) (hlt : lt ≤ 100000) (hr : ∀ r ∈ t.empty, r.length ≤ 1073741824) :
  ∃ p l c e σ', zD Pg 18 [.agg ⟨yE t pe le ce pt lt ct⟩] σ (.tuple ⟨[.slice p l c, iV e]⟩) σ' ∧ New σ σ' ∧ ((xR t ≠ 0 ∧ e = xR t ∧ l = 0) ∨ (xR t = 0 ∧ e = 0 ∧ ∃ nx bf, BestTo lt (EdS t fun _ => true) (fun _ => true) lt nx bf ∧ l = lt - yR lt (xM bf) ∧ zAB σ' σ.next p l (blkI t lt nx bf))) := by
 suffices hmain : zN Pg 18 [.agg ⟨yE t pe le ce pt lt ct⟩] σ.re fun v s => New σ.re s ∧ ∃ p l c e, v = .tuple ⟨[.slice p l c, iV e]⟩ ∧ ((xR t ≠ 0 ∧ e = xR t ∧ l = 0) ∨ (xR t = 0 ∧ e = 0 ∧ ∃ nx bf, BestTo lt (EdS t fun _ => true) (fun _ => true) lt nx bf ∧ l = lt - yR lt (xM bf) ∧ zAB s σ.next p l (blkI t lt nx bf))) by
  obtain ⟨v, σ', h1, h2, p, l, c, e, rfl, h3⟩ := zN.new hmain
   (by rintro v s s' ⟨p, l, c, e, rfl, q1⟩ hle; exact ⟨p, l, c, e, rfl, q1.imp id (fun ⟨x1, x2, nx, bf, x3, x4, x5⟩ => ⟨x1, x2, nx, bf, x3, x4, x5.le hle⟩)⟩)
   (by
    rintro v s hr ⟨p, l, c, e, rfl, q1⟩
    refine ⟨p, l, c, e, rfl, q1.imp id fun ⟨x1, x2, nx, bf, x3, x4, x5⟩ => ⟨x1, x2, nx, bf, x3, x4, ?_⟩⟩
    cases p with
    | none => exact x5.none_any
    | some a => exact Bool.noConfusion (show false = true from hr))
  exact ⟨p, l, c, e, σ', h1, h2, h3⟩
 obtain ⟨σ1, hσ1⟩ : ∃ σ1, σ1 = σ.re.row (yE t pe le ce pt lt ct) 4 := ⟨_, rfl⟩
 have n1 : New σ.re σ1 := by rw [hσ1]; exact New.row _ _ _
 have h1 : TabP σ1 pe le pt lt t := (h.le' (le0 σ)).le' n1.le
 have ck := check_c (ce := ce) (ct := ct) h1 hle (by omega) hr
 by_cases hz : xR t = 0
 rotate_left
 ·rw [hσ1] at ck
  exact Cut_ra ck ⟨by rw [← hσ1]; exact n1, _, _, _, _, rfl, .inl ⟨hz, rfl, rfl⟩⟩ hz
 rw [hz] at ck
 have hv := valid_of hz
 have hnt : t.nt = lt := h.len
 have hn12 : lt ≤ 12 := by
  unfold xR at hz
  by_cases h12 : 12 < t.nt
  ·rw [if_pos h12] at hz; cases hz
  ·omega
 obtain ⟨bm, σ4, bn, bb, pf, cf, cn, cb, nx, bf, c4, n4, M, B⟩ := match_c (ce := ce) (ct := ct) h1 hv hn12 (S := fun _ => true)
 have hMt := B.mt
 have hD := dn_of hv hMt
 have N4 : New σ.re σ4 := n1.trans n4
 have q6 : (yE t pe le ce pt lt ct ++ [.slice pf lt cf, .slice (some ⟨bn, 0, none⟩) lt cn, .slice (some ⟨bb, 0, none⟩) lt cb])[6]? = some (.slice (some ⟨bb, 0, none⟩) lt cb) := rfl
 have q5 : (yE t pe le ce pt lt ct ++ [.slice pf lt cf, .slice (some ⟨bn, 0, none⟩) lt cn, .slice (some ⟨bb, 0, none⟩) lt cb])[5]? = some (.slice (some ⟨bn, 0, none⟩) lt cn) := rfl
 have l5 := M.om.ldI (P := Pg) (t := 41) (i := 6) zCB q6
 rw [hσ1] at ck c4
 have hst : ∀ s, s < lt → ((List.range (s + 1)).filter fun i => decide (bf i = -1)) = ((List.range s).filter fun i => decide (bf i = -1)) ++ if bf s = -1 then [s] else [] := fun s _ => by
  rw [zED]; by_cases e : bf s = -1 <;> simp [e]
 refine Cut_rb (a3 := ⟨bm, 0, none⟩) (q5 := some ⟨bb, 0, none⟩) (l5 := lt) (c5 := cb) ck every_c c4 ?_ (by simpa [zK] using l5) (P0 := fun p l c τ => New σ4 τ ∧ l = (blk lt nx bf (rkT t)).length ∧ RowG τ σ4.next p l c (blkI t lt nx bf))
  (Cut_loop1 (Inv := fun k p l c i τ => ∃ s : Nat, i = s ∧ s + k = lt ∧ New σ4 τ ∧ l ≤ s ∧ RowG τ σ4.next p l c (((((List.range s).filter fun i => decide (bf i = -1)).map (cq nx (rkT t)))).map wI)) ?_ lt none 0 0 0 σ4 ⟨0, rfl, by omega, New.refl _, Nat.le_refl _, RowG.nil⟩) ?_
 ·exact zF (uU (fun a e => by rw [← hσ1]; exact h1.em.ltb a e) (fun a e => by rw [← hσ1]; exact xZ h1.tr a e)) (zF (by kernel_rfl) zG)
 ·rintro k p l c i τ ⟨s, rfl, hk, hN, hls, hG⟩
  have hL : Le σ4 τ := hN.le
  by_cases hs : s < lt
  rotate_left
  ·have : s = lt := by omega
   subst this
   refine Cut_s1c ⟨hN, ?_, hG⟩ (by omega)
   have := hG.1
   simp at this
   rw [← this]; simp [blk]
  have ldb := ldV (M.leT hL).ob (P := Pg) (t := 3) yB hs
  by_cases hb : bf s = -1
  rotate_left
  ·refine Cut_s1a ldb ⟨k - 1, by omega, s + 1, by omega, by omega, hN, by omega, ?_⟩ (by omega) (by omega) hb
   rw [hst s hs, if_neg hb, List.append_nil]; exact hG
  refine Cut_s1b (P2 := fun p9 l9 c9 τ' => New τ τ' ∧ l9 = (cq nx (rkT t) s).length ∧ Gr Pg τ' τ.next 3 1 p9 l9 c9 ((wI (cq nx (rkT t) s)).map xK)) ldb
   (Cut_loop2 (Inv := fun k' p9 l9 c9 i10 τ' => ∃ done : List Nat, New τ τ' ∧ l9 ≤ 2001 ∧ Gr Pg τ' τ.next 3 1 p9 l9 c9 ((wI done).map xK) ∧ ((i10 = -1 ∧ done = cq nx (rkT t) s) ∨ ∃ x : Nat, i10 = x ∧ x < lt ∧ done ++ cq nx (rkT t) x = cq nx (rkT t) s ∧ (cq nx (rkT t) x).length ≤ k')) ?_ (cq nx (rkT t) s).length none 0 0 s τ ⟨[], New.refl _, by omega, Gr.nil, .inr ⟨s, rfl, hs, by simp, Nat.le_refl _⟩⟩) ?_ (by omega) (by omega) hb
  ·rintro k' p9 l9 c9 i10 τ' ⟨done, hN', hl9, hg, h⟩
   have hdl := hg.len_eq
   rcases h with ⟨rfl, rfl⟩ | ⟨x, rfl, hx, hd, hlen⟩
   ·exact Cut_s2b ⟨hN', by rw [← hdl]; simp [wI], hg⟩
   ·have hlenc := cq_eq hD hx
    obtain ⟨p4, c4', τ2, g1, g2, g3, g4, g5⟩ := grow (xK (x : Int)) zDE hg hN' (New.refl τ') (zCH _) (by omega)
    have hL2 : Le σ4 τ2 := hL.trans g3.le
    have l5' := (M.leT hL2).om.ldI (P := Pg) (t := 41) (i := 5) zCB q5
    have ldn := ldV (M.leT hL2).on (P := Pg) (t := 3) yB hx
    have eg : ((wI done).map xK) ++ [xK (x : Int)] = (wI (done ++ [x])).map xK := by simp [wI]
    rw [eg] at g2
    have hlx : l9 + 1 ≤ (cq nx (rkT t) s).length := by
     rw [← hd, List.length_append, hlenc]
     have : done.length = l9 := by rw [← hdl]; simp [wI]
     simp; omega
    have hmax : (cq nx (rkT t) s).length ≤ 2001 := by
     have h1 := ch_len nx (rkT t s + 1) s
     have h2 := rkT_le hv s
     unfold cq; omega
    refine Cut_s2a g1 (by simpa [zK] using l5') ldn ⟨k' - 1, by rw [hlenc] at hlen; simp at hlen; omega, done ++ [x], g3, by omega, g2, ?_⟩ (by omega) (by omega)
    by_cases e : nx x = -1
    ·left
     rw [if_pos e] at hlenc
     exact ⟨e, by rw [← hd, hlenc]⟩
    ·right
     obtain ⟨x', e1, e2, e3⟩ := hD.dn x hx e
     rw [if_neg e, e2, Int.toNat_natCast] at hlenc
     refine ⟨x', e2, e1, by rw [← hd, hlenc]; simp, ?_⟩
     rw [hlenc] at hlen; simp at hlen; omega
  ·rintro p9 l9 c9 τ' ⟨hN', hl9, hg⟩
   have hI : yZ τ' p9 (wI (cq nx (rkT t) s)).length (wI (cq nx (rkT t) s)) := by rw [zBL, ← hl9]; exact hg.slv
   obtain ⟨p4, c4', τ2, g1, g2, g3, g4⟩ := hG.push (d := c9) hN hN' hI (fun b hb => (hg.bd hb).1) (by omega)
   rw [zBL, ← hl9] at g1
   refine Cut_t2x2a g1 ⟨k - 1, by omega, s + 1, by omega, by omega, g3, by omega, ?_⟩
   rw [hst s hs, if_pos hb]
   simpa using g2
 ·rintro p l c τ ⟨hN, hl, hG⟩
  refine Cut_t1x0a ⟨N4.trans hN, p, l, c, 0, rfl, .inr ⟨hz, rfl, nx, bf, B, ?_, hG.rowsF.mono N4.nx⟩⟩
  rw [hl, blk_cnt]
end
end Go.Proofs.Ytmdopblmkkameaa
