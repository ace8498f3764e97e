
import Derived.Test.YtmdopblmkkameaaRT
import Derived.Test.YtmdopblmkkameaaPS
namespace Go.Proofs.Ytmdopblmkkameaa
open Go Go.Lay
open Try renaming prog → Pg
set_option linter.unusedVariables false
set_option linter.unusedSimpArgs false
set_option maxRecDepth 20000
section
variable {σ0 : St} {t : Tab} {pe pt : Option Addr} {le ce lt ct : Nat}
theorem rFewest_c {pl : Option Addr} {ll cl q cq : Nat} {ls : List Nat} (h : RefP σ0 pe le pt lt t) (hv : Valid t) (hl : yU σ0 pl ll (vH ls)) (hls : ∀ i ∈ ls, i < lt) (hll : ll ≤ 1000) (hq : σ0.next ≤ q) :
  ∀ (m : Nat) (σ : St) (tk : Nat → Bool) (fr : Nat), fr + m = ll → Le σ0 σ → Own σ q (yL lt tk) 1 → ∃ σ', zD Pg 53 [.agg ⟨yB t pe le ce pt lt ct⟩, .slice pl ll cl, iV (fr : Int), .slice (some ⟨q, 0, none⟩) lt cq] σ (iV ((vR (xL t) ls (ls.drop fr) tk : Nat) : Int)) σ' ∧ Only (· = q) σ σ' ∧ Own σ' q (yL lt tk) 1 := by
 have hlsl : ls.length = ll := by have := hl.len; rw [zDT] at this; exact this
 have leO : ∀ {z z' : St}, Le σ0 z → Only (· = q) z z' → Le σ0 z' := fun hz k => ⟨Nat.le_trans hz.next k.next, fun b hb => (k.get b (Nat.lt_of_lt_of_le hb hz.next) (by show b ≠ q; omega)).trans (hz.get b hb)⟩
 intro m
 induction m with
 | zero =>
  intro σ tk fr hfr hle ho
  have hd : ls.drop fr = [] := List.drop_of_length_le (by omega)
  rw [hd]
  have n1 : New σ.re (σ.re.row (yB t pe le ce pt lt ct) 4) := New.row _ _ _
  exact ⟨σ, zN.pure (rFewest_ra ⟨rfl, n1.lw⟩ (by omega)), Only.refl _ _, ho⟩
 | succ m ih =>
  intro σ tk fr hfr hle ho
  suffices hmain : zN Pg 53 [.agg ⟨yB t pe le ce pt lt ct⟩, .slice pl ll cl, iV (fr : Int), .slice (some ⟨q, 0, none⟩) lt cq] σ.re fun v s => Only (· = q) σ.re s ∧ (s.low < σ.next ∨ zS RD v = false ∨ (v = iV ((vR (xL t) ls (ls.drop fr) tk : Nat) : Int) ∧ Own σ q (yL lt tk) 1)) ∧ v = iV ((vR (xL t) ls (ls.drop fr) tk : Nat) : Int) ∧ Own s q (yL lt tk) 1 by
   obtain ⟨v, σ', h1, h2, rfl, h3⟩ := mut2 (Q := fun v s => v = iV ((vR (xL t) ls (ls.drop fr) tk : Nat) : Int) ∧ Own s q (yL lt tk) 1) hmain (by rintro v s m ⟨rfl, h⟩; exact ⟨rfl, h.low⟩)
   exact ⟨σ', h1, h2, h3⟩
  have hf : fr < ls.length := by omega
  have hi : ls[fr]? = some ls[fr] := List.getElem?_eq_getElem hf
  obtain ⟨i, hi'⟩ : ∃ i, i = ls[fr] := ⟨_, rfl⟩
  rw [← hi'] at hi
  have hil := hls i (List.mem_of_getElem? hi)
  obtain ⟨rest, hrest⟩ : ∃ rest, rest = ls.drop (fr + 1) := ⟨_, rfl⟩
  have hd : ls.drop fr = i :: rest := by rw [hrest]; exact drop_at hi
  have hrl : rest.length ≤ 1000 := by rw [hrest, List.length_drop]; omega
  have eN : vR (xL t) ls (i :: rest) tk = zED (fun k => !tk k && xL t i k) (fun k => vR (xL t) ls rest (vI tk k)) ls (1 + vR (xL t) ls rest tk) := rfl
  rw [hd]
  obtain ⟨σ1, hσ1⟩ : ∃ σ1, σ1 = σ.re.row (yB t pe le ce pt lt ct) 4 := ⟨_, rfl⟩
  have n1 : New σ.re σ1 := by rw [hσ1]; exact New.row _ _ _
  have L1 : Le σ0 σ1 := (Le.re' hle).trans n1.le
  have o1 : Own σ1 q (yL lt tk) 1 := (ho.le (le0 σ)).le n1.le
  have ot : Own σ1 σ.next (yB t pe le ce pt lt ct) 4 := by rw [hσ1]; exact zC _ _ _
  have hqlt := ho.lt
  obtain ⟨σ2, c1, k2, o2⟩ := ih σ1 tk (fr + 1) (by omega) L1 o1
  rw [← hrest] at c1
  have hb0 := fewN_le (E := xL t) (ls := ls) rest tk
  have K2 : Only (· = q) σ.re σ2 := n1.only.trans' k2 (fun b _ e => .inl e)
  have ot2 := k2.own' ot (by omega)
  have hL : rFewest_L1 pl ll cl (fr : Int) (some ⟨q, 0, none⟩) lt cq σ.next (1 + ((vR (xL t) ls rest tk : Nat) : Int)) 0 σ2 (fun i9 τ => Only (· = q) σ.re τ ∧ Own τ q (yL lt tk) 1 ∧ i9 = ((vR (xL t) ls (i :: rest) tk : Nat) : Int)) := by
   refine rFewest_loop1 (Inv := fun k i9 j τ => ∃ s : Nat, j = s ∧ s + k = ll ∧ Only (· = q) σ.re τ ∧ Le σ0 τ ∧ Own τ q (yL lt tk) 1 ∧ Own τ σ.next (yB t pe le ce pt lt ct) 4 ∧ i9 = ((zED (fun k => !tk k && xL t i k) (fun k => vR (xL t) ls rest (vI tk k)) (ls.take s) (1 + vR (xL t) ls rest tk) : Nat) : Int)) ?_ ll _ 0 σ2
    ⟨0, rfl, by omega, K2, leO L1 k2, o2, ot2, by simp [zED]⟩
   rintro k i9 j τ ⟨s, rfl, hk, hK, hL, w1, w2, rfl⟩
   by_cases hs : s < ll
   rotate_left
   ·refine rFewest_s1d ⟨hK, w1, ?_⟩ (by omega)
    rw [eN, List.take_of_length_le (by omega)]
   obtain ⟨la, rfl, x, hx, ldx⟩ := vP (SlV.le hl hL) hs
   obtain ⟨k0, hk0, rfl⟩ := natI_get hx
   have hk0l := hls k0 (List.mem_of_getElem? hk0)
   have ldT := zEC w1 (P := Pg) (t := 4) (i := k0) agg4 hk0l
   have eT : zED (fun k => !tk k && xL t i k) (fun k => vR (xL t) ls rest (vI tk k)) (ls.take (s + 1)) (1 + vR (xL t) ls rest tk) = zED (fun k => !tk k && xL t i k) (fun k => vR (xL t) ls rest (vI tk k)) [k0] (zED (fun k => !tk k && xL t i k) (fun k => vR (xL t) ls rest (vI tk k)) (ls.take s) (1 + vR (xL t) ls rest tk)) := by rw [uS hk0, minF_append]
   obtain ⟨A, hA⟩ : ∃ A, A = zED (fun k => !tk k && xL t i k) (fun k => vR (xL t) ls rest (vI tk k)) (ls.take s) (1 + vR (xL t) ls rest tk) := ⟨_, rfl⟩
   have hAb : A ≤ 1001 := by rw [hA]; have := (minF_le (c := fun k => !tk k && xL t i k) (f := fun k => vR (xL t) ls rest (vI tk k)) (ls.take s) (1 + vR (xL t) ls rest tk)).1; omega
   rw [← hA] at eT ⊢
   have e1 : zED (fun k => !tk k && xL t i k) (fun k => vR (xL t) ls rest (vI tk k)) [k0] A = if (!tk k0 && xL t i k0) = true then min A (vR (xL t) ls rest (vI tk k0)) else A := rfl
   rw [e1] at eT
   cases hT : tk k0 with
   | true =>
    rw [hT] at ldT
    exact rFewest_s1a ldx ldT ⟨k - 1, by omega, s + 1, by omega, by omega, hK, hL, w1, w2, by rw [eT, hT]; rfl⟩
   | false =>
   rw [hT] at ldT
   have ld25 : ∀ z, Own z σ.next (yB t pe le ce pt lt ct) 4 → zB Pg z 25 ⟨σ.next, 0, none⟩ = some (.agg ⟨yB t pe le ce pt lt ct⟩) := fun z o => o.ldN wT xJ (k := 0) rfl rfl (by simp)
   have ldf : zB Pg τ 3 (zH la (Int.toNat (fr : Int) * 1)) = some (iV (i : Int)) := SlV.at (SlV.le hl hL) rfl (v := wM (i : Int)) (by rw [List.getElem?_map, vH, List.getElem?_map, hi]; rfl)
   have cm := rMay_c (ce := ce) (ct := ct) (h.le' hL) hv hil hk0l
   cases hM : xL t i k0 with
   | false =>
    rw [hM] at cm
    exact rFewest_s1c ldx ldT (ld25 _ w2) ldf cm ⟨k - 1, by omega, s + 1, by omega, by omega, hK, hL, w1, w2, by rw [eT, hT, hM]; rfl⟩
   | true =>
   rw [hM] at cm
   have st := own_stB w1 (P := Pg) (t := 4) (v := true) (i := k0) size4 hk0l
   have kk : Only (· = q) τ (τ.own q (yL lt fun j => if j = k0 then true else tk j) 1) := Only.own (.inr rfl)
   have w1' : Own (τ.own q (yL lt fun j => if j = k0 then true else tk j) 1) q (yL lt (vI tk k0)) 1 := w1.put
   obtain ⟨σ5, c5, k5, o5⟩ := ih _ (vI tk k0) (fr + 1) (by omega) (leO hL kk) w1'
   rw [← hrest] at c5
   have st2 := own_stB o5 (P := Pg) (t := 4) (v := false) (i := k0) size4 hk0l
   have kk2 : Only (· = q) σ5 (σ5.own q (yL lt fun j => if j = k0 then false else vI tk k0 j) 1) := Only.own (.inr rfl)
   have eR : yL lt (fun j => if j = k0 then false else vI tk k0 j) = yL lt tk := zJR fun j _ => by
    by_cases e : j = k0
    ·subst e; rw [if_pos rfl, hT]
    ·rw [if_neg e, zCI e]
   have w3 : Own (σ5.own q (yL lt fun j => if j = k0 then false else vI tk k0 j) 1) q (yL lt tk) 1 := by
    have := o5.put (ds := yL lt fun j => if j = k0 then false else vI tk k0 j)
    rw [eR] at this ⊢; exact this
   have hb5 := fewN_le (E := xL t) (ls := ls) rest (vI tk k0)
   have w2a := kk.own' w2 (by omega)
   have mn : yN Pg (evL [iV (A : Int), iV ((vR (xL t) ls rest (vI tk k0) : Nat) : Int)]) σ5 (.call { callee := .builtin .min, args := ⟨yI 2⟩, argTypes := ⟨[3, 3]⟩ }) = some (iV ((min A (vR (xL t) ls rest (vI tk k0)) : Nat) : Int)) := by
    rw [min_see]; congr 2; omega
   refine rFewest_s1b ldx ldT (ld25 _ w2) ldf cm st (ld25 _ w2a) c5 mn st2 ⟨k - 1, by omega, s + 1, by omega, by omega, ((hK.trans' kk (fun b _ e => .inl e)).trans' k5 (fun b _ e => .inl e)).trans' kk2 (fun b _ e => .inl e), leO (leO (leO hL kk) k5) kk2, w3, kk2.own' (k5.own' w2a (by omega)) (by omega), ?_⟩
   rw [eT, hT, hM]; rfl
  rw [hσ1] at c1
  refine rFewest_rb c1 hL ?_ (by omega) (by omega) (by omega)
  rintro i9 τ ⟨h1, h2, rfl⟩
  exact rFewest_t1x0a ⟨h1, .inr (.inr ⟨rfl, ho⟩), rfl, h2⟩
end
section
variable {σ : St} {t : Tab} {pe pt : Option Addr} {le ce lt ct : Nat}
theorem rBuses_c {pl : Option Addr} {ll cl : Nat} {ls : List Nat} (h : RefP σ pe le pt lt t) (hv : Valid t) (hl : yU σ pl ll (vH ls)) (hls : ∀ i ∈ ls, i < lt) (hll : ll ≤ 1000) (hlt : lt ≤ 1000) :
  zD Pg 24 [.agg ⟨yB t pe le ce pt lt ct⟩, .slice pl ll cl] σ (iV ((vR (xL t) ls ls (fun _ => false) : Nat) : Int)) σ := by
 suffices hmain : zN Pg 24 [.agg ⟨yB t pe le ce pt lt ct⟩, .slice pl ll cl] σ.re fun v s => v = iV ((vR (xL t) ls ls (fun _ => false) : Nat) : Int) ∧ σ.next ≤ s.low from zN.pure hmain
 have mk := make_sl (P := Pg) (σ := σ.re.row (yB t pe le ce pt lt ct) 4) (st := 88) (e := 4) (z := .bool false) (n := 1) (by kernel_rfl) (by kernel_rfl) (len := lt) (by omega)
 obtain ⟨σ1, hσ1⟩ : ∃ σ1, σ1 = (σ.re.row (yB t pe le ce pt lt ct) 4).row (xG (Value.bool false).cells.toList lt) 1 := ⟨_, rfl⟩
 rw [← hσ1] at mk
 have N1 : New σ.re σ1 := by rw [hσ1]; exact (New.row _ _ _).row'
 have nx1 : σ1.next = σ.next + 2 := by rw [hσ1]; rfl
 have o1 : Own σ1 σ.next (yB t pe le ce pt lt ct) 4 := by rw [hσ1]; exact (zC σ.re (yB t pe le ce pt lt ct) 4).row
 have o2 : Own σ1 (σ.next + 1) (yL lt fun _ => false) 1 := by
  have e : xG (Value.bool false).cells.toList lt = yL lt fun _ => false := zeros_bool _
  rw [hσ1, e]; exact zC _ _ _
 have L1 : Le σ σ1 := ⟨N1.nx, fun b hb => N1.le.get b hb⟩
 obtain ⟨σ', c1, k1, _⟩ := rFewest_c (ce := ce) (ct := ct) (cl := cl) (cq := lt) (q := σ.next + 1) h hv hl hls hll (by omega) ll σ1 (fun _ => false) 0 (by omega) L1 o2
 rw [List.drop_zero] at c1
 have hR1 := h.le' L1
 refine rBuses_ra mk c1 ?_ ⟨⟨o1.lt, rfl⟩, o1.ldN wT xJ (k := 0) rfl rfl (by simp)⟩ (fun a e => uI h.tr a e) ⟨rfl, (N1.of_only k1 (by rintro b rfl; show σ.next ≤ _; omega)).lw⟩
 exact zF (zBX (fun a e => hR1.em.ltb a e) (fun a e => uI hR1.tr a e)) (zF (uX fun a e => uI (SlV.le hl L1) a e) (zF rfl (zF (zFK (by show σ.next + 1 < σ1.next; omega)) zG)))
end
end Go.Proofs.Ytmdopblmkkameaa
