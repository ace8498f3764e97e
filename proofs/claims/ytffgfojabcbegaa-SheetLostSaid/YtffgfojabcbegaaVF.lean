
import Derived.Test.YtffgfojabcbegaaVE
import Derived.Test.YtffgfojabcbegaaXL
namespace Go.Proofs.Ytffgfojabcbegaa
open Go Go.Lay
open Try renaming prog → Pg
set_option linter.unusedVariables false
set_option linter.unusedSimpArgs false
set_option maxRecDepth 20000
theorem yWG : AppT Pg 35 35 70 5 := zMW (by kernel_rfl)
theorem elOk_lk (x : Lk) : zMZ Pg 70 5 (lkV x) := .inr ⟨yRR, zHB, _, rfl, rfl⟩
theorem SameY.gr {n0 m t n len c : Nat} {Y : Nat → Prop} {z z' : St} {p : Option Addr} {vs : List Value} (h : SameY n0 Y z z') (k : Gr Pg z m t n p len c vs) (hb : ∀ b, AtP p b → ¬ Y b) : Gr Pg z' m t n p len c vs := by
 refine ⟨?_, k.len_eq, k.el⟩
 have hA := k.app
 generalize hcs : zAS vs = cs at hA
 cases hA with
 | nil => exact .nil
 | more g1 g2 g3 g4 g5 g6 g7 => exact .more (by rw [h.get _ g4 (hb _ ⟨_, rfl, rfl⟩) (fun _ _ _ _ _ _ _ e => by rw [e] at g1; cases g1)]; exact g1) g2 g3 (Nat.lt_of_lt_of_le g4 h.next) g5 g6 g7
theorem yHS {m t n len c b : Nat} {z : St} {p : Option Addr} {vs : List Value} (k : Gr Pg z m t n p len c vs) (hb : AtP p b) : ∃ cs k log nx ro, yJ z.heap b = some (.cells cs k log nx ro) := by
 have hA := k.app
 obtain ⟨a, rfl, rfl⟩ := hb
 generalize hcs : zAS vs = cs at hA
 cases hA with
 | more g1 g2 g3 g4 g5 g6 g7 => exact ⟨_, _, _, _, _, g1⟩
section
variable {σ : St}
structure LkJ (σ σ5 : St) (a1 B1 B2 B3 : Nat) (q : Option Addr) (d : Nat) (L : List Rec) (i : Nat) (Y : Nat → Prop) (z : St) (o : List Lk) (po : Option Addr) (co : Nat) : Prop where
 nx : σ5.next ≤ z.next
 ys : ∀ y, Y y → σ5.next ≤ y
 le : Le σ z
 oa : Own z a1 [.slice q L.length d] 1
 rc : xB z 79 q L.length L
 o1 : Own z B1 [.slice none 0 0] 1
 o2 : Own z B2 [iV 0] 1
 lk : wJ L i = some o
 o3 : Own z B3 [.slice po o.length co] 1
 gr : Gr Pg z σ5.next 70 5 po o.length co (o.map lkV)
 ny : ∀ b, AtP po b → ¬ Y b
theorem LkJ.same {σ5 z z' : St} {a1 B1 B2 B3 d i co : Nat} {q po : Option Addr} {L : List Rec} {Y Y' : Nat → Prop} {o : List Lk} (h : LkJ σ σ5 a1 B1 B2 B3 q d L i Y z o po co) (hs : SameY σ.next Y z z') (hY : ∀ y, Y' y → Y y ∨ (z.next ≤ y ∧ y < z'.next)) (ha : a1 < σ5.next) (h1 : B1 < σ5.next) (h2 : B2 < σ5.next) (h3 : B3 < σ5.next) (hq : ∀ b, AtP q b → b < σ5.next) : LkJ σ σ5 a1 B1 B2 B3 q d L i Y' z' o po co := by
 have hn : ∀ b, b < σ5.next → ¬ Y b := fun b hb hy => by have := h.ys b hy; omega
 have h5 := h.nx
 have hz := hs.next
 refine ⟨by omega, fun y hy => ?_, ⟨by have := h.le.next; omega, fun b hb => (hs.old b hb).trans (h.le.get b hb)⟩, hs.own h.oa (hn _ ha), hs.slv h.rc (fun b hb => hn b (hq b hb)), hs.own h.o1 (hn _ h1), hs.own h.o2 (hn _ h2), h.lk, hs.own h.o3 (hn _ h3), hs.gr h.gr h.ny, fun b hb hy => ?_⟩
 ·rcases hY y hy with e | e
  ·exact h.ys y e
  ·omega
 ·rcases hY b hy with e | e
  ·exact h.ny b hb e
  ·have := (h.gr.bd hb).2; omega
theorem yJQ {σ5 : St} {a1 B1 B2 B3 d : Nat} {q : Option Addr} {L : List Rec} (hs : Srt L) (hlen : L.length ≤ 100000) (hbd : ∀ x ∈ L, Bd x) (hle : Le σ σ5) (hlw : σ.next ≤ σ5.low) (ha : a1 < σ5.next) (h1 : B1 < σ5.next) (h2 : B2 < σ5.next) (h3 : B3 < σ5.next) (g1 : σ.next ≤ B1) (g2 : σ.next ≤ B2) (g3 : σ.next ≤ B3) (d13 : B1 ≠ B3) (d23 : B2 ≠ B3) (d12 : B1 ≠ B2) (da : a1 ≠ B3) (hq : ∀ b, AtP q b → b < σ5.next) (hq3 : ∀ b, AtP q b → b ≠ B3)
  (oa : Own σ5 a1 [.slice q L.length d] 1) (hr : xB σ5 79 q L.length L) (o1 : Own σ5 B1 [.slice none 0 0] 1) (o2 : Own σ5 B2 [iV 0] 1) (o3 : Own σ5 B3 [.slice none 0 0] 1) {Pn Pr : St → Prop}
  (hn : ∀ z o po co, zAM L = some o → Le σ z → Own z B1 [.slice none 0 0] 1 → Own z B2 [iV 0] 1 → Own z B3 [.slice po o.length co] 1 → Gr Pg z σ5.next 70 5 po o.length co (o.map lkV) → yJ z.heap σ5.next = some .defd → σ5.next < z.next → σ.next ≤ z.low → Pn z)
  (hp : ∀ z, zAM L = none → Le σ z → Own z B1 [.slice none 0 0] 1 → Own z B2 [iV 9] 1 → yJ z.heap σ5.next = some .defd → σ5.next < z.next → σ.next ≤ z.low → Pr z) :
  yJR B1 B2 B3 65 [.pointer (some ⟨a1, 0, none⟩)] σ5 Pn Pr := by
 refine yRY (n0 := σ.next) (J := fun i Y z => ∃ o po co, LkJ σ σ5 a1 B1 B2 B3 q d L i Y z o po co) (X := fun z => zAM L = none ∧ Le σ z ∧ Own z B1 [.slice none 0 0] 1 ∧ Own z B2 [iV 9] 1) (a1 := a1) (c := d) (q := q) hs hlen (fun g0 => by kernel_rfl) hle.next ?_ ?_ ?_ ?_ ?_ ?_ ?_ ?_
 ·rintro i Y z ⟨o, po, co, h⟩; exact ⟨h.oa, h.rc⟩
 ·exact ⟨[], none, 0, Nat.le_refl _, fun y hy => hy.elim, hle, oa, hr, o1, o2, rfl, o3, Gr.nil, fun b hb => (AtP.none hb).elim⟩
 ·rintro i Y Y' z z' ⟨o, po, co, h⟩ hsm hY
  exact ⟨o, po, co, h.same hsm hY ha h1 h2 h3 hq⟩
 ·rintro i Y z r hri hk ⟨o, po, co, h⟩
  refine ⟨o, po, co, { h with lk := ?_ }⟩
  rw [zJM h.lk hri, if_neg hk]
 ·rintro i Y z zz r F B p d' lo g0 db hri hk hF hc hFm hB hBl hRec hl hlo hzz ⟨o, po, co, h⟩ hnz hYz
  have hrL := List.mem_of_getElem? hri
  have hil : i < L.length := (List.getElem?_eq_some_iff.1 hri).1
  have Nr : New z.re ((z.re.row (vY (zAX 0) (zAX 0) none 0 0) 13).own z.re.next (vY F r p B.length d') 13) := (New.row _ _ _).own (Nat.le_refl _)
  have hl1 : yJ ((z.re.row (vY (zAX 0) (zAX 0) none 0 0) 13).own z.re.next (vY F r p B.length d') 13).heap lo = some (zBN B1 B2 B3 65 [.pointer (some ⟨a1, 0, none⟩)] g0 .ready none db) := (Nr.le.get lo hlo).trans hl
  obtain ⟨z2, hz2⟩ : ∃ z2, z2 = ((z.re.row (vY (zAX 0) (zAX 0) none 0 0) 13).own z.re.next (vY F r p B.length d') 13).put lo (zBN B1 B2 B3 65 [.pointer (some ⟨a1, 0, none⟩)] g0 .busy none db) := ⟨_, rfl⟩
  have zn : zz.next = z.next := by rw [hzz]; rfl
  have N2 : New zz z2 := by
   refine ⟨⟨by rw [hz2, hzz]; show z.next ≤ z.next + 1; omega, fun y hy => ?_⟩, fun m m1 m2 => ?_⟩
   ·rw [zn] at hy
    rw [hz2, hzz, St.put_get, St.put_get]
    by_cases e : y = lo
    ·rw [if_pos e, if_pos e]; rfl
    ·rw [if_neg e, if_neg e]; exact Nr.le.get y hy
   ·rw [hzz] at m1 m2
    rw [hz2]
    simp only [St.put_low, yXS] at m1 ⊢
    have e1 := Nr.low m (by show m ≤ z.next; omega) (by show m ≤ z.next; exact m2)
    omega
  have n2 : z2.next = zz.next + 1 := by rw [hz2, hzz]; rfl
  have ho : Own z2 z.re.next (vY F r p B.length d') 13 := by
   rw [hz2]
   have h1 : Own ((z.re.row (vY (zAX 0) (zAX 0) none 0 0) 13).own z.re.next (vY F r p B.length d') 13) z.re.next (vY F r p B.length d') 13 := (zE _ _ _).put
   refine ⟨?_, h1.lt⟩
   rw [St.put_get, if_neg (show ¬ z.re.next = lo by show ¬ z.next = lo; omega)]; exact h1.get
  have lds : zD Pg z2 93 ⟨z.re.next, 0, none⟩ = some (.agg ⟨vY F r p B.length d'⟩) := by simpa [zJ] using ho.rw.loadN (P := Pg) (t := 93) agg93 zOA (k := 0) rfl rfl (by simp)
  have c1 := lack_c (σ := z2) (d := d') (F := F) (r := r) (SlV.le hRec N2.le) rfl (by omega) (by rcases hFm with e | ⟨m, rfl⟩; exact hbd F e; exact bd_z) (hbd r hrL) (fun x hx => hbd x (hB x hx))
  obtain ⟨k, hk2⟩ : ∃ k, k = zIA (zAW F B) r := ⟨_, rfl⟩
  rw [← hk2] at c1
  obtain ⟨z3, hz3⟩ : ∃ z3, z3 = (z2.row (zI 0 0 0 0 0) 5).own z2.next (lkL k) 5 := ⟨_, rfl⟩
  have N3 : New zz z3 := by rw [hz3]; exact (N2.row').own (by omega)
  have n3 : z3.next = zz.next + 2 := by rw [hz3]; show z2.next + 1 = _; omega
  have hsn := zJM h.lk hri
  rw [if_pos hk, ← hc, ← hk2] at hsn
  have keep : ∀ {S : Nat → Prop} {z4 : St}, Only S zz z4 → (∀ y, S y → y = B3 ∨ σ5.next ≤ y) → σ5.next ≤ z4.next ∧ (∀ y, Y y → σ5.next ≤ y) ∧ Le σ z4 ∧ Own z4 a1 [.slice q L.length d] 1 ∧ xB z4 79 q L.length L ∧ Own z4 B1 [.slice none 0 0] 1 ∧ Own z4 B2 [iV 0] 1 := by
   intro S z4 hO hS
   have hno : ∀ b, b < σ5.next → b ≠ B3 → ¬ S b := fun b hb hne hs => (hS b hs).elim hne (by omega)
   have := hO.next
   have hσ5 := hle.next
   refine ⟨by omega, h.ys, ⟨by have := h.le.next; omega, fun b hb => (hO.get b (by omega) (hno b (by omega) (by omega))).trans (h.le.get b hb)⟩, hO.own' h.oa (hno _ ha da), hO.slv' h.rc (fun a e => hno _ (hq _ ⟨a, e, rfl⟩) (hq3 _ ⟨a, e, rfl⟩)), hO.own' h.o1 (hno _ h1 d13), hO.own' h.o2 (hno _ h2 d23)⟩
  cases hok : zUW (zAW F B) r with
  | true =>
   left
   rw [hok] at c1 hsn
   rw [if_pos rfl] at hsn
   by_cases hpos : 0 < k.sales
   ·rw [if_pos hpos] at hsn
    have p3 := h.o3.le N3.le
    have l35 := p3.rw.load1 (P := Pg) (t := 35) yJH (k := 0) rfl
    have hol : o.length ≤ i := by
     have key : ∀ (j : Nat) (o : List Lk), wJ L j = some o → o.length ≤ j := by
      intro j
      induction j with
      | zero => intro o ho; cases ho; exact Nat.le_refl _
      | succ j ih =>
       intro o ho
       cases hp : wJ L j with
       | none => rw [zOZ hp (Nat.le_succ j)] at ho; cases ho
       | some o' =>
        have := ih o' hp
        cases hx : L[j]? with
        | none =>
         have : wJ L (j + 1) = none := by
          show (match wJ L j, L[j]? with | some o, some r => _ | _, _ => none) = none
          rw [hp, hx]
         rw [this] at ho; cases ho
        | some x =>
         rw [zJM hp hx] at ho
         split at ho
         ·split at ho
          ·split at ho
           ·cases ho; simp; omega
           ·cases ho; omega
          ·cases ho
         ·cases ho; omega
     exact key i o h.lk
    obtain ⟨p4, c4, z5, w1, w2, w3, w4⟩ := yAC (lkV k) yWG h.gr N3.le (elOk_lk k) (by omega) (by omega) (e := rfl) (hc := rfl)
    have kk : Only (AtP po) zz z5 := (N3.only.trans' (Only.row _ _ _) (fun _ _ h => .inl h)).trans' w3 (fun _ _ h => .inl h)
    have hB3 : ¬ AtP po B3 := fun hb => by have := (h.gr.bd hb).1; omega
    have q3 := kk.own' h.o3 hB3
    have st := q3.store (P := Pg) (k := 0) (t := 35) (v := .slice p4 (o.length + 1) c4) (vs := [.slice p4 (o.length + 1) c4]) (ds := [.slice p4 (o.length + 1) c4]) rfl yBE rfl (by simp) rfl
    have kS : Only (fun y => y = B3 ∨ AtP po y) zz (z5.own B3 [.slice p4 (o.length + 1) c4] 1) := (kk.mono (T := fun y => y = B3 ∨ AtP po y) fun b _ h => .inr h).trans' (Only.own (S := (· = B3)) (.inr rfl)) (fun b _ e => .inl (.inl e))
    have hB4 : ¬ AtP p4 B3 := fun hb => by have := (w2.bd hb).1; omega
    obtain ⟨m1, m2, m3, m4, m5, m6, m7⟩ := keep kS (fun y hy => hy.imp id fun e => (h.gr.bd e).1)
    subst hz3
    refine ⟨_, yWK hl hl1 hz2 lds c1 (by simpa [zJ] using l35) w1 st rfl hpos, ⟨o ++ [k], p4, c4, m1, m2, m3, m4, m5, m6, m7, hsn, ?_, ?_, fun b hb hy => ?_⟩, _, kS, fun y hy => ?_⟩
    ·rw [List.length_append]; exact q3.put
    ·rw [List.length_append, List.map_append]
     exact w2.only (Only.own (S := (· = B3)) (.inr rfl)) (fun b hb e => hB4 (e ▸ hb))
    ·rcases w4 b hb with e | e
     ·exact h.ny b e hy
     ·have e : z2.next + 1 ≤ b := e
      have := hYz b hy; omega
    ·have hσ5 := hle.next
     rcases hy with rfl | hy
     ·exact ⟨g3, fun hy => by have := h.ys _ hy; omega, fun _ => ⟨_, _, _, _, _, h.o3.get⟩⟩
     ·exact ⟨by have := (h.gr.bd hy).1; omega, h.ny y hy, fun _ => yHS h.gr hy⟩
   ·rw [if_neg hpos] at hsn
    obtain ⟨m1, m2, m3, m4, m5, m6, m7⟩ := keep (N3.only (S := fun _ => False)) (fun y hy => hy.elim)
    have g := h.gr.le N3.le
    have p3 := h.o3.le N3.le
    subst hz3
    exact ⟨_, yWJ hl hl1 hz2 lds c1 rfl hpos, ⟨o, po, co, m1, m2, m3, m4, m5, m6, m7, hsn, p3, g, h.ny⟩, _, N3.only (S := fun _ => False), fun y hy => hy.elim⟩
  | false =>
   right
   rw [hok] at c1 hsn
   rw [if_neg (by simp)] at hsn
   have hnone : zAM L = none := zOZ hsn (by omega)
   have p1 := h.o1.le N3.le
   have st1 := p1.store (P := Pg) (k := 0) (t := 35) (v := .slice none 0 0) (vs := [.slice none 0 0]) (ds := [.slice none 0 0]) rfl yBE rfl (by simp) rfl
   have p2 := (h.o2.le N3.le).own (ds := [.slice none 0 0]) (m := 1) (c := B1) (Ne.symm d12)
   have st2 := p2.store (P := Pg) (k := 0) (t := 25) (v := iV 9) (vs := [iV 9]) (ds := [iV 9]) rfl yJZ rfl (by simp) rfl
   have k1 : Only (fun y => y = B1 ∨ y = B2) zz (z3.own B1 [.slice none 0 0] 1) := N3.only.trans' (Only.own (S := (· = B1)) (.inr rfl)) (fun b _ e => .inl (.inl e))
   have kS : Only (fun y => y = B1 ∨ y = B2) zz ((z3.own B1 [.slice none 0 0] 1).own B2 [iV 9] 1) := k1.trans' (Only.own (S := (· = B2)) (.inr rfl)) (fun b _ e => .inl (.inr e))
   have f1 := (p1.put (ds := [.slice none 0 0])).own (ds := [iV 9]) (m := 1) (c := B2) d12
   have f2 := p2.put (ds := [iV 9])
   have hle4 : Le σ ((z3.own B1 [.slice none 0 0] 1).own B2 [iV 9] 1) := ⟨by have := h.le.next; have := kS.next; omega, fun b hb => (kS.get b (by have := h.le.next; omega) (by omega)).trans (h.le.get b hb)⟩
   subst hz3
   refine ⟨_, yWI hl hl1 hz2 lds c1 st1 st2 rfl, ⟨hnone, hle4, f1, f2⟩, _, kS, fun y hy => ?_⟩
   rcases hy with rfl | rfl
   ·exact ⟨g1, fun _ => ⟨_, _, _, _, _, h.o1.get⟩⟩
   ·exact ⟨g2, fun _ => ⟨_, _, _, _, _, h.o2.get⟩⟩
 ·rintro z z' ⟨x1, x2, x3, x4⟩ hsm
  exact ⟨x1, ⟨by have := x2.next; have := hsm.next; omega, fun b hb => (hsm.old b hb).trans (x2.get b hb)⟩, hsm.own x3 (fun h => h), hsm.own x4 (fun h => h)⟩
 ·rintro z ⟨x1, x2, x3, x4⟩ hd hlz hlow
  exact hp z x1 x2 x3 x4 hd hlz (hlow _ (Nat.le_refl _) hlw)
 ·rintro Y z ⟨o, po, co, h⟩ hd hlz hlow
  exact hn z o po co h.lk h.le h.o1 h.o2 h.o3 h.gr hd hlz (hlow _ (Nat.le_refl _) hlw)
end
end Go.Proofs.Ytffgfojabcbegaa
