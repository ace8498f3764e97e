
import Derived.Test.YtmdopblmkkameaaTL
namespace Go.Proofs.Ytmdopblmkkameaa
open Go Go.Lay
open Try renaming prog → Pg
set_option linter.unusedVariables false
set_option linter.unusedSimpArgs false
set_option maxRecDepth 20000
structure LvK where
 e : EnK
 Bb : Nat
 Be : Nat
 Bl : Nat
 n1 : Nat
abbrev LvK.args (K : LvK) : List Value := [.pointer (some ⟨K.Bb, 0, none⟩), .pointer (some ⟨K.Be, 0, none⟩), .pointer (some ⟨K.e.Bt, 0, none⟩), .pointer (some ⟨K.Bl, 0, none⟩)]
structure LvK.Ok (K : LvK) : Prop where
 e : K.e.Ok
 f0 : K.e.σf.next ≤ K.Bb
 f1 : K.e.σf.next ≤ K.n1
 b1 : K.Bb ≠ K.e.Bk ∧ K.Bb ≠ K.e.Bt ∧ K.Bb ≠ K.e.Bf ∧ K.Bb ≠ K.e.bm ∧ K.Bb ≠ K.Be ∧ K.Bb ≠ K.Bl
 b2 : K.e.bm ≠ K.Be ∧ K.e.bm ≠ K.Bl
 n1 : K.e.Bk < K.n1 ∧ K.e.Bt < K.n1 ∧ K.e.Bf < K.n1 ∧ K.e.bm < K.n1 ∧ K.Bb < K.n1 ∧ K.Be < K.n1 ∧ K.Bl < K.n1
structure LvW (K : LvK) (t : Tab) (pe : Option Addr) (le ce : Nat) (pt : Option Addr) (lt ct : Nat) (pf : Option Addr) (cf : Nat) (f : List Int) (z : St) (F : B12 → Option Bool) : Prop where
 w : EnW K.e t pe le ce pt lt ct pf cf f z F
 ob : ∃ pb lb cb, Own z K.Bb [.slice pb lb cb] 1
 oe : Own z K.Be [.func (.func 57) ⟨[]⟩ ⟨K.e.args⟩] 1
 ol : Own z K.Bl [.func (.func 60) ⟨[]⟩ ⟨K.args⟩] 1
 nz : K.n1 ≤ z.next
section
variable {K : LvK} {t : Tab} {pe pt pf : Option Addr} {le ce lt ct cf : Nat} {f : List Int} {z : St} {F : B12 → Option Bool}
theorem LvW.leT {z' : St} (h : LvW K t pe le ce pt lt ct pf cf f z F) (k : Le z z') : LvW K t pe le ce pt lt ct pf cf f z' F := ⟨h.w.leT k, by obtain ⟨pb, lb, cb, o⟩ := h.ob; exact ⟨pb, lb, cb, o.le k⟩, h.oe.le k, h.ol.le k, Nat.le_trans h.nz k.next⟩
theorem LvW.only {S : Nat → Prop} {z' : St} (ok : K.Ok) (h : LvW K t pe le ce pt lt ct pf cf f z F) (k : Only S z z') (hS : ∀ b, S b → K.n1 ≤ b) : LvW K t pe le ce pt lt ct pf cf f z' F := by
 obtain ⟨m1, m2, m3, m4, m5, m6, m7⟩ := ok.n1
 have f1 := ok.f1
 have no : ∀ b, b < K.n1 → ¬ S b := fun b hb hs => by have := hS b hs; omega
 exact ⟨h.w.only k (fun b hs => by have := hS b hs; omega) (no _ m1) (no _ m2) (no _ m3) (no _ m4), by obtain ⟨pb, lb, cb, o⟩ := h.ob; exact ⟨pb, lb, cb, k.own' o (no _ m5)⟩, k.own' h.oe (no _ m6), k.own' h.ol (no _ m7), Nat.le_trans h.nz k.next⟩
def LvR (K : LvK) (t : Tab) (pe : Option Addr) (le ce : Nat) (pt : Option Addr) (lt ct : Nat) (pf : Option Addr) (cf : Nat) (f : List Int) (pl : Option Addr) (ll lc : Nat) (xs : List Nat) (sf : List (Nat × Nat)) (S : Nat → Bool) (from_ more : Nat) (v : Value) (s : St) : Prop :=
 ∃ r F' x, v = .bool r ∧ LvW K t pe le ce pt lt ct pf cf f s F' ∧ Stk s K.n1 pl ll lc ((wI xs).map xK) sf ∧ LvQ t f S from_ more r x ∧ (r = true → s.low ≤ K.Bb ∧ ∃ pb lb cb, Own s K.Bb [.slice pb lb cb] 1 ∧ yZ s pb lb (wI (xs ++ x)))
theorem LvR.low {pl : Option Addr} {ll lc : Nat} {xs : List Nat} {sf : List (Nat × Nat)} {S : Nat → Bool} {from_ more : Nat} {v : Value} {s : St} {m : Nat} (hm : m ≤ s.low) (h : LvR K t pe le ce pt lt ct pf cf f pl ll lc xs sf S from_ more v s) : LvR K t pe le ce pt lt ct pf cf f pl ll lc xs sf S from_ more v ⟨s.heap, s.next, m⟩ := by
 obtain ⟨r, F', x, h1, h2, h3, h4, h5⟩ := h
 have k : Le s ⟨s.heap, s.next, m⟩ := ⟨Nat.le_refl _, fun _ _ => rfl⟩
 exact ⟨r, F', x, h1, h2.leT k, h3.le k, h4, fun hr => by
  obtain ⟨g1, pb, lb, cb, g2, g3⟩ := h5 hr
  exact ⟨Nat.le_trans hm g1, pb, lb, cb, g2.le k, SlV.le g3 k⟩⟩
theorem bel_bools {S : Nat → Bool} {n : Nat} : xO RD n (.agg ⟨yJ 12 S⟩) = true := wH (by kernel_rfl)
theorem leave_c (ok : K.Ok) (T : TabP K.e.σf pe le pt lt t) (hv : Valid t) (hlt : lt ≤ 12) (I : yZ K.e.σf pf 3 f) (hf : ∀ x ∈ f, -100000 ≤ x ∧ x ≤ 100000) : ∀ (more : Nat) (z : St) (F : B12 → Option Bool) (pl : Option Addr) (ll lc : Nat) (sf : List (Nat × Nat)) (xs : List Nat) (S : Nat → Bool) (from_ : Nat),
  LvW K t pe le ce pt lt ct pf cf f z F → Stk z K.n1 pl ll lc ((wI xs).map xK) sf → xs.length + more ≤ 100 → from_ ≤ lt →
  ∃ v z', zD Pg 60 (.slice pl ll lc :: .agg ⟨yJ 12 S⟩ :: iV (from_ : Int) :: iV (more : Int) :: K.args) z v z' ∧ Only (fun b => b = K.Bb ∨ b = K.e.bm ∨ AtP pl b) z z' ∧ LvR K t pe le ce pt lt ct pf cf f pl ll lc xs sf S from_ more v z' := by
 have hnt : t.nt = lt := T.len
 obtain ⟨c1, c2, c3, c4, c5, c6⟩ := ok.b1
 obtain ⟨d1, d2⟩ := ok.b2
 obtain ⟨m1, m2, m3, m4, m5, m6, m7⟩ := ok.n1
 have f0 := ok.f0
 have f1 := ok.f1
 intro more
 induction more with
 | zero =>
  intro z F pl ll lc sf xs S from_ hW hS hlen hfr
  refine mut5 ?_ (fun v s m hm h => h.low hm)
  have hz := hW.nz
  have hll : ll ≤ 100 := by have h1 := hS.leq; simp at h1; omega
  have hel : ∀ v ∈ (wI xs).map xK, zGY Pg 3 1 v ∧ v.cells.toList = [v] := by
   intro v hv
   obtain ⟨x, _, rfl⟩ := List.mem_map.1 hv
   exact ⟨zCH x, rfl⟩
  obtain ⟨σ1, hσ1⟩ : ∃ σ1, σ1 = z.re.row (yJ 12 S) 1 := ⟨_, rfl⟩
  have n1 : New z.re σ1 := by rw [hσ1]; exact New.row _ _ _
  have nx1 : σ1.next = z.next + 1 := by rw [hσ1]; rfl
  have oS : Own σ1 z.next (yJ 12 S) 1 := by rw [hσ1]; exact zC _ _ _
  have S1 := (hS.le (le0 z)).le n1.le
  have hi : yZ σ1 pl ll (wI xs) := S1.slv hel
  obtain ⟨p2, c2', σ2, k1, n2, I2, hb2⟩ := clone_c (lc := lc) hi (by omega) (fun e => by
   rcases hS with ⟨_, h, _⟩ | ⟨b, s, bc, pre, r, nx, h, _⟩
   ·exact h
   ·rw [e] at h; cases h)
  have W2 := ((hW.leT (le0 z)).leT n1.le).leT n2.le
  obtain ⟨pb, lb, cb, ob⟩ := W2.ob
  have st := ob.store (P := Pg) (k := 0) (t := 41) (v := .slice p2 ll c2') (vs := [.slice p2 ll c2']) (ds := [.slice p2 ll c2']) rfl size41 rfl (by simp) rfl
  obtain ⟨σ3, hσ3⟩ : ∃ σ3, σ3 = σ2.own K.Bb [.slice p2 ll c2'] 1 := ⟨_, rfl⟩
  have kb : Only (· = K.Bb) σ2 σ3 := by rw [hσ3]; exact Only.own (.inr rfl)
  have o3 : Own σ3 K.Bb [.slice p2 ll c2'] 1 := by rw [hσ3]; exact ob.put
  have w3 : EnW K.e t pe le ce pt lt ct pf cf f σ3 F := W2.w.only kb (fun b e => by subst e; exact f0) (fun e => c1 e.symm) (fun e => c2 e.symm) (fun e => c3 e.symm) (fun e => c4 e.symm)
  have oe3 := kb.own' W2.oe (fun e => c5 e.symm)
  have ol3 := kb.own' W2.ol (fun e => c6 e.symm)
  have oS3 := kb.own' (oS.le n2.le) (show z.next ≠ K.Bb by omega)
  obtain ⟨z', F', k5, o5, w5⟩ := enough_c ok.e T hv hlt I hf (S := S) w3
  have lS : zB Pg σ3 84 ⟨z.next, 0, none⟩ = some (.agg ⟨yJ 12 S⟩) := oS3.ldN (P := Pg) (t := 84) (by kernel_rfl) (by kernel_rfl : yV Pg 84 = some 12) (k := 0) rfl (by rw [xC]) (by rw [xC]; decide)
  have le3 : zB Pg σ3 98 ⟨K.Be, 0, none⟩ = some (.func (.func 57) ⟨[]⟩ ⟨K.e.args⟩) := oe3.ldI (i := 0) (by kernel_rfl) rfl
  have hlow3 : σ3.low ≤ K.Bb := by rw [hσ3]; simp [St.own]; omega
  have hlow := callsA_low k5
  have n12 := n1.trans n2
  have hz1 := n12.nx
  have zr : z.re.next = z.next := rfl
  have kA : Only (fun b => b = K.Bb ∨ b = K.e.bm ∨ AtP pl b) z.re z' := (n12.only.trans' kb (fun b _ e => .inl (.inl e))).trans' o5 (fun b _ e => .inl (.inr (.inl e)))
  have hAt : ∀ b, AtP pl b → K.n1 ≤ b ∧ b < z.next := fun b hb => hS.bd b hb
  have hp2 : ∀ b, AtP p2 b → b ≠ K.Bb ∧ b ≠ K.e.bm := fun b hb => by have := hb2 b hb; omega
  have I3 : yZ σ3 p2 ll (wI xs) := kb.slv' I2 (fun a e h => (hp2 a.block ⟨a, e, rfl⟩).1 h)
  have I5 : yZ z' p2 ll (wI xs) := o5.slv' I3 (fun a e h => (hp2 a.block ⟨a, e, rfl⟩).2 h)
  have S5 : Stk z' K.n1 pl ll lc ((wI xs).map xK) sf := ((S1.le n2.le).only kb (fun b hb e => by have := (hAt b hb).1; omega)).only o5 (fun b hb e => by have := (hAt b hb).1; omega)
  have o5b := o5.own' o3 c4
  rw [hσ1] at k1
  exact Lacks3_ra k1 (by rw [hσ3]; exact st) le3 lS k5 ⟨kA, .inl (by omega), enS t f S, F', [], rfl, ⟨w5, ⟨_, _, _, o5b⟩, o5.own' oe3 (fun e => d1 e.symm), o5.own' ol3 (fun e => d2 e.symm), by have := kA.next; omega⟩, S5, LvQ.zero, fun _ => ⟨by omega, _, _, _, o5b, by rw [List.append_nil]; exact I5⟩⟩ rfl
 | succ more ih =>
  intro z F pl ll lc sf xs S from_ hW hS hlen hfr
  refine mut5 ?_ (fun v s m hm h => h.low hm)
  have hz := hW.nz
  have zr : z.re.next = z.next := rfl
  have hll : ll ≤ 100 := by have h1 := hS.leq; simp at h1; omega
  obtain ⟨σ1, hσ1⟩ : ∃ σ1, σ1 = z.re.row (yJ 12 S) 1 := ⟨_, rfl⟩
  have n1 : New z.re σ1 := by rw [hσ1]; exact New.row _ _ _
  have nx1 : σ1.next = z.next + 1 := by rw [hσ1]; rfl
  have oS : Own σ1 z.next (yJ 12 S) 1 := by rw [hσ1]; exact zC _ _ _
  have W1 := (hW.leT (le0 z)).leT n1.le
  have S1 := (hS.le (le0 z)).le n1.le
  have hAt : ∀ b, AtP pl b → K.n1 ≤ b ∧ b < z.next := fun b hb => hS.bd b hb
  have hmi : ((more + 1 : Nat) : Int) - 1 = (more : Int) := by omega
  let R : Value → St → Prop := fun v s => Only (fun b => b = K.Bb ∨ b = K.e.bm ∨ AtP pl b) z.re s ∧ (s.low < z.next ∨ (zV RD v = true ∧ LvR K t pe le ce pt lt ct pf cf f pl ll lc xs sf S from_ (more + 1) v z)) ∧ LvR K t pe le ce pt lt ct pf cf f pl ll lc xs sf S from_ (more + 1) v s
  have hL : Lacks3_L1 pl ll lc ((more + 1 : Nat) : Int) ⟨K.e.Bt, 0, none⟩ ⟨K.Bl, 0, none⟩ z.next (from_ : Int) σ1 (fun b s => R (.bool b) s) (fun s => R (.bool false) s) := by
   refine Lacks3_loop1 (Inv := fun k i y => ∃ (j : Nat) (F' : B12 → Option Bool), i = j ∧ j + k = lt ∧ from_ ≤ j ∧ Only (fun b => b = K.Bb ∨ b = K.e.bm ∨ AtP pl b) z.re y ∧ σ1.next ≤ y.next ∧ LvW K t pe le ce pt lt ct pf cf f y F' ∧ Stk y K.n1 pl ll lc ((wI xs).map xK) sf ∧ Own y z.next (yJ 12 S) 1 ∧ ∀ x, riN t.nt from_ x → x.length = more + 1 → x.head?.getD 0 < j → enS t f (mns S x) = false) ?_ (lt - from_) _ σ1 ⟨from_, F, rfl, by omega, Nat.le_refl _, n1.only, Nat.le_refl _, W1, S1, oS, fun x hx hl hh => ?_⟩
   rotate_left
   ·cases x with
    | nil => simp at hl
    | cons a x => have := hx.1; simp at hh; omega
   rintro k i y ⟨j, F', rfl, hk, hfj, a1, a2, a3, a4, a5, a6⟩
   have l32 : ∀ u, Own u K.e.Bt (yE t pe le ce pt lt ct) 4 → zB Pg u 32 (zK ⟨K.e.Bt, 0, none⟩ 3) = some (.slice pt lt ct) := fun u o => by simpa [zK] using o.ldI (P := Pg) (t := 32) (i := 3) zDS rfl
   by_cases hj : j < lt
   rotate_left
   ·have hq : LvQ t f S from_ (more + 1) false [] := ⟨fun h => (by cases h), fun _ x hx hl => by
     cases x with
     | nil => simp at hl
     | cons a x => exact a6 (a :: x) hx hl (by have := hx.2.1; simp; omega)⟩
    exact Lacks3_s1c (l32 y a3.w.ot) ⟨a1, .inr ⟨rfl, false, F, [], rfl, hW, hS, hq, fun h => by cases h⟩, false, F', [], rfl, a3, a4, hq, fun h => by cases h⟩ (by omega)
   have yz := a3.nz
   obtain ⟨y1, hy1⟩ : ∃ y1, y1 = y.row (yJ 12 fun _ => false) 1 := ⟨_, rfl⟩
   have e1 : Own y1 y.next (yJ 12 fun _ => false) 1 := by rw [hy1]; exact zC _ _ _
   have N1 : New y y1 := by rw [hy1]; exact New.row _ _ _
   have st1 := boolL_st (g := S) e1
   obtain ⟨y2, hy2⟩ : ∃ y2, y2 = y1.own y.next (yJ 12 S) 1 := ⟨_, rfl⟩
   have e2 : Own y2 y.next (yJ 12 S) 1 := by rw [hy2]; exact e1.put
   have N2 : New y y2 := by rw [hy2]; exact N1.own (Nat.le_refl _)
   have st2 := own_stB e2 (P := Pg) (t := 4) (v := false) (i := j) size4 (by omega)
   obtain ⟨y3, hy3⟩ : ∃ y3, y3 = y2.own y.next (yJ 12 fun k => if k = j then false else S k) 1 := ⟨_, rfl⟩
   have e3 : Own y3 y.next (yJ 12 fun k => if k = j then false else S k) 1 := by rw [hy3]; exact e2.put
   have N3 : New y y3 := by rw [hy3]; exact N2.own (Nat.le_refl _)
   have nx3 : y3.next = y.next + 1 := by rw [hy3, hy2, hy1]; rfl
   have W3 := a3.leT N3.le
   have S3 := a4.le N3.le
   obtain ⟨p', c', sf', y4, g1, g2, g3, g4, g5, g6⟩ := S3.push (v := xK (j : Int)) zDE rfl (by omega) (by have := W3.nz; omega)
   have W4 := W3.only ok g4 (fun b hb => (hAt b hb).1)
   have n4 := g4.next
   have e4 := g4.own' e3 (fun hb => by have := (hAt _ hb).2; have := a1.next; omega)
   have exs : (wI xs).map xK ++ [xK (j : Int)] = (wI (xs ++ [j])).map xK := by simp
   rw [exs] at g2
   obtain ⟨v, z5, k5, o5, r, F5, x, rfl, f1, f2, f3, f4⟩ := ih y4 F' p' (ll + 1) c' sf' (xs ++ [j]) (fun k => if k = j then false else S k) (j + 1) W4 g2 (by simp; omega) (by omega)
   have s5 : Stk z5 K.n1 pl ll lc ((wI xs).map xK) sf := Kid.pop (by rw [← exs]; exact g3) f2
   have hy := a1.next
   have o5' : Only (fun b => b = K.Bb ∨ b = K.e.bm ∨ AtP pl b) z.re z5 := ((a1.trans' N3.only (fun b _ e => .inl e)).trans' g4 (fun b _ h => .inl (.inr (.inr h)))).trans' o5 (fun b hb h => by
    rcases h with h | h | h
    ·exact .inl (.inl h)
    ·exact .inl (.inr (.inl h))
    ·rcases g6 b h with h1 | h1
     ·exact .inl (.inr (.inr h1))
     ·exact .inr (by omega))
   have hp'z : ¬ AtP p' z.next := fun h => by
    rcases g6 _ h with h1 | h1
    ·have := (hAt _ h1).2; omega
    ·omega
   have oS4 := g4.own' (a5.le N3.le) (fun hb => by have := (hAt _ hb).2; omega)
   have oS5 := o5.own' oS4 (by rintro (e | e | e); omega; omega; exact hp'z e)
   have lS : ∀ u (g : Nat → Bool) (b : Nat), Own u b (yJ 12 g) 1 → zB Pg u 84 ⟨b, 0, none⟩ = some (.agg ⟨yJ 12 g⟩) := fun u g b o => o.ldN (P := Pg) (t := 84) (by kernel_rfl) (by kernel_rfl : yV Pg 84 = some 12) (k := 0) rfl (by rw [xC]) (by rw [xC]; decide)
   have lL : ∀ u, Own u K.Bl [.func (.func 60) ⟨[]⟩ ⟨K.args⟩] 1 → zB Pg u 99 ⟨K.Bl, 0, none⟩ = some (.func (.func 60) ⟨[]⟩ ⟨K.args⟩) := fun u o => o.ldI (i := 0) (by kernel_rfl) rfl
   have oRow := Le.row y3 [iV (j : Int)] 1
   have ol3 := W3.ol
   have ol3r := ol3.le oRow
   have ol4 := W4.ol
   have e3r := e3.le oRow
   have hbl : ∀ m, K.Bb < m → K.Be < m → K.e.Bt < m → K.Bl < m → xO RD m (.func (.func 60) ⟨[]⟩ ⟨K.args⟩) = true := fun m h1 h2 h3 h4 => by
    show ((true && true) && (Nat.blt K.Bb m && (Nat.blt K.Be m && (Nat.blt K.e.Bt m && (Nat.blt K.Bl m && true))))) = true
    rw [(yH _ _).2 h1, (yH _ _).2 h2, (yH _ _).2 h3, (yH _ _).2 h4]; rfl
   have p'b : ∀ a, p' = some a → a.block < y4.next := fun a e => (g2.bd a.block ⟨a, e, rfl⟩).2
   have plb : ∀ a, pl = some a → a.block < y.next := fun a e => (a4.bd a.block ⟨a, e, rfl⟩).2
   have q9 : zH y3.next [.pointer (some ⟨K.Bl, 0, none⟩)] := zF (zI ol3.lt) zG
   have q10 : zH (y3.row [iV (j : Int)] 1).next [.slice pl ll lc, .slice (some ⟨y3.next, 0, none⟩) 1 1] := zF (wT fun a e => by have := plb a e; show a.block < y3.next + 1; omega) (zF (wT fun a e => by cases e; show y3.next < y3.next + 1; omega) zG)
   have q11 : zH y4.next [.pointer (some ⟨y.next, 0, none⟩)] := zF (zI e4.lt) zG
   have w4n := W4.nz
   have q12 : zH y4.next [.func (.func 60) ⟨[]⟩ ⟨K.args⟩, .slice p' (ll + 1) c', .agg ⟨yJ 12 fun k => if k = j then false else S k⟩, iV ((j : Int) + 1), iV (((more + 1 : Nat) : Int) - 1)] := zF (hbl _ (by omega) (by omega) (by omega) (by omega)) (zF (wT p'b) (zF bel_bools (zF rfl (zF rfl zG))))
   have k5' : zD Pg 60 (.slice p' (ll + 1) c' :: .agg ⟨yJ 12 fun k => if k = j then false else S k⟩ :: iV ((j : Int) + 1) :: iV (((more + 1 : Nat) : Int) - 1) :: K.args) y4 (.bool r) z5 := by
    rw [hmi, ← show ((j + 1 : Nat) : Int) = (j : Int) + 1 by omega]; exact k5
   have st2' : zR Pg (evL [.pointer (some ⟨y.next, 0 + Int.toNat (j : Int) * 1, none⟩), .bool false]) y2 (.store 4 (.tmp 0) (.tmp 1)) = some (undef, y3) := by rw [hy3]; simpa [zK] using st2
   rw [hy2] at st2'
   rw [hy1] at st1 st2'
   cases r with
   | true =>
    obtain ⟨u1, pb, lb, cb, u2, u3⟩ := f4 rfl
    have hq : LvQ t f S from_ (more + 1) true (j :: x) := LvQ.yes a6 hfj (by omega) f3
    refine Lacks3_s1a (l32 y a3.w.ot) (lS y S _ a5) st1 st2' (lL _ ol3) g1 (lS _ _ _ e4) k5' q9 q10 q11 q12 ⟨⟨ol3.lt, rfl⟩, lL _ ol3⟩ ⟨⟨ol3r.lt, rfl⟩, lL _ ol3r⟩ ⟨⟨ol4.lt, rfl⟩, lL _ ol4⟩ ⟨⟨e3.lt, rfl⟩, lS _ _ _ e3⟩ ⟨⟨e3r.lt, rfl⟩, lS _ _ _ e3r⟩ ⟨⟨e4.lt, rfl⟩, lS _ _ _ e4⟩ ⟨o5', .inl (by omega), true, F5, j :: x, rfl, f1, s5, hq, fun _ => ⟨u1, pb, lb, cb, u2, by rw [List.append_assoc] at u3; exact u3⟩⟩
   | false =>
    refine Lacks3_s1b (l32 y a3.w.ot) (lS y S _ a5) st1 st2' (lL _ ol3) g1 (lS _ _ _ e4) k5' q9 q10 q11 q12 ⟨⟨ol3.lt, rfl⟩, lL _ ol3⟩ ⟨⟨ol3r.lt, rfl⟩, lL _ ol3r⟩ ⟨⟨ol4.lt, rfl⟩, lL _ ol4⟩ ⟨⟨e3.lt, rfl⟩, lS _ _ _ e3⟩ ⟨⟨e3r.lt, rfl⟩, lS _ _ _ e3r⟩ ⟨⟨e4.lt, rfl⟩, lS _ _ _ e4⟩ ⟨k - 1, by omega, j + 1, F5, by omega, by omega, by omega, o5', by have := o5.next; omega, f1, s5, oS5, fun x' hx' hl' hh => ?_⟩
    cases x' with
    | nil => simp at hl'
    | cons a x' =>
     by_cases ea : a = j
     ·subst ea
      have := f3.2 rfl x' hx'.2.2 (by simpa using hl')
      rw [mns_cons] at this; exact this
     ·exact a6 (a :: x') hx' hl' (by simp at hh ⊢; omega)
  rw [hσ1] at hL
  exact Lacks3_rb hL (fun b s h => Lacks3_t1xra h) (fun s h => Lacks3_t1x0a h) (by omega)
end
end Go.Proofs.Ytmdopblmkkameaa
