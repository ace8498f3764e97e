
import Derived.Test.YtgfiniccfpfplaaGreatRQ
namespace Go.Proofs.YtgfiniccfpfplaaGreat
open Go Go.Lay
set_option linter.unusedVariables false
set_option linter.unusedSimpArgs false
set_option maxRecDepth 20000
structure JL (σ : St) (wl : List Value) (rv tv : Value) (X : Nat → Prop) (f : Nat → Std) (A : List Bch) (τ : St) : Prop where
 le : Le σ.re τ
 wk : Row τ ⟨σ.next, 0, none⟩ wl
 ro : Row τ ⟨σ.next + 1, 0, none⟩ [rv]
 tr : Row τ ⟨σ.next + 2, 0, none⟩ [tv]
 nw : Own τ (σ.next + 4) (stL f) 4
 out : ∃ po co, Own τ (σ.next + 3) [.slice po A.length co] 1 ∧ Gr Tryz.prog τ (σ.next + 5) 45 3 po A.length co (A.map zHO) ∧ ∀ b, AtP po b → ¬ X b
section
variable {σ τ τ' : St} {wl : List Value} {rv tv : Value} {X : Nat → Prop} {f : Nat → Std} {A : List Bch}
theorem J.dn (h : J σ wl rv tv X f A τ) : JL σ wl rv tv X f A τ := ⟨h.new.le, h.wk, h.ro, h.tr, h.nw, h.out⟩
theorem JL.up (h : JL σ wl rv tv X f A τ) (hl : σ.next ≤ τ.low) : J σ wl rv tv X f A τ := ⟨⟨h.le, fun m _ h2 => Nat.le_trans h2 hl⟩, h.wk, h.ro, h.tr, h.nw, h.out⟩
theorem JL.mono {Y : Nat → Prop} (h : JL σ wl rv tv X f A τ) (k : ∀ b, b < τ.next → σ.next + 5 ≤ b → Y b → X b) : JL σ wl rv tv Y f A τ := by
 obtain ⟨po, co, h1, h2, h3⟩ := h.out
 exact ⟨h.le, h.wk, h.ro, h.tr, h.nw, po, co, h1, h2, fun b hb hy => h3 b hb (k b (h2.bd hb).2 (h2.bd hb).1 hy)⟩
theorem JL.same {n0 : Nat} (h : JL σ wl rv tv X f A τ) (k : Same n0 τ τ') (hn : σ.next ≤ n0) : JL σ wl rv tv X f A τ' := by
 obtain ⟨po, co, h1, h2, h3⟩ := h.out
 exact ⟨⟨Nat.le_trans h.le.next k.next, fun b hb => (k.old b (Nat.lt_of_lt_of_le hb hn)).trans (h.le.get b hb)⟩, k.rw h.wk, k.rw h.ro, k.rw h.tr, k.own h.nw, po, co, k.own h1, k.gr h2, h3⟩
theorem yOH {lo : Nat} {args : List Value} {z : St} {tm : Tm} {ps : List Tmp} {a b : Code} {db : Nat} {Q : St → Prop} (h : zMH Tryz.prog lo args z tm ps a b db [⟨Unit, .normal, fun _ => [], fun _ => [], fun _ z => Q z⟩]) : ∃ z4, Q z4 ∧ zMH Tryz.prog lo args z tm ps a b db [⟨Unit, .normal, fun _ => [], fun _ => [], fun _ z => z = z4⟩] := by
 obtain ⟨e, z', ⟨al, hal, rfl, t, hq⟩, hc⟩ := h
 simp only [In, or_false] at hal
 subst hal
 exact ⟨z', hq, _, z', ⟨_, .inl rfl, rfl, (), rfl⟩, hc⟩
variable {w : Wk} {p q r t : Option Addr} {l m c d rc tc D : Nat} {rs ts : List Int}
theorem day_run {wd i19 : Int} {a1 a2 : Nat} (h : WkP σ 85 88 w p l q m) (hs : Sane w l m) (hsh : zIY w) (hr : yU σ r l rs) (ht : yU σ t l ts) (hro : ∀ i, i < l → -1 ≤ zL rs i ∧ zL rs i < (m : Int))
  (hts : ∀ i, i < l → (dty w i).on ≤ zL ts i ∧ zL ts i ≤ (dty w i).on + 1440) (hA : ∀ j, j ≤ l → (zEZ w (zL rs) (zL ts) D ++ zGX w (zL rs) (zL ts) D j).length ≤ 450) (hD : D ≤ 6)
  (r1 : Row τ ⟨a1, 0, none⟩ (wkc w.days p l c q m d w.rest w.run w.hours)) (r2 : Row τ ⟨a2, 0, none⟩ [xE D]) (ha2 : σ.next + 5 ≤ a2) {ms : List Nat} (hms : ∀ y ∈ ms, yJ τ.heap y = some .defd ∧ σ.next + 5 ≤ y ∧ y < τ.next)
  (hJ : J σ (wkc w.days p l c q m d w.rest w.run w.hours) (.slice r l rc) (.slice t l tc) (fun x => x = a2 ∨ x ∈ ms) (stF w (zL rs) (zL ts) m D 0) (zEZ w (zL rs) (zL ts) D) τ) {Qn : St → Prop}
  (hQ : ∀ z, JL σ (wkc w.days p l c q m d w.rest w.run w.hours) (.slice r l rc) (.slice t l tc) (fun x => x ∈ τ.next :: ms) (stF w (zL rs) (zL ts) m (D + 1) 0) (zEZ w (zL rs) (zL ts) (D + 1)) z → (∀ y ∈ τ.next :: ms, yJ z.heap y = some .defd) → τ.next < z.next → σ.next ≤ z.low → Qn z) :
  yDT σ.next (σ.next + 1) (σ.next + 2) (σ.next + 3) (σ.next + 4) wd i19 91 [.pointer (some ⟨a1, 0, none⟩), .pointer (some ⟨a2, 0, none⟩)] τ Qn := by
 have hn := h.len.1
 have hm6 := hs.m6
 have hl12 := hs.l12
 have hτ5 : σ.next + 5 ≤ τ.next := by have := hJ.nw.lt; omega
 obtain ⟨X, hX⟩ : ∃ X : Nat → Prop, X = fun x => x < σ.next ∨ x = a2 ∨ x = τ.next ∨ x = τ.next + 1 ∨ x ∈ ms := ⟨_, rfl⟩
 have hX3 : ¬ X (σ.next + 3) := by
  rw [hX]; rintro (g | g | g | g | g)
  ·omega
  ·omega
  ·omega
  ·omega
  ·have := (hms _ g).2.1; omega
 have hX4 : ¬ X (σ.next + 4) := by
  rw [hX]; rintro (g | g | g | g | g)
  ·omega
  ·omega
  ·omega
  ·omega
  ·have := (hms _ g).2.1; omega
 refine ySN (w := w) (pp := p) (q := q) (l := l) (m := m) (c := c) (d := d) (D := D) (a1 := a1) (a2 := a2) (n0 := σ.next) (J := fun s z => JL σ (wkc w.days p l c q m d w.rest w.run w.hours) (.slice r l rc) (.slice t l tc) X (stF w (zL rs) (zL ts) m D s) (zEZ w (zL rs) (zL ts) D ++ zGX w (zL rs) (zL ts) D s) z ∧ Row z ⟨a2, 0, none⟩ [xE D] ∧ (∀ y ∈ ms, yJ z.heap y = some .defd) ∧ τ.next ≤ z.next)
  (fun g0 => rfl) r1 (by omega) (by omega) (fun s z hz => ⟨hz.2.1, SlV.le h.dty ((le0 σ).trans hz.1.le)⟩) ⟨?_, r2, fun y hy => (hms y hy).1, Nat.le_refl _⟩ (fun s z z' hz hk => ⟨hz.1.same hk (Nat.le_refl _), hk.rw hz.2.1, fun y hy => by rw [hk.get y (by have := (hms y hy).2.2; have := hz.2.2.2; omega) (fun _ _ _ _ _ _ _ e => by rw [hz.2.2.1 y hy] at e; cases e)]; exact hz.2.2.1 y hy, Nat.le_trans hz.2.2.2 hk.next⟩) ?_ ?_ ?_
 ·have e : zEZ w (zL rs) (zL ts) D ++ zGX w (zL rs) (zL ts) D 0 = zEZ w (zL rs) (zL ts) D := by simp [zGX]
  rw [e]
  refine hJ.dn.mono ?_
  rw [hX]
  rintro b hb hb2 (h1 | h1 | h1 | h1 | h1)
  ·omega
  ·exact .inl h1
  ·omega
  ·omega
  ·exact .inr h1
 ·rintro s z hsl hd ⟨hz, hz2⟩
  rw [yIB (fun e => hd e.1), yDM (fun e => hd e.1)]
  exact ⟨hz, hz2⟩
 ·rintro s z z1 lo g0 db hsl hd hlo hlp hz1 ⟨hz, hz2, hz3, hz4⟩ hnx
  have zl := zUQ z.re (dty w s)
  have hlt : lo < z.next := by omega
  have hl1 : yJ (yEI z.re (dty w s)).heap lo = some (zEM σ.next (σ.next + 1) (σ.next + 2) (σ.next + 3) (σ.next + 4) wd i19 91 [.pointer (some ⟨a1, 0, none⟩), .pointer (some ⟨a2, 0, none⟩)] g0 .ready none db) := by
   rw [zl.get _ hlt]; exact hlp
  have s1 : Same σ.next z z1 := ⟨by rw [hz1]; exact zl.next, fun y hy hne => by
   rw [hz1, St.put_get, if_neg (fun e => by subst e; exact hne _ _ _ _ _ _ _ hlp)]; exact zl.get y hy, fun y hy => by rw [hz1, St.put_get, if_neg (by omega)]; exact zl.get y (by show y < z.next; omega)⟩
  have hm1 : ∀ y ∈ ms, yJ z1.heap y = some .defd := fun y hy => by rw [s1.get y (by have := (hms y hy).2.2; omega) (fun _ _ _ _ _ _ _ e => by rw [hz3 y hy] at e; cases e)]; exact hz3 y hy
  have hlw : σ.next ≤ z1.low := by rw [hz1]; show σ.next ≤ min (min z.next z.next) lo; omega
  have Jz := (hz.mono (Y := fun x => X x ∨ z.next ≤ x) (fun b h1 _ h3 => h3.elim id (fun h4 => by omega)))
  have J1 := (Jz.same s1 (Nat.le_refl _)).up hlw
  have rB : Row z1 ⟨z.re.next, 0, none⟩ (dtyL (dty w s)) := by
   rw [hz1]
   exact (Only.put (S := (· = lo)) (.inr rfl)).rw' ((zD z.re (zF 0 0 0 0 0) 5).put).rw (fun e => by have e : z.next = lo := e; omega)
  have LS : Le σ z1 := (le0 σ).trans J1.new.le
  obtain ⟨a, rfl, x, hx, lx⟩ := vQ (SlV.le hr LS) hsl
  have gx : zL rs s = x := yH hx
  have l26 : zC Tryz.prog z1 26 ⟨σ.next + 1, 0, none⟩ = some (.slice (some a) l rc) := J1.ro.ld yY rfl
  have hrs := hro s hsl
  by_cases e1 : x = -1
  ·refine ⟨z1, yTH hlp hl1 hz1 l26 lx rfl (by omega) e1, ?_, fun _ => False, Only.refl _ _, fun y hy => hy.elim⟩
   rw [yIB (fun e => by omega), yDM (fun e => by omega)]
   exact ⟨hz.same s1 (Nat.le_refl _), s1.rw hz2, hm1, Nat.le_trans hz4 s1.next⟩
  obtain ⟨k, hkx⟩ : ∃ k : Nat, x = (k : Int) := ⟨x.toNat, by omega⟩
  have hk : k < m := by omega
  have hrk : zL rs s = (k : Int) := by rw [gx, hkx]
  obtain ⟨bq, s2, cq, nq, hbq, rowq⟩ := yKB (σ := z1)
  obtain ⟨X2, hX2⟩ : ∃ X2 : Nat → Prop, X2 = fun x => X x ∨ x = z.next ∨ x = bq := ⟨_, rfl⟩
  have nz1 := s1.next
  have J2 : J σ (wkc w.days p l c q m d w.rest w.run w.hours) (.slice (some a) l rc) (.slice t l tc) X2 (stF w (zL rs) (zL ts) m D s) (zEZ w (zL rs) (zL ts) D ++ zGX w (zL rs) (zL ts) D s) s2 := by
   refine (J1.le nq.le (J1.new.trans nq)).mono ?_
   rw [hX2]
   rintro b _ _ (g | g | g)
   ·exact .inl g
   ·exact .inr (by omega)
   ·exact .inr (by omega)
  have ha2z : a2 < τ.next := r2.lt
  have hz12 : z.next < s2.next := by have := nq.le.next; have := rB.lt; have e : z.re.next < z1.next := this; have : z.next < z1.next := e; omega
  have hXlt : ∀ x, X2 x → x < s2.next := by
   rw [hX2, hX]
   rintro x ((g | g | g | g | g) | g | g)
   ·omega
   ·omega
   ·omega
   ·omega
   ·have := (hms _ g).2.2; omega
   ·omega
   ·have := rowq.lt; rw [g]; exact this
  have hX23 : ¬ X2 (σ.next + 3) := by
   rw [hX2]; rintro (g | g | g)
   ·exact hX3 g
   ·omega
   ·have := J1.nw.lt; omega
  have hX24 : ¬ X2 (σ.next + 4) := by
   rw [hX2]; rintro (g | g | g)
   ·exact hX4 g
   ·omega
   ·have := J1.nw.lt; omega
  have hXB : X2 z.re.next := by rw [hX2]; exact .inr (.inl rfl)
  have hXq : X2 bq := by rw [hX2]; exact .inr (.inr rfl)
  have hfk : stF w (zL rs) (zL ts) m D s k = wG w (zL rs) (zL ts) k D s := by unfold stF; rw [if_pos hk]
  have hDl : D * l ≤ 6 * 12 := Nat.mul_le_mul hD hl12
  have hso : StOk (stF w (zL rs) (zL ts) m D s k) := by rw [hfk]; exact (standI_b hs hn hts hk (by omega)).ok (by omega)
  have hdt := hs.duty s hsl
  have hdo : DtOk (dty w s) := ⟨⟨hdt.1, hdt.2.1⟩, ⟨hdt.2.2.1, hdt.2.2.2.1⟩⟩
  have hAs := hA s (by omega)
  have ask := ask_loop (lo := lo) (c := c) (d := d) h hsh hm6 hk hsl hso hdo (by omega) J2 (rB.le nq.le) rowq hXB hXq hX23 hXlt
  have hu := hts s hsl
  have rd : zMH Tryz.prog lo [iV (s : Int), zDK (dty w s)] z (Fm 92 (ov (zCO σ.next (σ.next + 1) (σ.next + 2) (σ.next + 3) (σ.next + 4) wd i19 91 [.pointer (some ⟨a1, 0, none⟩), .pointer (some ⟨a2, 0, none⟩)]) g0)) [25, 26] zDE zBX db
    [⟨Unit, .normal, fun _ => [], fun _ => [], fun _ z4 => J σ (wkc w.days p l c q m d w.rest w.run w.hours) (.slice (some a) l rc) (.slice t l tc) X2 (stF w (zL rs) (zL ts) m D (s + 1)) (zEZ w (zL rs) (zL ts) D ++ zGX w (zL rs) (zL ts) D (s + 1)) z4 ∧ Only (fun x => ¬ X2 x) s2 z4⟩] := by
   refine yTG hlp hl1 hz1 l26 (hkx ▸ lx) cq ask ?_ (by omega) (by omega)
   rintro z3 ⟨J3, O3⟩
   refine yXD ht (by omega) hsl hso hdo (by omega) J3 (O3.rw' (rB.le nq.le) (fun hh => hh hXB)) hX24 ?_
   intro z4 J4 O4
   rw [stF_take hk hd hrk, dayB_take (m := m) hk hd hrk, ← List.append_assoc]
   exact ⟨J4, O3.trans' O4 (fun b _ hb => .inl hb)⟩
  obtain ⟨z4, ⟨J4, O4⟩, rd4⟩ := yOH rd
  refine ⟨z4, rd4, ⟨J4.dn.mono (fun b _ _ hb => by rw [hX2]; exact .inl hb), ?_, ?_, ?_⟩, fun y => σ.next ≤ y ∧ y ≠ τ.next ∧ y ≠ τ.next + 1, (nq.only).trans' (O4.mono (T := fun y => σ.next ≤ y ∧ y ≠ τ.next ∧ y ≠ τ.next + 1) ?_) (fun b _ hb => .inl hb), fun y hy => hy⟩
  ·refine O4.rw' ((s1.rw hz2).le nq.le) (fun hh => hh ?_)
   rw [hX2, hX]; exact .inl (.inr (.inl rfl))
  ·intro y hy
   have hys : y < s2.next := hXlt y (by rw [hX2, hX]; exact .inl (.inr (.inr (.inr (.inr hy)))))
   rw [O4.get y hys (fun hh => hh (by rw [hX2, hX]; exact .inl (.inr (.inr (.inr (.inr hy)))))), nq.le.get y (by have := (hms y hy).2.2; omega)]
   exact hm1 y hy
  ·have := O4.next; have := nq.le.next; omega
  ·intro b _ hb
   rw [hX2, hX] at hb
   refine ⟨?_, ?_, ?_⟩
   ·rcases Nat.lt_or_ge b σ.next with g | g
    ·exact absurd (.inl (.inl g)) hb
    ·exact g
   ·intro e; exact hb (.inl (.inr (.inr (.inl e))))
   ·intro e; exact hb (.inl (.inr (.inr (.inr (.inl e)))))
 ·rintro z ⟨hz, _, hz3, _⟩ h1 h2 h3
  refine hQ z ?_ (fun y hy => by rcases List.mem_cons.1 hy with e | e; exact e ▸ h1; exact hz3 y e) h2 (h3 σ.next (Nat.le_refl _) ?_)
  ·have e : zEZ w (zL rs) (zL ts) (D + 1) = zEZ w (zL rs) (zL ts) D ++ zGX w (zL rs) (zL ts) D l := by rw [outB_s, hn]
   rw [e, stF_next, hn]
   refine hz.mono (fun b _ _ h => ?_)
   rw [hX]
   rcases List.mem_cons.1 h with e | e
   ·exact .inr (.inr (.inl e))
   ·exact .inr (.inr (.inr (.inr e)))
  ·have := hJ.new.low σ.next (Nat.le_refl _) (Nat.le_refl _)
   exact this
end
end Go.Proofs.YtgfiniccfpfplaaGreat
