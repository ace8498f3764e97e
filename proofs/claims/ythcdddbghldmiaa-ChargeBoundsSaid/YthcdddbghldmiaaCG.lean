
import Derived.Test.YthcdddbghldmiaaCF
namespace Go.Proofs.Ythcdddbghldmiaa
open Go Go.Lay
open Try renaming prog → Pg
set_option linter.unusedVariables false
set_option linter.unusedSimpArgs false
set_option maxRecDepth 20000
structure WkAt (σ : St) (w : Nat) (g : Gar) (W : Wk) (p : Option Addr) (c : Nat) (q : Option Addr) (d : Nat) (pp : Option Addr) (cp : Nat) (B : Nat → Nat) : Prop where
 own : Own σ w (.slice p g.ns c :: .slice q g.nb d :: .slice pp g.nb cp :: vecL 12 W.used) 15
 gar : GarP σ p g.ns q g.nb g
 pl : SlV Pg σ 59 1 pp g.nb ((List.range g.nb).map fun i => .slice (some ⟨B i, 0, none⟩) g.ns g.ns)
 row : ∀ i, i < g.nb → Own σ (B i) (vecL g.ns (cell W.plan i)) 1
 inj : ∀ i j, i < g.nb → j < g.nb → B i = B j → i = j
 ne : ∀ i, i < g.nb → B i ≠ w
 fp : ∀ b, AtP p b ∨ AtP q b ∨ AtP pp b → b ≠ w ∧ ∀ i, i < g.nb → b ≠ B i
section
variable {σ τ : St} {w : Nat} {g : Gar} {W : Wk} {p q pp : Option Addr} {c d cp : Nat} {B : Nat → Nat}
theorem WkAt.le (h : WkAt σ w g W p c q d pp cp B) (k : Le σ τ) : WkAt τ w g W p c q d pp cp B :=
 ⟨h.own.le k, h.gar.le k, h.pl.le k, fun i hi => (h.row i hi).le k, h.inj, h.ne, h.fp⟩
theorem WkAt.low (h : WkAt σ w g W p c q d pp cp B) {m : Nat} : WkAt ⟨σ.heap, σ.next, m⟩ w g W p c q d pp cp B := h.le ⟨Nat.le_refl _, fun _ _ => rfl⟩
theorem WkAt.prow (h : WkAt σ w g W p c q d pp cp B) {i : Nat} (hi : i < g.nb) : ∃ a, pp = some a ∧ loadA Pg σ 59 (aadd a (Int.toNat (i : Int) * 1)) = some (.slice (some ⟨B i, 0, none⟩) g.ns g.ns) := by
 obtain ⟨a, e, _⟩ := h.pl.some (i := i) hi
 exact ⟨a, e, h.pl.at e (by simp [hi])⟩
theorem WkAt.amount (h : WkAt σ w g W p c q d pp cp B) {i s : Nat} (hi : i < g.nb) (hs : s < g.ns) : loadA Pg σ 3 (aadd ⟨B i, 0, none⟩ (Int.toNat (s : Int) * 1)) = some (iV (cell W.plan i s)) := (h.row i hi).ldI agg3 (vecL_get hs)
theorem WkAt.plan (h : WkAt σ w g W p c q d pp cp B) : loadA Pg σ 28 (aadd ⟨w, 0, none⟩ 2) = some (.slice pp g.nb cp) := h.own.rw.load1 agg28 (k := 2) rfl
theorem WkAt.slots (h : WkAt σ w g W p c q d pp cp B) : loadA Pg σ 32 ⟨w, 0, none⟩ = some (.slice p g.ns c) := by simpa [aadd] using h.own.rw.load1 (P := Pg) (t := 32) agg32 (k := 0) rfl
theorem WkAt.buses (h : WkAt σ w g W p c q d pp cp B) : loadA Pg σ 33 (aadd ⟨w, 0, none⟩ 1) = some (.slice q g.nb d) := h.own.rw.load1 agg33 (k := 1) rfl
theorem WkAt.garage (h : WkAt σ w g W p c q d pp cp B) : loadA Pg σ 35 ⟨w, 0, none⟩ = some (.agg ⟨garL p g.ns c q g.nb d⟩) := by
 simpa [aadd] using h.own.rw.loadN (P := Pg) (t := 35) agg35 size35 (k := 0) (ds := garL p g.ns c q g.nb d) rfl rfl (by simp [vecL_len])
theorem WkAt.usedAt (h : WkAt σ w g W p c q d pp cp B) {s : Nat} (hs : s < 12) : loadA Pg σ 3 (aadd (aadd ⟨w, 0, none⟩ 3) (Int.toNat (s : Int) * 1)) = some (iV (W.used s)) := by
 have := h.own.rw.load1 (P := Pg) (t := 3) agg3 (k := 3 + s) (v := iV (W.used s)) (by
  rw [show 3 + s = s + 3 by omega]
  simp only [List.getElem?_cons_succ]
  exact vecL_get hs)
 have e : aadd (aadd ⟨w, 0, none⟩ 3) (Int.toNat (s : Int) * 1) = aadd ⟨w, 0, none⟩ (3 + s) := by simp [aadd]
 rw [e]; exact this
structure WJ (σ τ : St) (w b : Nat) (vs : List Wy) (ms : List Nat) : Prop where
 new : New σ τ
 ow : Own τ b [.pointer (some ⟨w, 0, none⟩)] 1
 oc : Own τ (b + 2) [.func (.func 95) ⟨[]⟩ ⟨[.pointer (some ⟨b + 1, 0, none⟩)]⟩] 1
 out : ∃ po lo co, Own τ (b + 1) [.slice po lo co] 1 ∧ Gr Pg τ (b + 3) 143 6 po lo co (vs.map wyV)
 marks : ∀ m ∈ ms, getB τ.heap m = some .defd ∧ m < τ.next
 nodup : ms.Nodup
 ge : σ.next ≤ b ∧ ∀ m ∈ ms, σ.next ≤ m
theorem WJ.le {σ τ τ' : St} {w b : Nat} {vs : List Wy} {ms : List Nat} (h : WJ σ τ w b vs ms) (k : New τ τ') : WJ σ τ' w b vs ms := by
 obtain ⟨po, lo, co, h1, h2⟩ := h.out
 exact ⟨h.new.trans k, h.ow.le k.le, h.oc.le k.le, ⟨po, lo, co, h1.le k.le, h2.le k.le⟩, fun m hm => ⟨by rw [k.le.get _ (h.marks m hm).2]; exact (h.marks m hm).1, Nat.lt_of_lt_of_le (h.marks m hm).2 k.nx⟩, h.nodup, h.ge⟩
theorem gr_not_defd {σ : St} {n0 t n len c m : Nat} {po : Option Addr} {vs : List Value} (h : Gr Pg σ n0 t n po len c vs) (hm : getB σ.heap m = some .defd) : ¬ AtP po m := by
 rintro ⟨a, e, rfl⟩
 subst e
 have h1 := h.app
 generalize flat vs = cs at h1
 cases h1 with
 | more k1 => rw [hm] at k1; cases k1
theorem WJ.add {σ τ : St} {w b : Nat} {vs : List Wy} {ms : List Nat} (h : WJ σ τ w b vs ms) (x : Wy) (hn : vs.length ≤ 100000) : ∃ τ', CallsA Pg 95 [wyV x, .pointer (some ⟨b + 1, 0, none⟩)] τ (.tuple ⟨[]⟩) τ' ∧ WJ σ τ' w b (vs ++ posW [x]) ms ∧
  (∀ y, y < τ.next → y ≠ b + 1 → (∀ cs n log nx ro, getB τ.heap y ≠ some (.cells cs n log nx ro)) ∨ y < b + 3 → getB τ'.heap y = getB τ.heap y) ∧ τ.next ≤ τ'.next ∧ (∀ y n cs, y < τ.next → y ≠ b + 1 → Own τ y cs n → n ≠ 6 → Own τ' y cs n) ∧ b + 1 < τ.next := by
 obtain ⟨po, lo, co, h1, h2⟩ := h.out
 have hlen : vs.length = lo := by have := h2.len_eq; simpa using this
 obtain ⟨τ', po', lo', co', k1, k2, k3, k4⟩ := add_c (x := x) h1 h2 (by omega) (by have := h.oc.lt; omega) (by omega)
 have hge := h.ge.1
 have hAt : ∀ y, AtP po y → b + 3 ≤ y := fun y hy => (h2.bd hy).1
 have hcells : ∀ y, AtP po y → ∃ cs log nx ro, getB τ.heap y = some (.cells cs 6 log nx ro) := by
  rintro y ⟨a, e, rfl⟩
  subst e
  have h3 := h2.app
  generalize flat (vs.map wyV) = cs at h3
  cases h3 with
  | more k1 => exact ⟨_, _, _, _, k1⟩
 have hnot : ∀ m ∈ ms, ¬ (m = b + 1 ∨ AtP po m) := fun m hm hS => by
  have hd := (h.marks m hm).1
  rcases hS with rfl | hS
  ·rw [h1.get] at hd; cases hd
  ·exact gr_not_defd h2 hd hS
 refine ⟨τ', k1, ⟨h.new.of_only k2 (fun y hy => by rcases hy with rfl | hy; omega; have := hAt y hy; omega), k2.own' h.ow (fun hy => by rcases hy with hy | hy; omega; have := hAt _ hy; omega), k2.own' h.oc (fun hy => by rcases hy with hy | hy; omega; have := hAt _ hy; omega), ⟨po', lo', co', k3, ?_⟩, fun m hm => ?_, h.nodup, h.ge⟩, fun y hy hne hc => ?_, k2.next, fun y n cs hy hne ho hn6 => ?_, by have := h1.lt; omega⟩
 ·rw [List.map_append]
  have e : (posW [x]).map wyV = if 0 < x.rest then [wyV x] else [] := by
   unfold posW
   by_cases hr : 0 < x.rest <;> simp [hr]
  rw [e]; exact k4
 ·have hb := h.marks m hm
  exact ⟨by rw [k2.get m hb.2 (hnot m hm)]; exact hb.1, Nat.lt_of_lt_of_le hb.2 k2.next⟩
 ·refine k2.get y hy (fun hS => ?_)
  rcases hS with rfl | hS
  ·exact hne rfl
  ·rcases hc with hc | hc
   ·obtain ⟨cs, log, nx, ro, e⟩ := hcells y hS
    exact hc _ _ _ _ _ e
   ·have := hAt y hS; omega
 ·refine k2.own' ho (fun hS => ?_)
  rcases hS with rfl | hS
  ·exact hne rfl
  ·obtain ⟨cs', log, nx, ro, e⟩ := hcells y hS
   rw [ho.get] at e
   cases e; exact hn6 rfl
end
end Go.Proofs.Ythcdddbghldmiaa
