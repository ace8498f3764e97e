
import Derived.Test.YthcdddbghldmiaaCZ
import Derived.Test.YthcdddbghldmiaaLayD
namespace Go.Proofs.Ythcdddbghldmiaa
open Go Go.Lay
open Try renaming prog → Pg
set_option linter.unusedVariables false
set_option linter.unusedSimpArgs false
set_option maxRecDepth 20000
section
variable {σ τ z : St} {g : Gar} {p q pb pl : Option Addr} {c d lb cb ll lc n0 : Nat} {l xs : List Nat}
theorem nil_ne {a : Addr} {l c : Nat} : binA Pg .eql 59 (.tmp 3) (.const (.slice none 0 0)) (.slice (some a) l c) (.slice none 0 0) = some (.bool false) := by
 have e : nilEq Pg 59 (.slice (some a) l c) (.slice none 0 0) = some false := by
  simp only [nilEq, Try.underlying59]
 show binGen Pg .eql 59 _ _ (.slice (some a) l c) (.slice none 0 0) = _
 have e2 : rigidB RD (.slice (some a) l c) = false := rfl
 unfold binGen
 rw [e2, Bool.false_and, cond_false]
 simp only [e, Option.map_some]
theorem clone_c {a : Addr} {ys : List Int} (h : IntsP σ (some a) ll ys) (hl : ll ≤ 1073741824) : ∃ p' c' σ', CallsA Pg 74 [.slice (some a) ll lc] σ (.slice p' ll c') σ' ∧ New σ σ' ∧ IntsP σ' p' ll ys ∧ ∀ b, AtP p' b → σ.next ≤ b := by
 have hc : (flat (ys.map intV)).all cellB = true := by rw [flat_ints ys .i64]; simp [List.all_eq_true]; intro a _; rfl
 have o := own_new σ.re [] 1
 obtain ⟨p', c', σ', h1, h2, h3, h4⟩ := Ap.append (k := lc) (n0 := σ.re.next) appT_ints (.inr ⟨σ.re.next, rfl, rfl, rfl, rfl, o, Nat.le_refl _⟩ : Ap (σ.re.row [] 1) σ.re.next 1 (some ⟨σ.re.next, 0, none⟩) 0 0 []) ((SlV.le h ((le0 σ).trans (Le.row _ [] 1))).1) (by omega) hc (by simp)
 rw [Nat.zero_add] at h1 h2
 rw [List.nil_append] at h2
 refine RunsQ.newSl (clone_rb nil_ne h1 ⟨(New.row _ _ _).of_only h3 ?_, p', c', rfl, h2.slv (by simpa using h.2.1) h.2.2, ?_⟩)
 ·rintro b ⟨a, e, rfl⟩; cases e; exact Nat.le_refl _
 ·intro b hb
  rcases h4 b hb with h5 | h5
  ·obtain ⟨a, e, rfl⟩ := h5; cases e; exact Nat.le_refl _
  ·have : (σ.re.row [] 1).next = σ.next + 1 := rfl
   omega
theorem mut3 {f : FuncId} {args : List Value} {S : Nat → Prop} {Q : St → Prop} (h : RunsQ Pg f args σ.re fun v s => v = .tuple ⟨[]⟩ ∧ Only S σ.re s ∧ (s.low < σ.next ∨ Q σ) ∧ Q s) (hQ : ∀ s m, m ≤ s.low → Q s → Q ⟨s.heap, s.next, m⟩) :
  ∃ σ', CallsA Pg f args σ (.tuple ⟨[]⟩) σ' ∧ Only S σ σ' ∧ σ'.low ≤ σ.low ∧ Q σ' := by
 obtain ⟨v, s, hN, rfl, h1, h2, h3⟩ := h
 by_cases hlow : s.low < σ.next
 ·obtain ⟨N0, hN⟩ := hN
  refine ⟨⟨s.heap, s.next, min σ.low s.low⟩, ⟨N0, fun N hl => ?_⟩, h1.lower (m := 0), Nat.min_le_left _ _, hQ _ _ (Nat.min_le_right _ _) h3⟩
  unfold callA
  rw [show (⟨σ.heap, σ.next, σ.next⟩ : St) = σ.re from rfl, hN N hl]
  show backA σ (.tuple ⟨[]⟩) s = _
  unfold backA
  have e1 : (Nat.ble σ.next s.low && rigidB RD (.tuple ⟨[]⟩)) = false := by
   rw [Bool.and_eq_false_iff]; left
   rw [Bool.eq_false_iff]; intro e; have := (ble_iff _ _).1 e; omega
  have e2 : Nat.ble σ.next s.next = true := (ble_iff _ _).2 h1.next
  rw [e1, cond_false, e2, cond_true, fN_eq, cond_ble]
 ·refine ⟨σ, RunsQ.pure ⟨_, s, hN, rfl, by omega⟩ rfl, Only.refl _ _, Nat.le_refl _, ?_⟩
  rcases h2 with h2 | h2
  ·exact absurd h2 hlow
  ·exact h2
abbrev takeF (n0 : Nat) : Value := .func (.func 72) ⟨[]⟩ ⟨[.pointer (some ⟨n0, 0, none⟩), .pointer (some ⟨n0 + 2, 0, none⟩), .pointer (some ⟨n0 + 1, 0, none⟩), .pointer (some ⟨n0 + 3, 0, none⟩)]⟩
structure TP (z : St) (n0 : Nat) (g : Gar) (p : Option Addr) (c : Nat) (q : Option Addr) (d : Nat) (L : Int) (pb : Option Addr) (lb cb : Nat) (best : List Nat) : Prop where
 gr : GarP z p g.ns q g.nb g
 o0 : Own z n0 (garL p g.ns c q g.nb d) 2
 o1 : Own z (n0 + 1) [.slice pb lb cb] 1
 o2 : Own z (n0 + 2) [iV L] 1
 o3 : Own z (n0 + 3) [takeF n0] 1
 ib : IntsP z pb lb (natI best)
 rb : RiseN g.nb 0 best
 lk : lackL g best = L
 hb : ∀ b, AtP pb b → n0 + 4 ≤ b
theorem TP.le {z' : St} {L : Int} {best : List Nat} (h : TP z n0 g p c q d L pb lb cb best) (k : Le z z') : TP z' n0 g p c q d L pb lb cb best :=
 ⟨h.gr.le k, h.o0.le k, h.o1.le k, h.o2.le k, h.o3.le k, SlV.le h.ib k, h.rb, h.lk, h.hb⟩
theorem TP.only {S : Nat → Prop} {z' : St} {L : Int} {best : List Nat} (h : TP z n0 g p c q d L pb lb cb best) (hp : ∀ a, p = some a → a.block < n0) (hq : ∀ a, q = some a → a.block < n0) (k : Only S z z') (hS : ∀ b, S b → n0 + 4 ≤ b) (hd : ∀ b, AtP pb b → ¬ S b) : TP z' n0 g p c q d L pb lb cb best :=
 ⟨⟨k.slv' h.gr.sl (fun a e hs => by have := hS _ hs; have := hp a e; omega), k.slv' h.gr.bu (fun a e hs => by have := hS _ hs; have := hq a e; omega)⟩, k.own' h.o0 (fun hs => by have := hS _ hs; omega), k.own' h.o1 (fun hs => by have := hS _ hs; omega), k.own' h.o2 (fun hs => by have := hS _ hs; omega), k.own' h.o3 (fun hs => by have := hS _ hs; omega),
  k.slv' h.ib (fun a e hs => hd a.block ⟨a, e, rfl⟩ hs), h.rb, h.lk, h.hb⟩
def TakeQ (n0 : Nat) (g : Gar) (p : Option Addr) (c : Nat) (q : Option Addr) (d : Nat) (L : Int) (pb : Option Addr) (lb cb : Nat) (best : List Nat) (pl : Option Addr) (ll lc : Nat) (xs : List Nat) (sf : List (Nat × Nat)) (nx : Nat) (A : Int → Prop) (s : St) : Prop :=
 ∃ L' pb' lb' cb' best', TP s n0 g p c q d L' pb' lb' cb' best' ∧ Stk s (n0 + 4) pl ll lc ((natI xs).map intV) sf ∧ (∀ b, AtP pb' b → ¬ AtP pl b) ∧ (∀ b, AtP pb' b → AtP pb b ∨ nx ≤ b) ∧ L ≤ L' ∧ A L' ∧ (s.low ≤ n0 + 2 ∨ (L' = L ∧ pb' = pb ∧ lb' = lb ∧ cb' = cb ∧ best' = best))
theorem TakeQ.low {L : Int} {best : List Nat} {sf : List (Nat × Nat)} {nx m : Nat} {A : Int → Prop} {s : St} (hm : m ≤ s.low) (h : TakeQ n0 g p c q d L pb lb cb best pl ll lc xs sf nx A s) : TakeQ n0 g p c q d L pb lb cb best pl ll lc xs sf nx A ⟨s.heap, s.next, m⟩ := by
 obtain ⟨L', pb', lb', cb', best', h1, h2, h3, h4, h5, h6, h7⟩ := h
 have k : Le s ⟨s.heap, s.next, m⟩ := ⟨Nat.le_refl _, fun _ _ => rfl⟩
 exact ⟨L', pb', lb', cb', best', h1.le k, h2.le k, h3, h4, h5, h6, h7.imp (fun h => Nat.le_trans hm h) id⟩
theorem takes (hv : Valid g) (hp : ∀ a, p = some a → a.block < n0) (hq : ∀ a, q = some a → a.block < n0) : ∀ (k from_ : Nat), from_ + k = g.nb → ∀ (z : St) (pl : Option Addr) (ll lc : Nat) (sf : List (Nat × Nat)) (xs : List Nat) (L : Int) (pb : Option Addr) (lb cb : Nat) (best : List Nat),
  TP z n0 g p c q d L pb lb cb best → Stk z (n0 + 4) pl ll lc ((natI xs).map intV) sf → RiseN g.nb 0 xs → (∀ j ∈ xs, j < from_) → (∀ b, AtP pb b → ¬ AtP pl b) →
  ∃ z', CallsA Pg 72 [.slice pl ll lc, iV (from_ : Int), .pointer (some ⟨n0, 0, none⟩), .pointer (some ⟨n0 + 2, 0, none⟩), .pointer (some ⟨n0 + 1, 0, none⟩), .pointer (some ⟨n0 + 3, 0, none⟩)] z (.tuple ⟨[]⟩) z' ∧
   Only (fun b => b = n0 + 1 ∨ b = n0 + 2 ∨ AtP pl b) z z' ∧ z'.low ≤ z.low ∧ TakeQ n0 g p c q d L pb lb cb best pl ll lc xs sf z.next (fun L' => ∀ m, RiseN g.nb from_ m → lackL g (xs ++ m) ≤ L') z' := by
 intro k
 induction k using Nat.strongRecOn with
 | ind k ih =>
 intro from_ hk z pl ll lc sf xs L pb lb cb best hT hS hx hlt hD
 have hns := hv.ns; have hnb := hv.nb
 have hll : ll ≤ 5 := by have h1 := hS.leq; have h2 := hx.len; simp at h1; omega
 have b3 := hT.o3.lt
 have hel : ∀ v ∈ (natI xs).map intV, elOk Pg 3 1 v ∧ v.cells.toList = [v] := by
  intro v hv
  obtain ⟨x, _, rfl⟩ := List.mem_map.1 hv
  exact ⟨elOk_int x, rfl⟩
 refine mut3 ?_ (fun s m hm h => TakeQ.low hm h)
 have loop : ∀ (y0 : St) (L1 : Int) (pb1 : Option Addr) (lb1 cb1 : Nat) (best1 : List Nat), Only (fun b => b = n0 + 1 ∨ b = n0 + 2 ∨ AtP pl b) z.re y0 → TP y0 n0 g p c q d L1 pb1 lb1 cb1 best1 → Stk y0 (n0 + 4) pl ll lc ((natI xs).map intV) sf → (∀ b, AtP pb1 b → ¬ AtP pl b) → (∀ b, AtP pb1 b → AtP pb b ∨ z.next ≤ b) → L ≤ L1 → lackL g xs ≤ L1 →
   (y0.low ≤ n0 + 2 ∨ (L1 = L ∧ pb1 = pb ∧ lb1 = lb ∧ cb1 = cb ∧ best1 = best)) →
   Lack1_L1 pl ll lc ⟨n0, 0, none⟩ ⟨n0 + 3, 0, none⟩ (from_ : Int) y0 (fun s => Only (fun b => b = n0 + 1 ∨ b = n0 + 2 ∨ AtP pl b) z.re s ∧ TakeQ n0 g p c q d L pb lb cb best pl ll lc xs sf z.next (fun L' => ∀ m, RiseN g.nb from_ m → lackL g (xs ++ m) ≤ L') s) := by
  intro y0 L1 pb1 lb1 cb1 best1 a1 a2 a3 a4 a5 a6 a7 a8
  refine Lack1_loop1 (Inv := fun k' i y => ∃ (j : Nat) (L1 : Int) (pb1 : Option Addr) (lb1 cb1 : Nat) (best1 : List Nat), i = j ∧ j + k' = g.nb ∧ from_ ≤ j ∧ Only (fun b => b = n0 + 1 ∨ b = n0 + 2 ∨ AtP pl b) z.re y ∧ TP y n0 g p c q d L1 pb1 lb1 cb1 best1 ∧ Stk y (n0 + 4) pl ll lc ((natI xs).map intV) sf ∧ (∀ b, AtP pb1 b → ¬ AtP pl b) ∧ (∀ b, AtP pb1 b → AtP pb b ∨ z.next ≤ b) ∧ L ≤ L1 ∧ lackL g xs ≤ L1 ∧
   (y.low ≤ n0 + 2 ∨ (L1 = L ∧ pb1 = pb ∧ lb1 = lb ∧ cb1 = cb ∧ best1 = best)) ∧ ∀ i' m, from_ ≤ i' → i' < j → RiseN g.nb (i' + 1) m → lackL g (xs ++ i' :: m) ≤ L1) ?_ k _ _ ⟨from_, L1, pb1, lb1, cb1, best1, rfl, hk, Nat.le_refl _, a1, a2, a3, a4, a5, a6, a7, a8, fun i' m h1 h2 => by omega⟩
  rintro k' i y ⟨j, L1, pb1, lb1, cb1, best1, rfl, hk', hfj, a1, a2, a3, a4, a5, a6, a7, a8, a9⟩
  by_cases hj : j < g.nb
  rotate_left
  ·have : j = g.nb := by omega
   subst this
   refine Lack1_s1b (a2.o0.ld rfl agg33 (k := 1) rfl) ⟨a1, L1, pb1, lb1, cb1, best1, a2, a3, a4, a5, a6, ?_, a8⟩
   intro m hm
   cases m with
   | nil => rw [List.append_nil]; exact a7
   | cons i' m => exact a9 i' m hm.1 hm.2.1 hm.2.2
  have y3 := a2.o3.lt
  have yn := a1.next
  obtain ⟨p', c', sf', y2, g1, g2, g3, g4, g5, g6⟩ := a3.push (v := intV (j : Int)) appT_ints rfl (by omega) (by omega)
  have y2n := g4.next
  have hAt : ∀ b, AtP pl b → n0 + 4 ≤ b ∧ b < y.next := fun b hb => a3.bd b hb
  have hxs : ∀ x ∈ xs, x < j := fun x hx => Nat.lt_of_lt_of_le (hlt x hx) hfj
  have t2 : TP y2 n0 g p c q d L1 pb1 lb1 cb1 best1 := a2.only hp hq g4 (fun b hb => (hAt b hb).1) a4
  have e1 : (natI xs).map intV ++ [intV (j : Int)] = (natI (xs ++ [j])).map intV := by simp
  rw [e1] at g2
  have hbl : ∀ b, AtP pb1 b → b < y.next := fun b ⟨a, e, h⟩ => by rw [← h]; exact slv_lt a2.ib a e
  obtain ⟨y4, c1, c2, c3, L', pb', lb', cb', best', f1, f2, f3, f4, f5, f6, f7⟩ := ih (k' - 1) (by omega) (j + 1) (by omega) y2 p' (ll + 1) c' sf' (xs ++ [j]) L1 pb1 lb1 cb1 best1 t2 g2 (hx.snoc hxs (by omega) hj) (fun x hx => by
   rcases List.mem_append.1 hx with h | h
   ·have := hxs x h; omega
   ·simp at h; omega) (fun b hb h => by
   rcases g6 b h with h1 | h1
   ·exact a4 b hb h1
   ·have := hbl b hb; omega)
  rw [show ((j + 1 : Nat) : Int) = (j : Int) + 1 by omega] at c1
  have s4 : Stk y4 (n0 + 4) pl ll lc ((natI xs).map intV) sf := Kid.pop (by rw [← e1]; exact g3) f2
  have p'b : ∀ b, AtP p' b → b < y2.next := fun b hb => (g2.bd b hb).2
  have rl : Le y (y.row [iV (j : Int)] 1) := Le.row _ _ _
  have o3 := a2.o3
  have o3r := a2.o3.le rl
  have o32 := t2.o3
  have o3rl := o3r.lt
  have o32l := o32.lt
  have ldr : ∀ {x : St}, Own x (n0 + 3) [takeF n0] 1 → loadA Pg x 132 ⟨n0 + 3, 0, none⟩ = some (takeF n0) := fun h => h.ld rfl agg132 (k := 0) rfl
  refine Lack1_s1a (a2.o0.ld rfl agg33 (k := 1) rfl) (ldr o3) g1 c1 ?_ ⟨⟨y3, rfl⟩, ldr o3⟩ ⟨⟨o3rl, rfl⟩, ldr o3r⟩ ⟨⟨o32l, rfl⟩, ldr o32⟩ (fun a e => (hAt _ ⟨a, e, rfl⟩).2) ⟨k' - 1, by omega, j + 1, L', pb', lb', cb', best', by omega, by omega, by omega, ?_, f1, s4, ?_, ?_, by omega, by omega, ?_, ?_⟩
  ·refine belowL_cons ?_ (belowL_cons (belowB_sl (fun a e => p'b _ ⟨a, e, rfl⟩)) (belowL_cons (belowB_rig rfl) belowL_nil))
   have e : ∀ m, n0 + 3 < m → belowB RD m (takeF n0) = true := fun m hm => by
    show ((true && true) && (Nat.blt n0 m && (Nat.blt (n0 + 2) m && (Nat.blt (n0 + 1) m && (Nat.blt (n0 + 3) m && true))))) = true
    rw [(blt_iff _ _).2 (show n0 < m by omega), (blt_iff _ _).2 (show n0 + 2 < m by omega), (blt_iff _ _).2 (show n0 + 1 < m by omega), (blt_iff _ _).2 hm]; rfl
   exact e _ o32l
  ·refine (a1.trans' g4 (fun b _ h => .inl (.inr (.inr h)))).trans' c2 (fun b hb h => ?_)
   rcases h with h | h | h
   ·exact .inl (.inl h)
   ·exact .inl (.inr (.inl h))
   ·rcases g6 b h with h1 | h1
    ·exact .inl (.inr (.inr h1))
    ·exact .inr (by have : z.re.next = z.next := rfl; omega)
  ·intro b hb h
   rcases f4 b hb with h1 | h1
   ·exact a4 b h1 h
   ·have := (hAt b h).2; omega
  ·intro b hb
   rcases f4 b hb with h1 | h1
   ·exact a5 b h1
   ·exact .inr (by have : z.re.next = z.next := rfl; omega)
  ·rcases f7 with h | ⟨rfl, rfl, rfl, rfl, rfl⟩
   ·exact .inl h
   ·rcases a8 with h | h
    ·exact .inl (by omega)
    ·exact .inr h
  ·intro i' m h1 h2 h3
   by_cases e : i' = j
   ·subst e
    have := f6 m h3
    rw [List.append_assoc] at this
    exact this
   ·have := a9 i' m h1 (by omega) h3; omega
 have fin : ∀ s, (Only (fun b => b = n0 + 1 ∨ b = n0 + 2 ∨ AtP pl b) z.re s ∧ TakeQ n0 g p c q d L pb lb cb best pl ll lc xs sf z.next (fun L' => ∀ m, RiseN g.nb from_ m → lackL g (xs ++ m) ≤ L') s) → Lack1_K1_0 pl ll lc ⟨n0, 0, none⟩ ⟨n0 + 3, 0, none⟩ s
   (fun v s => v = .tuple ⟨[]⟩ ∧ Only (fun b => b = n0 + 1 ∨ b = n0 + 2 ∨ AtP pl b) z.re s ∧ (s.low < z.next ∨ TakeQ n0 g p c q d L pb lb cb best pl ll lc xs sf z.next (fun L' => ∀ m, RiseN g.nb from_ m → lackL g (xs ++ m) ≤ L') z) ∧ TakeQ n0 g p c q d L pb lb cb best pl ll lc xs sf z.next (fun L' => ∀ m, RiseN g.nb from_ m → lackL g (xs ++ m) ≤ L') s) := by
  rintro s ⟨h1, h2⟩
  refine Lack1_t1x0a ⟨rfl, h1, ?_, h2⟩
  obtain ⟨L', pb', lb', cb', best', f1, f2, f3, f4, f5, f6, f7⟩ := h2
  rcases f7 with h | ⟨rfl, rfl, rfl, rfl, rfl⟩
  ·exact .inl (by omega)
  ·exact .inr ⟨_, _, _, _, _, hT, hS, hD, fun b hb => .inl hb, Int.le_refl _, f6, .inr ⟨rfl, rfl, rfl, rfl, rfl⟩⟩
 have hle := le0 z
 have hT' := hT.le hle
 have hS' := hS.le hle
 have hi : IntsP z.re pl ll (natI xs) := hS'.slv hel
 have ck := lack_c (c := c) (d := d) (cb := lc) hT'.gr hv hi hx
 by_cases hlk : L < lackL g xs
 rotate_left
 ·exact Lack1_rb (hT'.o0.ldN agg35 size35 (k := 0) rfl rfl (by simp)) ck (hT'.o2.ld rfl agg3 (k := 0) rfl) (loop z.re L pb lb cb best (Only.refl _ _) hT' hS' hD (fun b hb => .inl hb) (Int.le_refl _) (by omega) (.inr ⟨rfl, rfl, rfl, rfl, rfl⟩)) fin
 have hL0 : 0 ≤ L := by rw [← hT.lk]; exact lackL_nn
 obtain ⟨a, rfl⟩ : ∃ a, pl = some a := by
  rcases hS with ⟨_, _, _, hnil, _⟩ | ⟨b, s, bc, pre, r, nx, h, _⟩
  ·have : xs = [] := by simpa using hnil
   subst this
   rw [lackL_zero hv] at hlk; omega
  ·exact ⟨_, h⟩
 obtain ⟨q5, c5, y6, k1, k2, k3, k4⟩ := clone_c (lc := lc) hi (by omega)
 have tT := hT'.le k2.le
 have tS := hS'.le k2.le
 have n6 := k2.le.next
 have zr : z.re.next = z.next := rfl
 have oA : Only (· = n0 + 1) y6 (y6.own (n0 + 1) [.slice q5 ll c5] 1) := Only.own (.inr rfl)
 have oB : Only (· = n0 + 2) (y6.own (n0 + 1) [.slice q5 ll c5] 1) ((y6.own (n0 + 1) [.slice q5 ll c5] 1).own (n0 + 2) [iV (lackL g xs)] 1) := Only.own (.inr rfl)
 have w1 := tT.o1.put (ds := [.slice q5 ll c5])
 have w2 := oA.own' tT.o2 (by omega)
 have hq5 : ∀ b, AtP q5 b → z.next ≤ b := fun b hb => k4 b hb
 have hpl : ∀ b, AtP (some a) b → n0 + 4 ≤ b ∧ b < z.next := fun b hb => hS.bd b hb
 refine Lack1_ra (hT'.o0.ldN agg35 size35 (k := 0) rfl rfl (by simp)) ck (hT'.o2.ld rfl agg3 (k := 0) rfl) k1 (ST tT.o1) (ST w2) (loop _ (lackL g xs) q5 ll c5 xs ?_ ⟨⟨?_, ?_⟩, ?_, ?_, ?_, ?_, ?_, hx, rfl, ?_⟩ ?_ ?_ ?_ ?_ (Int.le_refl _) (.inl ?_)) fin
 ·exact ((k2.only).trans' oA (fun b _ h => .inl (.inl h))).trans' oB (fun b _ h => .inl (.inr (.inl h)))
 ·exact oB.slv' (oA.slv' tT.gr.sl (fun a e h => by have := hp a e; omega)) (fun a e h => by have := hp a e; omega)
 ·exact oB.slv' (oA.slv' tT.gr.bu (fun a e h => by have := hq a e; omega)) (fun a e h => by have := hq a e; omega)
 ·exact oB.own' (oA.own' tT.o0 (by omega)) (by omega)
 ·exact oB.own' w1 (by omega)
 ·exact w2.put
 ·exact oB.own' (oA.own' tT.o3 (by omega)) (by omega)
 ·exact oB.slv' (oA.slv' k3 (fun a e h => by have := hq5 _ ⟨a, e, rfl⟩; omega)) (fun a e h => by have := hq5 _ ⟨a, e, rfl⟩; omega)
 ·intro b hb; have := hq5 b hb; omega
 ·exact (tS.only oA (fun b hb h => by have := (hpl b hb).1; omega)).only oB (fun b hb h => by have := (hpl b hb).1; omega)
 ·intro b hb h; have := hq5 b hb; have := (hpl b h).2; omega
 ·intro b hb; exact .inr (hq5 b hb)
 ·omega
 ·show min (min y6.low (n0 + 1)) (n0 + 2) ≤ n0 + 2; omega
theorem Lack_c (hg : GarP σ p g.ns q g.nb g) : ∃ pl ll cl n e σ', CallsA Pg 45 [.agg ⟨garL p g.ns c q g.nb d⟩] σ (.tuple ⟨[.slice pl ll cl, iV n, iV e]⟩) σ' ∧ New σ σ' ∧
  ((checkZ g ≠ 0 ∧ pl = none ∧ ll = 0 ∧ n = 0 ∧ e = checkZ g) ∨ (Valid g ∧ IsMost g 0 ∧ pl = none ∧ ll = 0 ∧ n = 0 ∧ e = 7) ∨ (Valid g ∧ IsMost g n ∧ 0 < n ∧ e = 0 ∧ ∃ l, RiseN g.nb 0 l ∧ lackL g l = n ∧ IntsP σ' pl ll (natI l))) := by
 suffices key : RunsQ Pg 45 [.agg ⟨garL p g.ns c q g.nb d⟩] σ.re fun v s => New σ.re s ∧ ∃ pl ll cl n e, v = .tuple ⟨[.slice pl ll cl, iV n, iV e]⟩ ∧ ((checkZ g ≠ 0 ∧ pl = none ∧ ll = 0 ∧ n = 0 ∧ e = checkZ g) ∨ (Valid g ∧ IsMost g 0 ∧ pl = none ∧ ll = 0 ∧ n = 0 ∧ e = 7) ∨ (Valid g ∧ IsMost g n ∧ 0 < n ∧ e = 0 ∧ ∃ l, RiseN g.nb 0 l ∧ lackL g l = n ∧ IntsP s pl ll (natI l))) by
  obtain ⟨v, s, h1, h2, pl, ll, cl, n, e, rfl, h3⟩ := RunsQ.new (Q := fun v s => ∃ pl ll cl n e, v = .tuple ⟨[.slice pl ll cl, iV n, iV e]⟩ ∧ ((checkZ g ≠ 0 ∧ pl = none ∧ ll = 0 ∧ n = 0 ∧ e = checkZ g) ∨ (Valid g ∧ IsMost g 0 ∧ pl = none ∧ ll = 0 ∧ n = 0 ∧ e = 7) ∨ (Valid g ∧ IsMost g n ∧ 0 < n ∧ e = 0 ∧ ∃ l, RiseN g.nb 0 l ∧ lackL g l = n ∧ IntsP s pl ll (natI l)))) key
   (by rintro v s s' ⟨pl, ll, cl, n, e, rfl, h⟩ hle; exact ⟨pl, ll, cl, n, e, rfl, h.imp id (Or.imp id (fun ⟨a1, a2, a3, a4, l, a5, a6, a7⟩ => ⟨a1, a2, a3, a4, l, a5, a6, SlV.le a7 hle⟩))⟩)
   (by
    rintro v s hr ⟨pl, ll, cl, n, e, rfl, h⟩
    cases pl with
    | some a => exact Bool.noConfusion (show false = true from hr)
    | none => exact ⟨none, ll, cl, n, e, rfl, h.imp id (Or.imp id (fun ⟨a1, a2, a3, a4, l, a5, a6, a7⟩ => ⟨a1, a2, a3, a4, l, a5, a6, slv_none a7⟩))⟩)
  exact ⟨pl, ll, cl, n, e, s, h1, h2, h3⟩
 obtain ⟨n0, hn0⟩ : ∃ n0, n0 = σ.re.next := ⟨_, rfl⟩
 have hn0' : n0 = σ.next := hn0
 obtain ⟨τ, hτ⟩ : ∃ τ, τ = ((σ.re.row (garL p g.ns c q g.nb d) 2).row [.slice none 0 0] 1).row [iV 0] 1 := ⟨_, rfl⟩
 have N1 : New σ.re τ := by rw [hτ]; exact ((New.row _ _ _).row').row'
 have hle := (le0 σ).trans N1.le
 have ck := check_c (c := c) (d := d) (hg.le hle)
 by_cases hz : checkZ g = 0
 rotate_left
 ·rw [hτ] at ck
  refine Lack_ra ck ⟨?_, none, 0, 0, 0, checkZ g, rfl, .inl ⟨hz, rfl, rfl, rfl, rfl⟩⟩
  rw [← hτ]
  exact (N1.own (by show σ.next ≤ σ.next + 1; omega)).own (by show σ.next ≤ σ.next + 2; omega)
 have hv := valid_of hz
 rw [hz] at ck
 obtain ⟨τ2, hτ2⟩ : ∃ τ2, τ2 = (τ.row [.nilFunc] 1).own (n0 + 3) [takeF n0] 1 := ⟨_, rfl⟩
 have nxt : τ.next = n0 + 3 := by rw [hτ, hn0]; rfl
 have N2 : New τ τ2 := by rw [hτ2]; exact (New.row _ _ _).own (by omega)
 have o0 : Own τ2 n0 (garL p g.ns c q g.nb d) 2 := by rw [hn0]; refine Own.le ?_ N2.le; rw [hτ]; exact (own_new _ _ _).row.row
 have o1 : Own τ2 (n0 + 1) [.slice none 0 0] 1 := by rw [hn0]; refine Own.le ?_ N2.le; rw [hτ]; exact (own_new (σ.re.row (garL p g.ns c q g.nb d) 2) _ _).row
 have o2 : Own τ2 (n0 + 2) [iV 0] 1 := by rw [hn0]; refine Own.le ?_ N2.le; rw [hτ]; exact own_new ((σ.re.row (garL p g.ns c q g.nb d) 2).row [.slice none 0 0] 1) _ _
 have o3 : Own τ2 (n0 + 3) [takeF n0] 1 := by rw [hτ2, ← nxt]; exact (own_new τ _ _).put
 have hg2 := hg.le (hle.trans N2.le)
 have hp : ∀ a, p = some a → a.block < n0 := fun a e => by rw [hn0']; exact slv_lt hg.sl a e
 have hq : ∀ a, q = some a → a.block < n0 := fun a e => by rw [hn0']; exact slv_lt hg.bu a e
 obtain ⟨σ2, c1, c2, c3, L, pb, lb, cb, best, f1, f2, f3, f4, f5, f6, f7⟩ := takes hv hp hq g.nb 0 (by omega) τ2 none 0 0 [] [] 0 none 0 0 [] ⟨hg2, o0, o1, o2, o3, ⟨SlP.nil _ _, rfl, by simp⟩, trivial, lackL_zero hv, fun b hb => (AtP.none hb).elim⟩ Stk.nil trivial (by simp) (fun b hb => (AtP.none hb).elim)
 have hM : IsMost g L := ⟨⟨best, f1.rb, f1.lk⟩, fun l hl => by simpa using f6 l hl⟩
 have N3 : New σ.re σ2 := (N1.trans N2).of_only c2 (fun b hb => by
  rcases hb with rfl | rfl | h
  ·show σ.next ≤ _; omega
  ·show σ.next ≤ _; omega
  ·exact (AtP.none h).elim)
 have c1' : CallsA Pg 72 [.slice none 0 0, iV 0, .pointer (some ⟨n0, 0, none⟩), .pointer (some ⟨n0 + 2, 0, none⟩), .pointer (some ⟨n0 + 1, 0, none⟩), .pointer (some ⟨n0 + 3, 0, none⟩)] τ2 (.tuple ⟨[]⟩) σ2 := c1
 have w1 := f1.o1.put (ds := [.slice none 0 0])
 by_cases h0 : L = 0
 ·subst h0
  rw [hτ] at ck
  rw [hτ2, hτ, hn0] at c1'
  rw [hn0] at f1 w1
  have x2 := (Only.own (S := (· = σ.re.next + 1)) (.inr rfl) : Only _ σ2 (σ2.own (σ.re.next + 1) [.slice none 0 0] 1)).own' f1.o2 (by omega)
  have x1 : Own ((σ2.own (σ.re.next + 1) [.slice none 0 0] 1).own (σ.re.next + 2) [iV 0] 1) (σ.re.next + 1) [.slice none 0 0] 1 := w1.own (by omega)
  have x3 := x2.put (ds := [iV 0])
  refine Lack_rb ck c1' (f1.o2.ld rfl agg3 (k := 0) rfl) (ST f1.o1) (ST x2) (x1.ld rfl agg59 (k := 0) rfl) (x3.ld rfl agg3 (k := 0) rfl) ⟨(N3.own (by show σ.next ≤ σ.next + 1; omega)).own (by show σ.next ≤ σ.next + 2; omega), none, 0, 0, 0, 7, rfl, .inr (.inl ⟨hv, hM, rfl, rfl, rfl, rfl⟩)⟩
 ·have hL := hM.nn
  rw [hτ] at ck
  rw [hτ2, hτ, hn0] at c1'
  rw [hn0] at f1
  have x2 := (Only.own (S := (· = σ.re.next + 1)) (.inr rfl) : Only _ σ2 (σ2.own (σ.re.next + 1) [.slice pb lb cb] 1)).own' f1.o2 (by omega)
  have x0 := f1.o1.put (ds := [.slice pb lb cb])
  have x1 : Own ((σ2.own (σ.re.next + 1) [.slice pb lb cb] 1).own (σ.re.next + 2) [iV L] 1) (σ.re.next + 1) [.slice pb lb cb] 1 := x0.own (by omega)
  have x3 := x2.put (ds := [iV L])
  have l1 := f1.o1.lt
  have l2 := f1.o2.lt
  have pbl : ∀ a, pb = some a → a.block < σ2.next := slv_lt f1.ib
  have i1 := (Only.own (S := (· = σ.re.next + 1)) (.inr rfl) : Only _ σ2 (σ2.own (σ.re.next + 1) [.slice pb lb cb] 1)).slv' f1.ib (fun a e h => by have := f1.hb _ ⟨a, e, rfl⟩; omega)
  have i2 := (Only.own (S := (· = σ.re.next + 2)) (.inr rfl) : Only _ (σ2.own (σ.re.next + 1) [.slice pb lb cb] 1) ((σ2.own (σ.re.next + 1) [.slice pb lb cb] 1).own (σ.re.next + 2) [iV L] 1)).slv' i1 (fun a e h => by have := f1.hb _ ⟨a, e, rfl⟩; omega)
  refine Lack_rc ck c1' (f1.o2.ld rfl agg3 (k := 0) rfl) (f1.o1.ld rfl agg59 (k := 0) rfl) (ST f1.o1) (ST x2) (belowL_cons (belowB_ptr l1) belowL_nil) (belowL_cons (belowB_ptr l2) belowL_nil) (belowL_cons (belowB_ptr l1) (belowL_cons (belowB_sl pbl) belowL_nil)) (belowL_cons (belowB_ptr l2) (belowL_cons (belowB_rig rfl) belowL_nil))
   ⟨⟨l2, rfl⟩, f1.o2.ld rfl agg3 (k := 0) rfl⟩ ⟨⟨l2, rfl⟩, x2.ld rfl agg3 (k := 0) rfl⟩ (x1.ld rfl agg59 (k := 0) rfl) (x3.ld rfl agg3 (k := 0) rfl) ⟨(N3.own (by show σ.next ≤ σ.next + 1; omega)).own (by show σ.next ≤ σ.next + 2; omega), pb, lb, cb, L, 0, rfl, .inr (.inr ⟨hv, hM, by omega, rfl, best, f1.rb, f1.lk, i2⟩)⟩
end
end Go.Proofs.Ythcdddbghldmiaa
