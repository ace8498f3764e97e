
import Derived.Test.YtmdopblmkkameaaRE
namespace Go.Proofs.Ytmdopblmkkameaa
open Go Go.Lay
open Try renaming prog → Pg
set_option linter.unusedVariables false
set_option linter.unusedSimpArgs false
set_option maxRecDepth 20000
structure Kept (z z' : St) : Prop where
 next : z.next ≤ z'.next
 get : ∀ b cs n lg nx ro, b < z.next → yE z.heap b = some (.cells cs n lg nx ro) → yE z'.heap b = yE z.heap b
theorem Same.kept {n0 : Nat} {z z' : St} (h : Same n0 z z') : Kept z z' := ⟨h.next, fun b _ _ _ _ _ hb e => h.get b hb (fun _ _ _ _ _ _ _ e2 => by rw [e] at e2; cases e2)⟩
theorem Kept.of_le {z z' : St} (h : Le z z') : Kept z z' := ⟨h.next, fun b _ _ _ _ _ hb _ => h.get b hb⟩
theorem Kept.own {z z' : St} {b n : Nat} {cs : List Value} (h : Kept z z') (k : Own z b cs n) : Own z' b cs n := ⟨by rw [h.get _ _ _ _ _ _ k.lt k.get]; exact k.get, Nat.lt_of_lt_of_le k.lt h.next⟩
theorem Kept.app {z z' : St} {n0 n len : Nat} {v : Value} {cs : List Value} (h : Kept z z') (k : App z n0 n v len cs) : App z' n0 n v len cs := by
 cases k with
 | nil => exact .nil
 | more g1 g2 g3 g4 g5 g6 g7 => exact .more (by rw [h.get _ _ _ _ _ _ g4 g1]; exact g1) g2 g3 (Nat.lt_of_lt_of_le g4 h.next) g5 g6 g7
def Grid (z : St) (n1 q m : Nat) (L : Nat → List Nat) : Prop := ∃ vs : List Value, Own z q vs 1 ∧ vs.length = m ∧ (∀ i, i < m → ∃ p c, vs[i]? = some (Value.slice p (L i).length c) ∧ App z n1 1 (.slice p (L i).length c) (L i).length ((vH (L i)).map wM)) ∧
 ∀ (i j : Nat) p l c p' l' c', i ≠ j → vs[i]? = some (Value.slice p l c) → vs[j]? = some (Value.slice p' l' c') → ∀ b, AtP p b → ¬ AtP p' b
theorem Grid.kept {z z' : St} {n1 q m : Nat} {L : Nat → List Nat} (h : Grid z n1 q m L) (k : Kept z z') : Grid z' n1 q m L := by
 obtain ⟨vs, a1, a2, a3, a4⟩ := h
 exact ⟨vs, k.own a1, a2, fun i hi => by obtain ⟨p, c, g1, g2⟩ := a3 i hi; exact ⟨p, c, g1, k.app g2⟩, a4⟩
theorem Grid.congr {z : St} {n1 q m : Nat} {L L' : Nat → List Nat} (h : Grid z n1 q m L) (e : ∀ i, i < m → L i = L' i) : Grid z n1 q m L' := by
 obtain ⟨vs, a1, a2, a3, a4⟩ := h
 exact ⟨vs, a1, a2, fun i hi => by rw [← e i hi]; exact a3 i hi, a4⟩
theorem zDT (l : List Nat) : (vH l).length = l.length := by simp [vH]
theorem flat_intV (xs : List Int) : wH (xs.map wM) = xs.map wM := flat_ints xs .i64
theorem app_ints {z : St} {n1 c : Nat} {p : Option Addr} {l : List Nat} (h : App z n1 1 (.slice p l.length c) l.length ((vH l).map wM)) : yU z p l.length (vH l) := by
 refine App.slv (vs := (vH l).map wM) (by rw [flat_intV]; exact h) (by simp [vH]) ?_
 rintro v hv
 obtain ⟨x, _, rfl⟩ := List.mem_map.1 hv
 exact zHA x
theorem Grid.rowsF {z : St} {n0 n1 q m : Nat} {L : Nat → List Nat} (h : Grid z n1 q m L) (h0 : n0 ≤ n1) (hq : n0 ≤ q) : zCM z n0 (some ⟨q, 0, none⟩) m ((List.range m).map fun i => vH (L i)) := by
 obtain ⟨vs, a1, a2, a3, a4⟩ := h
 have hsl : ∀ v ∈ vs, ∃ p l c, v = Value.slice p l c := by
  intro v hv
  obtain ⟨i, hi, rfl⟩ := List.mem_iff_getElem.1 hv
  obtain ⟨p, c, g1, _⟩ := a3 i (by omega)
  rw [List.getElem?_eq_getElem hi] at g1
  exact ⟨_, _, _, Option.some.inj g1⟩
 have hfl : wH vs = vs := by
  have : ∀ v ∈ vs, v.cells.toList = [v] := by
   intro v hv
   obtain ⟨p, l, c, rfl⟩ := hsl v hv; rfl
  clear hsl
  clear a1 a2 a3 a4
  induction vs with
  | nil => rfl
  | cons v vs ih =>
   rw [show (v :: vs) = [v] ++ vs from rfl, zFR, ih (fun w hw => this w (List.mem_cons_of_mem _ hw))]
   have := this v List.mem_cons_self
   simp [wH, this]
 refine ⟨vs, ⟨⟨?_, ?_⟩, a2, ?_⟩, by simp, ?_, ?_⟩
 ·rw [hfl]; omega
 ·show Row z ⟨q, 0, none⟩ (wH vs)
  rw [hfl]; exact a1.rw
 ·intro v hv
  obtain ⟨p, l, c, rfl⟩ := hsl v hv
  exact elOk_row _ _ _
 ·rintro b ⟨a, e, rfl⟩; cases e; exact hq
 ·intro i r hi
  rw [List.getElem?_map] at hi
  by_cases hm : i < m
  ·rw [List.getElem?_range hm] at hi
   cases hi
   obtain ⟨p, c, g1, g2⟩ := a3 i hm
   refine ⟨p, c, by rw [zDT]; exact g1, by rw [zDT]; exact app_ints g2, ?_⟩
   rintro b ⟨a, rfl, rfl⟩
   have := g2.ge a rfl; omega
  ·rw [List.getElem?_eq_none (by simp; omega)] at hi; cases hi
theorem Grid.push {σ : St} {n1 q m i k : Nat} {L : Nat → List Nat} (h : Grid σ n1 q m L) (hi : i < m) (hq : q < n1) (hn : n1 ≤ σ.next) (hlen : (L i).length ≤ 100000) :
  ∃ p c p' c' σ1 σ2, zB Pg σ 41 (zH ⟨q, 0, none⟩ (Int.toNat (i : Int) * 1)) = some (.slice p (L i).length c) ∧ zB Pg (σ.row [iV (k : Int)] 1) 41 (zH ⟨q, 0, none⟩ (Int.toNat (i : Int) * 1)) = some (.slice p (L i).length c) ∧
   xD Pg 41 41 (.slice p (L i).length c) (.slice (some ⟨σ.next, 0, none⟩) 1 1) (σ.row [iV (k : Int)] 1) = some (.slice p' ((L i).length + 1) c', σ1) ∧
   zX Pg (evL [.pointer (some (zH ⟨q, 0, none⟩ (Int.toNat (i : Int) * 1))), .slice p' ((L i).length + 1) c']) σ1 (.store 41 (.tmp 0) (.tmp 1)) = some (undef, σ2) ∧
   (∀ a, p = some a → a.block < σ.next) ∧ (∀ a, p' = some a → a.block < σ1.next) ∧ Only (AtP p) σ σ1 ∧ Only (fun b => b = q ∨ AtP p b) σ σ2 ∧ (∀ b, AtP p b → n1 ≤ b ∧ ∃ cs log nx, yE σ.heap b = some (.cells cs 1 log nx false)) ∧ (∃ cs log nx, yE σ.heap q = some (.cells cs 1 log nx false)) ∧
   Grid σ2 n1 q m fun j => if j = i then L i ++ [k] else L j := by
 obtain ⟨vs, a1, a2, a3, a4⟩ := h
 obtain ⟨p, c, g1, g2⟩ := a3 i hi
 have hr : Row (σ.row [iV (k : Int)] 1) ⟨σ.next, 0, none⟩ [iV (k : Int)] := (zC σ [iV (k : Int)] 1).rw
 have g2' := Kept.app (Kept.of_le (Le.row σ [iV (k : Int)] 1)) g2
 obtain ⟨p', c', σ1, e1, e2, e3, e4⟩ := app_step2 (k := 1) appT_ints g2' hr (m := 1) rfl (by omega) (by omega) rfl (by simp; omega)
 have o3 : Only (AtP p) σ σ1 := (New.row σ [iV (k : Int)] 1).only.trans' e3 (fun b _ h => .inl h)
 have hqp : ¬ AtP p q := by rintro ⟨a, rfl, rfl⟩; have := g2.ge a rfl; omega
 have a1' := o3.own' a1 hqp
 have hi' : i < vs.length := by omega
 have st := a1'.stI (P := Pg) (t := 41) (v := .slice p' ((L i).length + 1) c') (i := i) rfl (by kernel_rfl) rfl hi'
 have k3 : Only (fun b => b = q) σ1 (σ1.own q (vs.set i (.slice p' ((L i).length + 1) c')) 1) := Only.own (.inr rfl)
 have hle : σ.next ≤ σ1.next := o3.next
 refine ⟨p, c, p', c', σ1, _, ?_, ?_, e1, st, g2.lt, e2.lt, o3, (o3.mono (T := fun b => b = q ∨ AtP p b) (fun b _ h => .inr h)).trans' k3 (fun b _ h => .inl (.inl h)), ?_, ⟨_, _, _, a1.get⟩, ?_⟩
 ·have := a1.ldI (P := Pg) (t := 41) zBU g1; simpa [zH] using this
 ·have := (a1.le (Le.row σ [iV (k : Int)] 1)).ldI (P := Pg) (t := 41) zBU g1; simpa [zH] using this
 ·rintro b ⟨a, rfl, rfl⟩
  refine ⟨g2.ge a rfl, ?_⟩
  cases g2 with
  | more h1 _ _ _ _ _ _ => exact ⟨_, _, _, h1⟩
 ·refine ⟨vs.set i (.slice p' ((L i).length + 1) c'), Own.put a1', by simpa using a2, fun j hj => ?_, fun x y px lx cx py ly cy hxy hx hy b hbx hby => ?_⟩
  ·by_cases hji : j = i
   ·subst hji
    refine ⟨p', c', by simp [hi'], ?_⟩
    simp only [if_true]
    have : App (σ1.own q (vs.set j (.slice p' ((L j).length + 1) c')) 1) n1 1 (.slice p' ((L j).length + 1) c') ((L j).length + 1) (((vH (L j)).map wM) ++ [iV (k : Int)]) := App.own' e2 hq
    simpa [vH, wM] using this
   ·obtain ⟨pj, cj, j1, j2⟩ := a3 j hj
    refine ⟨pj, cj, by rw [List.getElem?_set_ne (by omega)]; simpa [hji] using j1, ?_⟩
    simp only [hji, if_false]
    exact App.own' (o3.app' j2 (by rintro a l' c'' e hs; cases e; exact a4 j i _ _ _ _ _ _ hji j1 g1 _ ⟨a, rfl, rfl⟩ hs)) hq
  ·
   have hnew : ∀ z pz lz cz, z ≠ i → vs[z]? = some (Value.slice pz lz cz) → ∀ b, AtP pz b → ¬ AtP p' b := by
    intro z pz lz cz hz hv b hb hb'
    have hzl : z < m := by
     have := (List.getElem?_eq_some_iff.1 hv).1; omega
    rcases e4 b hb' with h | h
    ·exact a4 z i _ _ _ _ _ _ hz hv g1 _ hb h
    ·obtain ⟨pj, cj, j1, j2⟩ := a3 z hzl
     rw [hv] at j1; cases j1
     obtain ⟨a, rfl, rfl⟩ := hb
     have := j2.lt a rfl
     simp at h; omega
   by_cases hxi : x = i
   ·subst hxi
    rw [List.getElem?_set_self hi'] at hx
    cases hx
    rw [List.getElem?_set_ne hxy] at hy
    exact hnew y _ _ _ (fun e => hxy e.symm) hy b hby hbx
   ·rw [List.getElem?_set_ne (fun e => hxi e.symm)] at hx
    by_cases hyi : y = i
    ·subst hyi
     rw [List.getElem?_set_self hi'] at hy
     cases hy
     exact hnew x _ _ _ hxi hx b hbx hby
    ·rw [List.getElem?_set_ne (fun e => hyi e.symm)] at hy
     exact a4 x y _ _ _ _ _ _ hxy hx hy b hbx hby
def gr (t : Tab) (n i k j : Nat) : List Nat := if j < i then zHY t j n else if j = i then zHY t i k else []
theorem gr_zero {t : Tab} {n j : Nat} : gr t n 0 0 j = [] := by
 unfold gr
 rw [if_neg (by omega)]
 split
 ·simp [zHY]
 ·rfl
theorem gr_row {t : Tab} {n i j : Nat} : gr t n i n j = gr t n (i + 1) 0 j := by
 unfold gr
 by_cases h : j < i
 ·rw [if_pos h, if_pos (by omega)]
 ·rw [if_neg h]
  by_cases h2 : j = i
  ·subst h2; rw [if_pos rfl, if_pos (by omega)]
  ·rw [if_neg h2, if_neg (by omega)]
   split
   ·simp [zHY]
   ·rfl
theorem gr_skip {t : Tab} {n i k j : Nat} (h : xL t i k = false) : gr t n i (k + 1) j = gr t n i k j := by
 unfold gr zHY
 rw [zDG, h]; simp
theorem gr_push {t : Tab} {n i k j : Nat} (h : xL t i k = true) : (if j = i then gr t n i k i ++ [k] else gr t n i k j) = gr t n i (k + 1) j := by
 unfold gr zHY
 by_cases hj : j = i
 ·subst hj
  rw [if_pos rfl, if_neg (by omega), if_pos rfl, if_neg (by omega), if_pos rfl, zDG, h]; simp
 ·rw [if_neg hj, zDG]
  split
  ·rfl
  ·rfl
theorem folL_len {t : Tab} {i n : Nat} : (zHY t i n).length ≤ n := by
 have := List.length_filter_le (xL t i) (List.range n)
 rw [List.length_range] at this; exact this
theorem gr_len {t : Tab} {n i k : Nat} (h : k ≤ n) : (gr t n i k i).length ≤ n := by
 unfold gr
 rw [if_neg (by omega), if_pos rfl]
 have := folL_len (t := t) (i := i) (n := k); omega
abbrev folR (t : Tab) (n : Nat) : List (List Int) := (List.range n).map fun i => vH (zHY t i n)
section
variable {σ : St} {t : Tab} {pe pt : Option Addr} {le ce lt ct : Nat}
theorem pairs_own : ∃ a1 σ', zD Pg 71 [.agg ⟨yB t pe le ce pt lt ct⟩] σ (.func (.func 86) ⟨[]⟩ ⟨[.pointer (some ⟨a1, 0, none⟩)]⟩) σ' ∧ New σ σ' ∧ Own σ' a1 (yB t pe le ce pt lt ct) 4 := by
 obtain ⟨v, σ', h1, h2, a1, rfl, h3⟩ := zN.new (σ := σ) (Q := fun v s => ∃ a1, v = .func (.func 86) ⟨[]⟩ ⟨[.pointer (some ⟨a1, 0, none⟩)]⟩ ∧ Own s a1 (yB t pe le ce pt lt ct) 4)
  (pairs_ra ⟨New.row _ _ _, _, rfl, zC σ.re _ _⟩) (by rintro v s s' ⟨a1, rfl, q1⟩ hle; exact ⟨a1, rfl, q1.le hle⟩) (by rintro v s hr ⟨a1, rfl, _⟩; exact Bool.noConfusion (show false = true from hr))
 exact ⟨a1, σ', h1, h2, h3⟩
theorem grid_new {q m n1 : Nat} (o : Own σ q (List.replicate m (Value.slice none 0 0)) 1) : Grid σ n1 q m fun _ => [] := by
 refine ⟨_, o, by simp, fun i hi => ⟨none, 0, by simp [hi], .nil⟩, fun i j p l c p' l' c' _ h1 _ b hb => ?_⟩
 rw [List.getElem?_replicate] at h1
 split at h1
 ·cases h1; exact (AtP.none hb).elim
 ·cases h1
theorem follows_c (h : TabP σ pe le pt lt t) (hv : Valid t) (hlt : lt ≤ 100000) : ∃ p c σ', zD Pg 64 [.agg ⟨yB t pe le ce pt lt ct⟩] σ (.slice p lt c) σ' ∧ New σ σ' ∧ zCM σ' σ.next p lt (folR t lt) ∧ ∃ q, p = some ⟨q, 0, none⟩ := by
 suffices hmain : zN Pg 64 [.agg ⟨yB t pe le ce pt lt ct⟩] σ.re fun v s => New σ.re s ∧ ∃ q c, v = .slice (some ⟨q, 0, none⟩) lt c ∧ zCM s σ.next (some ⟨q, 0, none⟩) lt (folR t lt) by
  obtain ⟨v, σ', h1, h2, q, c, rfl, h3⟩ := zN.new hmain
   (by rintro v s s' ⟨q, c, rfl, q1⟩ hle; exact ⟨q, c, rfl, q1.le hle⟩) (by rintro v s hr ⟨q, c, rfl, _⟩; exact Bool.noConfusion (show false = true from hr))
  exact ⟨_, c, σ', h1, h2, h3, q, rfl⟩
 have hz : zDQ Pg 41 = some (.slice none 0 0) := by kernel_rfl
 have mk := make_sl (P := Pg) (σ := σ.re.row (yB t pe le ce pt lt ct) 4) (st := 22) (e := 41) (z := .slice none 0 0) (n := 1) (by kernel_rfl) hz (len := lt) (by omega)
 rw [show (σ.re.row (yB t pe le ce pt lt ct) 4).next = σ.next + 1 from rfl] at mk
 obtain ⟨σ1, hσ1⟩ : ∃ σ1, σ1 = (σ.re.row (yB t pe le ce pt lt ct) 4).row (xG (Value.slice none 0 0).cells.toList lt) 1 := ⟨_, rfl⟩
 rw [← hσ1] at mk
 have nx1 : σ1.next = σ.next + 2 := by rw [hσ1]; rfl
 have n1 : New σ.re σ1 := by rw [hσ1]; exact (New.row _ _ _).row'
 have oq : Own σ1 (σ.next + 1) (List.replicate lt (Value.slice none 0 0)) 1 := by
  have e : xG (Value.slice none 0 0).cells.toList lt = List.replicate lt (Value.slice none 0 0) := zHG _ _
  rw [hσ1, e]; exact zC _ _ _
 have ot : Own σ1 σ.next (yB t pe le ce pt lt ct) 4 := by rw [hσ1]; exact (zC σ.re (yB t pe le ce pt lt ct) 4).row
 obtain ⟨σ2, hσ2⟩ : ∃ σ2, σ2 = (σ1.row [.slice none 0 0] 1).own σ1.next [.slice (some ⟨σ.next + 1, 0, none⟩) lt lt] 1 := ⟨_, rfl⟩
 have n2 : New σ1 σ2 := by rw [hσ2]; exact (New.row _ _ _).own (Nat.le_refl _)
 have nx2 : σ2.next = σ.next + 3 := by rw [hσ2]; show σ1.next + 1 = _; omega
 have oB : Own σ2 (σ.next + 2) [.slice (some ⟨σ.next + 1, 0, none⟩) lt lt] 1 := by rw [hσ2, ← nx1]; exact (zC _ _ _).put
 obtain ⟨a1, σ4, c1, n4, oa⟩ := pairs_own (σ := σ2) (t := t) (pe := pe) (le := le) (ce := ce) (pt := pt) (lt := lt) (ct := ct)
 have N4 : New σ.re σ4 := (n1.trans n2).trans n4
 have la := (ot.le n2.le).ldN (P := Pg) (t := 34) wB yY (k := 0) rfl rfl (by simp)
 have nx4 := n4.nx
 refine follows_ra (Pn := fun z => New σ.re z ∧ Own z (σ.next + 2) [.slice (some ⟨σ.next + 1, 0, none⟩) lt lt] 1 ∧ Grid z σ4.next (σ.next + 1) lt (gr t lt lt 0) ∧ yE z.heap σ4.next = some .defd ∧ σ4.next < z.next) mk (by rw [← hσ2]; exact la) (by rw [← hσ2]; exact c1) ?_ ?_
 rotate_left
 ·rintro z ⟨z1, z2, z3, z4, z5⟩
  obtain ⟨s_end, e1, e2, e3, e4⟩ := shut_all (σ := z) (ms := [σ4.next]) (fun m hm => by rw [List.mem_singleton] at hm; subst hm; exact z4) (by simp)
  have hk : Kept z s_end := ⟨by omega, fun b cs n lg nx ro hb e => e3 b (fun hm => by rw [List.mem_singleton] at hm; subst hm; rw [z4] at e; cases e)⟩
  have hnew : New σ.re s_end := ⟨⟨by rw [e2]; exact z1.le.next, fun b hb => by rw [e3 b (fun hm => by rw [List.mem_singleton] at hm; subst hm; simp at hb; omega)]; exact z1.le.get b hb⟩, fun m hm1 hm2 => e4 m (z1.low m hm1 hm2) (fun d hd => by rw [List.mem_singleton] at hd; subst hd; simp at hm2; omega)⟩
  have g := (z3.kept hk).rowsF (n0 := σ.next) (by omega) (by omega)
  refine follows_t1xna (by rw [nx1]; exact z2.ldI (i := 0) zAN rfl) e1 ⟨hnew, _, _, rfl, ?_⟩
  have e : ((List.range lt).map fun i => vH (gr t lt lt 0 i)) = folR t lt := by
   apply List.map_congr_left
   intro i hi
   have : i < lt := by simpa using hi
   unfold gr; rw [if_pos this]
  rw [e] at g; exact g
 let J : Nat → Nat → St → Prop := fun i k z => Le σ z ∧ Own z a1 (yB t pe le ce pt lt ct) 4 ∧ Own z (σ.next + 2) [.slice (some ⟨σ.next + 1, 0, none⟩) lt lt] 1 ∧ Grid z σ4.next (σ.next + 1) lt (gr t lt i k)
 refine pair_range (pe := pe) (pt := pt) (le := le) (n0 := σ.next) (J := J) (a1 := a1) (ce := ce) (ct := ct) hv hlt (fun g0 => by kernel_rfl) (by omega) ?_ ?_ ?_ ?_ ?_ ?_ ?_
 ·rintro i k z ⟨j1, j2, j3, j4⟩
  exact ⟨j2.rw, h.le' j1⟩
 ·exact ⟨Le.trans (le0 σ) N4.le, oa, oB.le n4.le, (grid_new ((oq.le n2.le).le n4.le)).congr fun i hi => gr_zero.symm⟩
 ·rintro i k z z' ⟨j1, j2, j3, j4⟩ hs
  exact ⟨⟨Nat.le_trans j1.next hs.next, fun b hb => (hs.old b hb).trans (j1.get b hb)⟩, hs.own j2, hs.own j3, j4.kept hs.kept⟩
 ·rintro i z hi ⟨j1, j2, j3, j4⟩
  exact ⟨j1, j2, j3, j4.congr fun j _ => gr_row⟩
 ·rintro i k z hi hk hm ⟨j1, j2, j3, j4⟩
  exact ⟨j1, j2, j3, j4.congr fun j _ => (gr_skip hm).symm⟩
 ·rintro i k z zz lo g0 db hi hk hm hl hzz ⟨j1, j2, j3, j4⟩ hnz
  obtain ⟨p, c, p', c', s1, s2, l1, l2, ap, st, b1, b2, o1, o2, hp, hq, hg⟩ := j4.push (k := k) hi (by omega) hnz (by have := gr_len (t := t) (i := i) (Nat.le_of_lt hk); omega)
  have lB : ∀ z', Own z' (σ.next + 2) [.slice (some ⟨σ.next + 1, 0, none⟩) lt lt] 1 → zB Pg z' 22 ⟨σ1.next, 0, none⟩ = some (.slice (some ⟨σ.next + 1, 0, none⟩) lt lt) := fun z' o => by rw [nx1]; exact o.ldI (i := 0) zAN rfl
  have hnp : ∀ b, b < σ4.next → ¬ AtP p b := fun b hb hpb => by have := (hp b hpb).1; omega
  have oB1 := o1.own' j3 (hnp _ (by omega))
  have oB2 := o2.own' j3 (by rintro (e | e); omega; exact hnp _ (by omega) e)
  have hn1 := o1.next
  have hlt' := oB1.lt
  refine ⟨s2, follows_y1a hl hzz (lB _ j3) l1 ap st ?_ (lB _ (j3.le (Le.row _ _ _))) ⟨⟨by show σ1.next < s1.next; omega, rfl⟩, lB _ oB1⟩ l2 b1 rfl (by omega) (by omega) (by show σ.next + 1 < zz.next; omega), ⟨?_, o2.own' j2 ?_, oB2, hg.congr fun j _ => gr_push hm⟩, _, o2, ?_⟩
  ·exact zF (zM (by show σ.next + 1 < s1.next; omega)) (zF (uX fun a e => b2 a e) zG)
  ·exact ⟨Nat.le_trans j1.next o2.next, fun b hb => (o2.get b (by have := j1.next; omega) (by rintro (e | e); omega; exact hnp _ (by omega) e)).trans (j1.get b hb)⟩
  ·rintro (e | e)
   ·obtain ⟨cs, lg, nx, hq⟩ := hq
    rw [← e, j2.get] at hq; cases hq
   ·exact hnp _ (by have := oa.lt; omega) e
  ·rintro y (rfl | hy)
   ·obtain ⟨cs, lg, nx, hq⟩ := hq
    exact ⟨by omega, fun _ => ⟨_, _, _, _, _, by decide, hq⟩⟩
   ·obtain ⟨w1, cs, lg, nx, w2⟩ := hp y hy
    exact ⟨by omega, fun _ => ⟨_, _, _, _, _, by decide, w2⟩⟩
 ·rintro z ⟨j1, j2, j3, j4⟩ hd hltz hlow
  exact ⟨⟨⟨j1.next, j1.get⟩, fun m hm1 hm2 => hlow m hm2 (N4.low m hm1 hm2)⟩, j3, j4, hd, hltz⟩
end
end Go.Proofs.Ytmdopblmkkameaa
