
import Derived.Test.YtmdopblmkkameaaTM
import Derived.Test.YtmdopblmkkameaaXW
namespace Go.Proofs.Ytmdopblmkkameaa
open Go Go.Lay
set_option linter.unusedVariables false
set_option linter.unusedSimpArgs false
set_option maxRecDepth 20000
def zBH (f : List Int) : Bool := decide (f.length = 3) && f.all fun x => inB x 0 12
structure LeastL (t : Tab) (f : List Int) (x : List Nat) : Prop where
 ri : riN t.nt 0 x
 en : enS t f (mns (fun _ => true) x) = true
 le : ∀ y, riN t.nt 0 y → enS t f (mns (fun _ => true) y) = true → x.length ≤ y.length ∧ (y.length = x.length → lexB y x = false)
theorem riN_range (n : Nat) : ∀ (k m : Nat), m + k = n → riN n m (List.range' m k)
 | 0, _, _ => trivial
 | k + 1, m, h => ⟨Nat.le_refl _, by omega, riN_range n k (m + 1) (by omega)⟩
theorem en_all {t : Tab} {f : List Int} (hf : zBH f = true) : enS t f (mns (fun _ => true) (List.range' 0 t.nt)) = true := by
 have h0 : ∀ k : Int, yG t (mns (fun _ => true) (List.range' 0 t.nt)) k = 0 := fun k => by
  unfold yG
  have : (List.range t.nt).filter (kS t (mns (fun _ => true) (List.range' 0 t.nt)) k) = [] := List.filter_eq_nil_iff.2 fun i hi => by
   have hi : i < t.nt := by simpa using hi
   have : i ∈ List.range' 0 t.nt := by simp; omega
   unfold kS mns; simp [this]
  rw [this]; rfl
 unfold zBH at hf
 simp only [Bool.and_eq_true, decide_eq_true_eq, List.all_eq_true] at hf
 have hp : ∀ k : Nat, k < 3 → (0 : Int) ≤ f.getD k 0 := fun k hk => by
  have hx := hf.2 (f[k]'(by omega)) (List.getElem_mem _)
  have := vO.1 hx
  rw [List.getD_eq_getElem?_getD]; simp [show k < f.length by omega]; exact this.1
 unfold enS
 rw [h0, h0, h0]
 have p0 := hp 0 (by omega); have p1 := hp 1 (by omega); have p2 := hp 2 (by omega)
 rw [decide_eq_true (by omega), decide_eq_true (by omega), decide_eq_true (by omega)]; rfl
theorem lacks_lay {σ : St} {A B C D E G : List Value} {s9 : St} (h : s9 = (((((((((σ.row A 4).row B 1).add (.map [])).row [.map none] 1).own (σ.next + 3) C 1).row [.nilFunc] 1).own (σ.next + 4) D 1).row E 1).row [.nilFunc] 1).own (σ.next + 6) G 1) :
  New σ s9 ∧ Own s9 σ.next A 4 ∧ Own s9 (σ.next + 1) B 1 ∧ zDQ Try.prog s9 (σ.next + 2) b12V Value.bool (fun _ => none) ∧ Own s9 (σ.next + 3) C 1 ∧ Own s9 (σ.next + 4) D 1 ∧ Own s9 (σ.next + 5) E 1 ∧ Own s9 (σ.next + 6) G 1 ∧ s9.next = σ.next + 7 := by
 obtain ⟨s0, h0⟩ : ∃ s, s = σ.row A 4 := ⟨_, rfl⟩
 obtain ⟨s1, h1⟩ : ∃ s, s = s0.row B 1 := ⟨_, rfl⟩
 obtain ⟨s2, h2⟩ : ∃ s, s = s1.add (.map []) := ⟨_, rfl⟩
 obtain ⟨s3, h3⟩ : ∃ s, s = s2.row [.map none] 1 := ⟨_, rfl⟩
 obtain ⟨s4, h4⟩ : ∃ s, s = s3.own (σ.next + 3) C 1 := ⟨_, rfl⟩
 obtain ⟨s5, h5⟩ : ∃ s, s = s4.row [.nilFunc] 1 := ⟨_, rfl⟩
 obtain ⟨s6, h6⟩ : ∃ s, s = s5.own (σ.next + 4) D 1 := ⟨_, rfl⟩
 obtain ⟨s7, h7⟩ : ∃ s, s = s6.row E 1 := ⟨_, rfl⟩
 obtain ⟨s8, h8⟩ : ∃ s, s = s7.row [.nilFunc] 1 := ⟨_, rfl⟩
 rw [← h0, ← h1, ← h2, ← h3, ← h4, ← h5, ← h6, ← h7, ← h8] at h
 have e0 : s0.next = σ.next + 1 := by rw [h0]; rfl
 have e1 : s1.next = σ.next + 2 := by rw [h1]; show s0.next + 1 = _; omega
 have e2 : s2.next = σ.next + 3 := by rw [h2]; show s1.next + 1 = _; omega
 have e3 : s3.next = σ.next + 4 := by rw [h3]; show s2.next + 1 = _; omega
 have e4 : s4.next = σ.next + 4 := by rw [h4]; exact e3
 have e5 : s5.next = σ.next + 5 := by rw [h5]; show s4.next + 1 = _; omega
 have e6 : s6.next = σ.next + 5 := by rw [h6]; exact e5
 have e7 : s7.next = σ.next + 6 := by rw [h7]; show s6.next + 1 = _; omega
 have e8 : s8.next = σ.next + 7 := by rw [h8]; show s7.next + 1 = _; omega
 have e9 : s9.next = σ.next + 7 := by rw [h]; exact e8
 have l1 : Le s0 s1 := by rw [h1]; exact Le.row _ _ _
 have l2 : Le s1 s2 := by rw [h2]; exact Le.add _ _
 have l3 : Le s2 s3 := by rw [h3]; exact Le.row _ _ _
 have k4 : Only (· = σ.next + 3) s3 s4 := by rw [h4]; exact Only.own (.inr rfl)
 have l5 : Le s4 s5 := by rw [h5]; exact Le.row _ _ _
 have k6 : Only (· = σ.next + 4) s5 s6 := by rw [h6]; exact Only.own (.inr rfl)
 have l7 : Le s6 s7 := by rw [h7]; exact Le.row _ _ _
 have l8 : Le s7 s8 := by rw [h8]; exact Le.row _ _ _
 have k9 : Only (· = σ.next + 6) s8 s9 := by rw [h]; exact Only.own (.inr rfl)
 have N : New σ s9 := by
  rw [h, h8, h7, h6, h5, h4, h3, h2, h1, h0]
  exact (((((((((New.row σ A 4).row').trans (New.add _ _)).row').own (by omega)).row').own (by omega)).row').row').own (by omega)
 have up : ∀ {b n : Nat} {cs : List Value}, Own s3 b cs n → b ≠ σ.next + 3 → b ≠ σ.next + 4 → b ≠ σ.next + 6 → Own s9 b cs n := fun o x y z => k9.own' (((k6.own' ((k4.own' o x).le l5) y).le l7).le l8) z
 have o0 : Own s0 σ.next A 4 := by rw [h0]; exact zC _ _ _
 have o1 : Own s1 (σ.next + 1) B 1 := by rw [h1, ← e0]; exact zC _ _ _
 have o3 : Own s3 (σ.next + 3) [.map none] 1 := by rw [h3, ← e2]; exact zC _ _ _
 have o4 : Own s4 (σ.next + 3) C 1 := by rw [h4]; exact o3.put
 have o5 : Own s5 (σ.next + 4) [.nilFunc] 1 := by rw [h5, ← e4]; exact zC _ _ _
 have o6 : Own s6 (σ.next + 4) D 1 := by rw [h6]; exact o5.put
 have o7 : Own s7 (σ.next + 5) E 1 := by rw [h7, ← e6]; exact zC _ _ _
 have o8 : Own s8 (σ.next + 6) [.nilFunc] 1 := by rw [h8, ← e7]; exact zC _ _ _
 have o9 : Own s9 (σ.next + 6) G 1 := by rw [h]; exact o8.put
 have m2 : zDQ Try.prog s2 (σ.next + 2) b12V Value.bool (fun _ => none) := by rw [h2, ← e1]; exact zDQ.new s1
 have m9 : zDQ Try.prog s9 (σ.next + 2) b12V Value.bool (fun _ => none) := by
  have x3 := m2.le l3
  have x4 := x3.at_ (k4.get _ x3.1 (by show σ.next + 2 ≠ σ.next + 3; omega)) k4.next
  have x5 := x4.le l5
  have x6 := x5.at_ (k6.get _ x5.1 (by show σ.next + 2 ≠ σ.next + 4; omega)) k6.next
  have x8 := (x6.le l7).le l8
  exact x8.at_ (k9.get _ x8.1 (by show σ.next + 2 ≠ σ.next + 6; omega)) k9.next
 exact ⟨N, up (((o0.le l1).le l2).le l3) (by omega) (by omega) (by omega), up ((o1.le l2).le l3) (by omega) (by omega) (by omega), m9, k9.own' (((k6.own' (o4.le l5) (by show σ.next + 3 ≠ σ.next + 4; omega)).le l7).le l8) (by show σ.next + 3 ≠ σ.next + 6; omega), k9.own' ((o6.le l7).le l8) (by show σ.next + 4 ≠ σ.next + 6; omega), k9.own' (o7.le l8) (by show σ.next + 5 ≠ σ.next + 6; omega), o9, e9⟩
section
variable {σ : St} {t : Tab} {pe pt : Option Addr} {le ce lt ct : Nat}
theorem Lacks_c {pf : Option Addr} {lf cf : Nat} {f : List Int} (h : TabP σ pe le pt lt t) (hle : le ≤ 1073741824) (hlt : lt ≤ 100000) (hre : ∀ r ∈ t.empty, r.length ≤ 1073741824) (hI : yZ σ pf lf f) (hlf : lf ≤ 100000) :
  ∃ p l c e σ', zD Try.prog 26 [.agg ⟨yE t pe le ce pt lt ct⟩, .slice pf lf cf] σ (.tuple ⟨[.slice p l c, iV e]⟩) σ' ∧ New σ σ' ∧ ((xR t ≠ 0 ∧ e = xR t ∧ l = 0) ∨ (xR t = 0 ∧ zBH f = false ∧ e = 2 ∧ l = 0) ∨ (xR t = 0 ∧ zBH f = true ∧ e = 0 ∧ ∃ x, yZ σ' p l (wI x) ∧ LeastL t f x)) := by
 suffices hmain : zN Try.prog 26 [.agg ⟨yE t pe le ce pt lt ct⟩, .slice pf lf cf] σ.re fun v s => New σ.re s ∧ ∃ p l c e, v = .tuple ⟨[.slice p l c, iV e]⟩ ∧ ((xR t ≠ 0 ∧ e = xR t ∧ l = 0) ∨ (xR t = 0 ∧ zBH f = false ∧ e = 2 ∧ l = 0) ∨ (xR t = 0 ∧ zBH f = true ∧ e = 0 ∧ ∃ x, yZ s p l (wI x) ∧ LeastL t f x)) by
  obtain ⟨v, σ', h1, h2, p, l, c, e, rfl, h3⟩ := zN.new hmain
   (by rintro v s s' ⟨p, l, c, e, rfl, q1⟩ hle; exact ⟨p, l, c, e, rfl, q1.imp id (Or.imp id (fun ⟨x1, x2, x3, x, x4, x5⟩ => ⟨x1, x2, x3, x, SlV.le x4 hle, x5⟩))⟩)
   (by
    rintro v s hr ⟨p, l, c, e, rfl, q1⟩
    refine ⟨p, l, c, e, rfl, q1.imp id (Or.imp id fun ⟨x1, x2, x3, x, x4, x5⟩ => ⟨x1, x2, x3, x, ?_, x5⟩)⟩
    cases p with
    | none => exact zEO x4
    | some a => exact Bool.noConfusion (show false = true from hr))
  exact ⟨p, l, c, e, σ', h1, h2, h3⟩
 have hnt : t.nt = lt := h.len
 obtain ⟨σ1, hσ1⟩ : ∃ σ1, σ1 = (σ.re.row (yE t pe le ce pt lt ct) 4).row [.slice pf lf cf] 1 := ⟨_, rfl⟩
 have n1 : New σ.re σ1 := by rw [hσ1]; exact (New.row _ _ _).row'
 have h1 : TabP σ1 pe le pt lt t := (h.le' (le0 σ)).le' n1.le
 have hI1 : yZ σ1 pf lf f := SlV.le (SlV.le hI (le0 σ)) n1.le
 have ck := check_c (ce := ce) (ct := ct) h1 hle (by omega) hre
 have hfl := hI.len
 by_cases hz : xR t = 0
 rotate_left
 ·subst hσ1
  exact Lacks_ra ck ⟨n1, _, _, _, _, rfl, .inl ⟨hz, rfl, rfl⟩⟩ hz
 rw [hz] at ck
 have hv := valid_of hz
 have hn12 : lt ≤ 12 := by
  have hz' := hz
  unfold xR at hz'
  by_cases h12 : 12 < t.nt
  ·rw [if_pos h12] at hz'; cases hz'
  ·omega
 by_cases h3 : lf = 3
 rotate_left
 ·subst hσ1
  exact Lacks_rb ck ⟨n1, _, _, _, _, rfl, .inr (.inl ⟨hz, by unfold zBH; rw [decide_eq_false (by omega)]; rfl, rfl, rfl⟩)⟩ rfl (by omega)
 subst h3
 have ka := allI_c (σ := σ1) (g := 55) (gc := []) (f := fun x => inB x 0 12) (cap := cf) hI1 (by omega) (fun x _ τ _ => (Lacks1_ra zEK ⟨rfl, Nat.le_refl _⟩ : zN Try.prog 55 [iV x] τ.re fun v s => v = .bool (inB x 0 12) ∧ τ.next ≤ s.low).pure)
 have hfb : zBH f = f.all fun x => inB x 0 12 := by unfold zBH; rw [decide_eq_true hfl, Bool.true_and]
 cases hfa : f.all fun x => inB x 0 12 with
 | false =>
  rw [hfa] at ka
  subst hσ1
  exact Lacks_rd ck ka ⟨n1, _, _, _, _, rfl, .inr (.inl ⟨hz, by rw [hfb, hfa], rfl, rfl⟩)⟩ rfl rfl
 | true =>
 rw [hfa] at ka
 have hft : zBH f = true := by rw [hfb, hfa]
 have hf : ∀ x ∈ f, -100000 ≤ x ∧ x ≤ 100000 := fun x hx => by have := vO.1 (List.all_eq_true.1 hfa x hx); omega
 obtain ⟨σA, hσA⟩ : ∃ σA, σA = (((((((((σ.re.row (yE t pe le ce pt lt ct) 4).row [.slice pf 3 cf] 1).add (.map [])).row [.map none] 1).own (σ.re.next + 3) [.map (some (σ.next + 2))] 1).row [.nilFunc] 1).own (σ.re.next + 4) [.func (.func 57) ⟨[]⟩ ⟨[.pointer (some ⟨(σ.next + 3), 0, none⟩), .pointer (some ⟨σ.next, 0, none⟩), .pointer (some ⟨(σ.next + 1), 0, none⟩)]⟩] 1).row [.slice none 0 0] 1).row [.nilFunc] 1).own (σ.re.next + 6) [.func (.func 60) ⟨[]⟩ ⟨[.pointer (some ⟨(σ.next + 5), 0, none⟩), .pointer (some ⟨(σ.next + 4), 0, none⟩), .pointer (some ⟨σ.next, 0, none⟩), .pointer (some ⟨(σ.next + 6), 0, none⟩)]⟩] 1 := ⟨_, rfl⟩
 obtain ⟨NA, o0, o1, m2, o3, o4, o5, o6, e9⟩ := lacks_lay hσA
 have zr : σ.re.next = σ.next := rfl
 obtain ⟨K, hK⟩ : ∃ K : LvK, K = ⟨⟨σ.re, σ.next + 3, σ.next, σ.next + 1, σ.next + 2⟩, σ.next + 5, σ.next + 4, σ.next + 6, σ.next + 7⟩ := ⟨_, rfl⟩
 have ok : K.Ok := by
  subst hK
  exact ⟨⟨by show σ.re.next ≤ σ.next + 2; omega, by show σ.next + 2 ≠ σ.next + 3; omega, by show σ.next + 2 ≠ σ.next; omega, by show σ.next + 2 ≠ σ.next + 1; omega⟩, by show σ.re.next ≤ σ.next + 5; omega, by show σ.re.next ≤ σ.next + 7; omega,
   ⟨by show σ.next + 5 ≠ σ.next + 3; omega, by show σ.next + 5 ≠ σ.next; omega, by show σ.next + 5 ≠ σ.next + 1; omega, by show σ.next + 5 ≠ σ.next + 2; omega, by show σ.next + 5 ≠ σ.next + 4; omega, by show σ.next + 5 ≠ σ.next + 6; omega⟩,
   ⟨by show σ.next + 2 ≠ σ.next + 4; omega, by show σ.next + 2 ≠ σ.next + 6; omega⟩,
   ⟨by show σ.next + 3 < σ.next + 7; omega, by show σ.next < σ.next + 7; omega, by show σ.next + 1 < σ.next + 7; omega, by show σ.next + 2 < σ.next + 7; omega, by show σ.next + 5 < σ.next + 7; omega, by show σ.next + 4 < σ.next + 7; omega, by show σ.next + 6 < σ.next + 7; omega⟩⟩
 have Ts : TabP K.e.σf pe le pt lt t := by rw [hK]; exact h.le' (le0 σ)
 have Is : yZ K.e.σf pf 3 f := by rw [hK]; exact SlV.le hI (le0 σ)
 have WA : LvW K t pe le ce pt lt ct pf cf f σA (fun _ => none) := by
  subst hK
  exact ⟨⟨NA.le, o3, o0, o1, m2, fun S b hS => by cases hS⟩, ⟨_, _, _, o5⟩, o4, o6, by show σ.next + 7 ≤ σA.next; omega⟩
 have kBb : K.Bb = σ.next + 5 := by rw [hK]
 have kBl : K.Bl = σ.next + 6 := by rw [hK]
 have kbm : K.e.bm = σ.next + 2 := by rw [hK]
 have kar : K.args = [.pointer (some ⟨(σ.next + 5), 0, none⟩), .pointer (some ⟨(σ.next + 4), 0, none⟩), .pointer (some ⟨σ.next, 0, none⟩), .pointer (some ⟨(σ.next + 6), 0, none⟩)] := by rw [hK]
 have hL : Lacks_L1 (σ.next + 5) (σ.next + 6) (((lt : Nat) : Int) + 1) 0 σA (fun y => New σ.re y ∧ ∃ pb lb cb x, Own y (σ.next + 5) [.slice pb lb cb] 1 ∧ yZ y pb lb (wI x) ∧ LeastL t f x) := by
  refine Lacks_loop1 (Inv := fun k i y => ∃ (j : Nat) (F' : B12 → Option Bool), i = j ∧ j + k = lt + 1 ∧ New σ.re y ∧ LvW K t pe le ce pt lt ct pf cf f y F' ∧ ∀ x, riN t.nt 0 x → x.length < j → enS t f (mns (fun _ => true) x) = false) ?_ (lt + 1) 0 σA ⟨0, _, rfl, by omega, NA, WA, fun x _ h => by omega⟩
  rintro k i y ⟨j, F', rfl, hk, hN, hW, hno⟩
  by_cases hj : j < lt + 1
  rotate_left
  ·exfalso
   have := hno (List.range' 0 t.nt) (riN_range t.nt t.nt 0 (by omega)) (by simp; omega)
   rw [en_all hft] at this; cases this
  obtain ⟨v, z', kc, ko, r, F5, x, rfl, f1, f2, f3, f4⟩ := leave_c ok Ts hv hn12 Is hf j y F' none 0 0 [] [] (fun _ => true) 0 hW Stk.nil (by simp; omega) (by omega)
  rw [kar] at kc
  have ol := hW.ol
  rw [kBl, kar] at ol
  have lL : zB Try.prog y 99 ⟨σ.next + 6, 0, none⟩ = some (.func (.func 60) ⟨[]⟩ ⟨[.pointer (some ⟨(σ.next + 5), 0, none⟩), .pointer (some ⟨(σ.next + 4), 0, none⟩), .pointer (some ⟨σ.next, 0, none⟩), .pointer (some ⟨(σ.next + 6), 0, none⟩)]⟩) := ol.ldI (i := 0) (by kernel_rfl) rfl
  have hn' : New σ.re z' := hN.of_only ko (by
   rintro b (e | e | e)
   ·rw [e, kBb]; omega
   ·rw [e, kbm]; omega
   ·exact (AtP.none e).elim)
  have hlo := ol.lt
  have b4 : zH y.next [.func (.func 60) ⟨[]⟩ ⟨[.pointer (some ⟨(σ.next + 5), 0, none⟩), .pointer (some ⟨(σ.next + 4), 0, none⟩), .pointer (some ⟨σ.next, 0, none⟩), .pointer (some ⟨(σ.next + 6), 0, none⟩)]⟩, .slice none 0 0, .agg ⟨yJ 12 fun _ => true⟩, iV 0, iV ((j : Nat) : Int)] := by
   refine zF ?_ (zF rfl (zF bel_bools (zF rfl (zF rfl zG))))
   show ((true && true) && (Nat.blt (σ.next + 5) y.next && (Nat.blt (σ.next + 4) y.next && (Nat.blt σ.next y.next && (Nat.blt (σ.next + 6) y.next && true))))) = true
   rw [(yH _ _).2 (show σ.next + 5 < y.next by omega), (yH _ _).2 (show σ.next + 4 < y.next by omega), (yH _ _).2 (show σ.next < y.next by omega), (yH _ _).2 hlo]; rfl
  have b5 : (((⟨σ.next + 6, 0, none⟩ : Addr).block < y.next ∧ zO RD (.func (.func 60) ⟨[]⟩ ⟨[.pointer (some ⟨(σ.next + 5), 0, none⟩), .pointer (some ⟨(σ.next + 4), 0, none⟩), .pointer (some ⟨σ.next, 0, none⟩), .pointer (some ⟨(σ.next + 6), 0, none⟩)]⟩) = true) ∧ zB Try.prog y 99 ⟨σ.next + 6, 0, none⟩ = some (.func (.func 60) ⟨[]⟩ ⟨[.pointer (some ⟨(σ.next + 5), 0, none⟩), .pointer (some ⟨(σ.next + 4), 0, none⟩), .pointer (some ⟨σ.next, 0, none⟩), .pointer (some ⟨(σ.next + 6), 0, none⟩)]⟩)) := ⟨⟨hlo, rfl⟩, lL⟩
  cases r with
  | true =>
   obtain ⟨_, pb, lb, cb, u2, u3⟩ := f4 rfl
   obtain ⟨g1, g2, g3, g4⟩ := f3.1 rfl
   rw [kBb] at u2
   refine Lacks_s1a lL every_c kc b4 b5 ⟨hn', pb, lb, cb, x, u2, u3, g1, g3, fun w hw he => ?_⟩ (by omega)
   have hwl : ¬ w.length < j := fun hl => by rw [hno w hw hl] at he; cases he
   exact ⟨by omega, fun e => g4 w hw (by omega) he⟩
  | false =>
   refine Lacks_s1b lL every_c kc b4 b5 ⟨k - 1, by omega, j + 1, F5, by omega, by omega, hn', f1, fun w hw hl => ?_⟩ (by omega) (by omega)
   by_cases e : w.length = j
   ·exact f3.2 rfl w hw e
   ·exact hno w hw (by omega)
 subst hσ1
 rw [hσA] at hL
 exact Lacks_rc ck ka hL (fun y ⟨g1, pb, lb, cb, x, g2, g3, g4⟩ => Lacks_t1x0a (g2.ldI (i := 0) zCB rfl) ⟨g1, pb, lb, cb, 0, rfl, .inr (.inr ⟨hz, hft, rfl, x, g3, g4⟩)⟩) rfl rfl (by omega)
end
end Go.Proofs.Ytmdopblmkkameaa
