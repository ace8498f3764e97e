import Derived.Test.YtgfiniccfpfplaaOk
import Derived.Test.YtgfiniccfpfplaaLayC
namespace Go.Proofs.Ytgfiniccfpfplaa
open Go Go.Lay
@[simp, reducible] def zP (x0 x1 x2 x3 : Int) : List Value := [.int .i64 x0, .int .i64 x1, .int .i64 x2, .int .i64 x3]
@[simp, reducible] def zE (x0 x1 x2 x3 x4 : Int) : List Value := [.int .i64 x0, .int .i64 x1, .int .i64 x2, .int .i64 x3, .int .i64 x4]
@[simp, reducible] def rcd (k a b : Int) : List Value := [.int .u8 k, .int .i64 a, .int .i64 b]
@[simp, reducible] def zG (p : Option Addr) (l c : Nat) (q : Option Addr) (m d : Nat) (r : Option Addr) (n e : Nat) (x y z : Int) : List Value := [.slice p l c, .slice q m d, .slice r n e, .int .i64 x, .int .i64 y, .int .i64 z]
@[simp, reducible] def wkc (a : Int) (p : Option Addr) (l c : Nat) (q : Option Addr) (m d : Nat) (x y z : Int) : List Value := [.int .i64 a, .slice p l c, .slice q m d, .int .i64 x, .int .i64 y, .int .i64 z]
abbrev Ix (i : Int) (n : Nat) : Prop := 0 ≤ i ∧ i < (n : Int)
abbrev I6 (n : Int) : Prop := -9223372036854775808 ≤ n ∧ n ≤ 9223372036854775807
theorem nlt (n i j : Nat) (h : Nat.blt i j = true) : n + i < n + j := Nat.add_lt_add_left (Nat.le_of_ble_eq_true h) n
theorem xIB {b n : Nat} (h : b < n) (j : Nat) : b < n + j := Nat.lt_of_lt_of_le h (Nat.le_add_right n j)
theorem nle {a b : Nat} (h : Nat.ble a b = true) : a ≤ b := Nat.le_of_ble_eq_true h
theorem nne (n i j : Nat) (h : Nat.beq i j = false) : n + i ≠ n + j := fun e => by rw [Nat.add_left_cancel e, Nat.beq_refl] at h; cases h
theorem yOK {n l c : Nat} {p : Option Addr} (h : ∀ a, p = some a → a.block < n) (j : Nat) : yU RD (n + j) (.slice p l c) = true := zAI fun a e => xIB (h a e) j
theorem w64 {n : Int} (h : -9223372036854775808 ≤ n ∧ n ≤ 9223372036854775807) : vU .i64 n = n := zRL h.1 h.2
theorem an2 {A0 A1 A2 : Prop} (a0 : A0) (a1 : A1) (a2 : A2) : A0 ∧ A1 ∧ A2 := ⟨a0, a1, a2⟩
theorem an3 {A0 A1 A2 A3 : Prop} (a0 : A0) (a1 : A1) (a2 : A2) (a3 : A3) : A0 ∧ A1 ∧ A2 ∧ A3 := ⟨a0, a1, a2, a3⟩
theorem an4 {A0 A1 A2 A3 A4 : Prop} (a0 : A0) (a1 : A1) (a2 : A2) (a3 : A3) (a4 : A4) : A0 ∧ A1 ∧ A2 ∧ A3 ∧ A4 := ⟨a0, a1, a2, a3, a4⟩
theorem an5 {A0 A1 A2 A3 A4 A5 : Prop} (a0 : A0) (a1 : A1) (a2 : A2) (a3 : A3) (a4 : A4) (a5 : A5) : A0 ∧ A1 ∧ A2 ∧ A3 ∧ A4 ∧ A5 := ⟨a0, a1, a2, a3, a4, a5⟩
theorem an6 {A0 A1 A2 A3 A4 A5 A6 : Prop} (a0 : A0) (a1 : A1) (a2 : A2) (a3 : A3) (a4 : A4) (a5 : A5) (a6 : A6) : A0 ∧ A1 ∧ A2 ∧ A3 ∧ A4 ∧ A5 ∧ A6 := ⟨a0, a1, a2, a3, a4, a5, a6⟩
theorem kd {a b : Prop} (x : b) (h : a = b := by kernel_rfl) : a := h.mpr x
def apA : List Ans → Ans → List Ans
 | [], x => [x]
 | a :: l, x => a :: apA l x
def zWG : List Alt → Nat → Alt
 | [], _ => ⟨Unit, .normal, fun _ => [], fun _ => [], fun _ _ => False⟩
 | a :: _, 0 => a
 | _ :: l, k + 1 => zWG l k
theorem yMN : ∀ {l : List Alt} {k : Nat}, Nat.blt k l.length = true → In (zWG l k) l
 | [], k, h => by cases k <;> cases h
 | _ :: _, 0, _ => in0
 | _ :: l, k + 1, h => inS (yMN (l := l) (k := k) h)
section
variable {P : Program} {R : Nat → Rec} {rd : Option Nat} {c : Code} {n : Nat} {l : List (Nat × Value)} {ms : List Nat} {alts : List Alt} {σ σ' : St}
theorem kO (k : Nat) (t : (zWG alts k).T) (ys : List Ans) {C : Prop → Prop} (x : ∀ F, F → C F) (nx : (zWG alts k).Q t σ') (hk : Nat.blt k alts.length = true := by rfl)
  (h : ∀ g : Nat → Value, Hid (wpE P R rd c (apA ys (.fin (zWG alts k) t)) ⟨Fm n (ov l g), ms⟩ σ (zDP n alts)) = C (FIN alts (zWG alts k) t σ') := by intro g; kernel_rfl) : yJ P R rd c n l ms alts σ :=
 zBG _ fun g => (h g).mpr (x _ (fin _ t nx (yMN hk)))
theorem sK {H : (Nat → Value) → List Ans → Prop} (ys : List Ans) {B : Prop} (x : B) (h : ∀ g, H g ys = B := by intro g; kernel_rfl) : ∀ g, ∃ an, H g an := fun g => ⟨ys, (h g).mpr x⟩
theorem sF {p : List Nat} {e : Exit} {fr : (Nat → Value) → Fr} (k : Nat) (t : (zWG alts k).T) (ys : List Ans) {C : Prop → Prop} (x : ∀ F, F → C F) (nx : (zWG alts k).Q t σ') (hk : Nat.blt k alts.length = true := by rfl)
  (h : ∀ g : Nat → Value, Hid (kAt P R rd c p (zDP n alts) e (fr g) σ (apA ys (.fin (zWG alts k) t))) = C (FIN alts (zWG alts k) t σ') := by intro g; kernel_rfl) : ∀ g : Nat → Value, ∃ an, Hid (kAt P R rd c p (zDP n alts) e (fr g) σ an) :=
 fun g => ⟨_, (h g).mpr (x _ (fin _ t nx (yMN hk)))⟩
end
theorem kz {P : St → Prop} {K : St → (Nat → Value) → Prop} (k : ∀ σ, P σ → ∀ g, K σ g) : ∀ (g : Nat → Value) (σ : St), P σ → K σ g := fun g σ h => k σ h g
theorem kz0 {P : St → Prop} {K : St → (Nat → Value) → Prop} (k : ∀ σ, P σ → ∀ g, K σ g) : ∀ (t : Unit) (g : Nat → Value) (σ : St), P σ → K σ g := fun t g σ h => k σ h g
theorem kz1 {T0 : Type} {P : T0 → St → Prop} {K : T0 → St → (Nat → Value) → Prop} (k : ∀ a0 σ, P a0 σ → ∀ g, K a0 σ g) : ∀ (t : T0) (g : Nat → Value) (σ : St), P t σ → K t σ g := fun t g σ h => k t σ h g
theorem kz2 {T0 T1 : Type} {P : T0 → T1 → St → Prop} {K : T0 → T1 → St → (Nat → Value) → Prop} (k : ∀ a0 a1 σ, P a0 a1 σ → ∀ g, K a0 a1 σ g) : ∀ (t : T0 × T1) (g : Nat → Value) (σ : St), P t.1 t.2 σ → K t.1 t.2 σ g := fun t g σ h => k t.1 t.2 σ h g
theorem kz3 {T0 T1 T2 : Type} {P : T0 → T1 → T2 → St → Prop} {K : T0 → T1 → T2 → St → (Nat → Value) → Prop} (k : ∀ a0 a1 a2 σ, P a0 a1 a2 σ → ∀ g, K a0 a1 a2 σ g) : ∀ (t : T0 × T1 × T2) (g : Nat → Value) (σ : St), P t.1 t.2.1 t.2.2 σ → K t.1 t.2.1 t.2.2 σ g := fun t g σ h => k t.1 t.2.1 t.2.2 σ h g
abbrev NX1 {T0 : Type} (Inv : Nat → T0 → St → Prop) (k : Nat) : T0 → St → Prop := fun a0 σ => ∃ k', k' < k ∧ Inv k' a0 σ
theorem yV {P : Program} {R : Nat → Rec} {rd : Option Nat} {c : Code} {n : Nat} {alts : List Alt} {T0 : Type} {lf : T0 → List (Nat × Value)} {mf : T0 → List Nat} {Inv : Nat → T0 → St → Prop} (hne : zQG alts) (hb : ∀ k a0 σ, Inv k a0 σ → yJ P R rd c n (lf a0) (mf a0) (⟨T0, .normal, fun t => lf t, fun t => mf t, fun t σ => NX1 Inv k t σ⟩ :: alts) σ) : ∀ k a0 σ, Inv k a0 σ → yR P R rd c n (lf a0) (mf a0) alts σ :=
 fun k a0 σ h => zIF (T := T0) (lf := fun t => lf t) (mf := fun t => mf t) (Inv := fun k t σ => Inv k t σ) hne (fun k t σ h => hb k t σ h) k a0 σ h
abbrev NX2 {T0 T1 : Type} (Inv : Nat → T0 → T1 → St → Prop) (k : Nat) : T0 → T1 → St → Prop := fun a0 a1 σ => ∃ k', k' < k ∧ Inv k' a0 a1 σ
theorem zNL {P : Program} {R : Nat → Rec} {rd : Option Nat} {c : Code} {n : Nat} {alts : List Alt} {T0 T1 : Type} {lf : T0 → T1 → List (Nat × Value)} {mf : T0 → T1 → List Nat} {Inv : Nat → T0 → T1 → St → Prop} (hne : zQG alts) (hb : ∀ k a0 a1 σ, Inv k a0 a1 σ → yJ P R rd c n (lf a0 a1) (mf a0 a1) (⟨T0 × T1, .normal, fun t => lf t.1 t.2, fun t => mf t.1 t.2, fun t σ => NX2 Inv k t.1 t.2 σ⟩ :: alts) σ) : ∀ k a0 a1 σ, Inv k a0 a1 σ → yR P R rd c n (lf a0 a1) (mf a0 a1) alts σ :=
 fun k a0 a1 σ h => zIF (T := T0 × T1) (lf := fun t => lf t.1 t.2) (mf := fun t => mf t.1 t.2) (Inv := fun k t σ => Inv k t.1 t.2 σ) hne (fun k t σ h => hb k t.1 t.2 σ h) k (a0, a1) σ h
abbrev NX4 {T0 T1 T2 T3 : Type} (Inv : Nat → T0 → T1 → T2 → T3 → St → Prop) (k : Nat) : T0 → T1 → T2 → T3 → St → Prop := fun a0 a1 a2 a3 σ => ∃ k', k' < k ∧ Inv k' a0 a1 a2 a3 σ
theorem zTO {P : Program} {R : Nat → Rec} {rd : Option Nat} {c : Code} {n : Nat} {alts : List Alt} {T0 T1 T2 T3 : Type} {lf : T0 → T1 → T2 → T3 → List (Nat × Value)} {mf : T0 → T1 → T2 → T3 → List Nat} {Inv : Nat → T0 → T1 → T2 → T3 → St → Prop} (hne : zQG alts) (hb : ∀ k a0 a1 a2 a3 σ, Inv k a0 a1 a2 a3 σ → yJ P R rd c n (lf a0 a1 a2 a3) (mf a0 a1 a2 a3) (⟨T0 × T1 × T2 × T3, .normal, fun t => lf t.1 t.2.1 t.2.2.1 t.2.2.2, fun t => mf t.1 t.2.1 t.2.2.1 t.2.2.2, fun t σ => NX4 Inv k t.1 t.2.1 t.2.2.1 t.2.2.2 σ⟩ :: alts) σ) : ∀ k a0 a1 a2 a3 σ, Inv k a0 a1 a2 a3 σ → yR P R rd c n (lf a0 a1 a2 a3) (mf a0 a1 a2 a3) alts σ :=
 fun k a0 a1 a2 a3 σ h => zIF (T := T0 × T1 × T2 × T3) (lf := fun t => lf t.1 t.2.1 t.2.2.1 t.2.2.2) (mf := fun t => mf t.1 t.2.1 t.2.2.1 t.2.2.2) (Inv := fun k t σ => Inv k t.1 t.2.1 t.2.2.1 t.2.2.2 σ) hne (fun k t σ h => hb k t.1 t.2.1 t.2.2.1 t.2.2.2 σ h) k (a0, a1, a2, a3) σ h
abbrev NX5 {T0 T1 T2 T3 T4 : Type} (Inv : Nat → T0 → T1 → T2 → T3 → T4 → St → Prop) (k : Nat) : T0 → T1 → T2 → T3 → T4 → St → Prop := fun a0 a1 a2 a3 a4 σ => ∃ k', k' < k ∧ Inv k' a0 a1 a2 a3 a4 σ
theorem xIF {P : Program} {R : Nat → Rec} {rd : Option Nat} {c : Code} {n : Nat} {alts : List Alt} {T0 T1 T2 T3 T4 : Type} {lf : T0 → T1 → T2 → T3 → T4 → List (Nat × Value)} {mf : T0 → T1 → T2 → T3 → T4 → List Nat} {Inv : Nat → T0 → T1 → T2 → T3 → T4 → St → Prop} (hne : zQG alts) (hb : ∀ k a0 a1 a2 a3 a4 σ, Inv k a0 a1 a2 a3 a4 σ → yJ P R rd c n (lf a0 a1 a2 a3 a4) (mf a0 a1 a2 a3 a4) (⟨T0 × T1 × T2 × T3 × T4, .normal, fun t => lf t.1 t.2.1 t.2.2.1 t.2.2.2.1 t.2.2.2.2, fun t => mf t.1 t.2.1 t.2.2.1 t.2.2.2.1 t.2.2.2.2, fun t σ => NX5 Inv k t.1 t.2.1 t.2.2.1 t.2.2.2.1 t.2.2.2.2 σ⟩ :: alts) σ) : ∀ k a0 a1 a2 a3 a4 σ, Inv k a0 a1 a2 a3 a4 σ → yR P R rd c n (lf a0 a1 a2 a3 a4) (mf a0 a1 a2 a3 a4) alts σ :=
 fun k a0 a1 a2 a3 a4 σ h => zIF (T := T0 × T1 × T2 × T3 × T4) (lf := fun t => lf t.1 t.2.1 t.2.2.1 t.2.2.2.1 t.2.2.2.2) (mf := fun t => mf t.1 t.2.1 t.2.2.1 t.2.2.2.1 t.2.2.2.2) (Inv := fun k t σ => Inv k t.1 t.2.1 t.2.2.1 t.2.2.2.1 t.2.2.2.2 σ) hne (fun k t σ h => hb k t.1 t.2.1 t.2.2.1 t.2.2.2.1 t.2.2.2.2 σ h) k (a0, a1, a2, a3, a4) σ h
theorem zK : wK Try.prog 3 = some false := by kernel_rfl
theorem zEZ : yN Try.prog 3 = some 1 := by kernel_rfl
theorem yWP : wK Try.prog 5 = some false := by kernel_rfl
theorem zCA : wK Try.prog 22 = some false := by kernel_rfl
theorem zHK : wK Try.prog 23 = some false := by kernel_rfl
theorem zJM : wK Try.prog 25 = some true := by kernel_rfl
theorem zCK : yN Try.prog 25 = some 6 := by kernel_rfl
theorem yT : wK Try.prog 29 = some false := by kernel_rfl
theorem xKI : wK Try.prog 33 = some true := by kernel_rfl
theorem yJQ : yN Try.prog 33 = some 2 := by kernel_rfl
theorem xKH : wK Try.prog 35 = some true := by kernel_rfl
theorem zFQ : yN Try.prog 35 = some 5 := by kernel_rfl
theorem yIJ : wK Try.prog 36 = some false := by kernel_rfl
theorem yJP : yN Try.prog 36 = some 1 := by kernel_rfl
theorem uB : wK Try.prog 40 = some false := by kernel_rfl
theorem xHM : yN Try.prog 40 = some 1 := by kernel_rfl
theorem zAY : wK Try.prog 41 = some false := by kernel_rfl
theorem xHL : yN Try.prog 41 = some 1 := by kernel_rfl
theorem zCH : wK Try.prog 43 = some true := by kernel_rfl
theorem vO : yN Try.prog 43 = some 6 := by kernel_rfl
theorem xCU : wK Try.prog 47 = some true := by kernel_rfl
theorem yAH : yN Try.prog 47 = some 3 := by kernel_rfl
theorem yII : wK Try.prog 61 = some true := by kernel_rfl
theorem zMV : yN Try.prog 61 = some 6 := by kernel_rfl
theorem xKG : wK Try.prog 67 = some true := by kernel_rfl
theorem yJO : yN Try.prog 67 = some 2 := by kernel_rfl
theorem zQF : wK Try.prog 69 = some true := by kernel_rfl
theorem uT : yN Try.prog 69 = some 5 := by kernel_rfl
theorem xCT : wK Try.prog 70 = some true := by kernel_rfl
theorem vS : yN Try.prog 70 = some 6 := by kernel_rfl
theorem xHD : wK Try.prog 80 = some false := by kernel_rfl
theorem xHC : wK Try.prog 82 = some false := by kernel_rfl
theorem xHB : wK Try.prog 85 = some false := by kernel_rfl
theorem zCG : wK Try.prog 87 = some true := by kernel_rfl
theorem xU : yN Try.prog 87 = some 4 := by kernel_rfl
theorem xKF : wK Try.prog 89 = some true := by kernel_rfl
theorem yXW : yN Try.prog 89 = some 24 := by kernel_rfl
theorem xHA : wK Try.prog 96 = some false := by kernel_rfl
theorem yIH : wK Try.prog 98 = some true := by kernel_rfl
theorem zJQ : yN Try.prog 98 = some 2 := by kernel_rfl
theorem yCT : wK Try.prog 147 = some false := by kernel_rfl
theorem zQO : yN Try.prog 147 = some 1 := by kernel_rfl
theorem ai {a b : Prop} (h : a) (k : b) : a ∧ b := And.intro h k
abbrev iV (n : Int) : Value := .int .i64 n
abbrev I6a (n : Int) : Prop := -9223372036854775808 ≤ n ∧ n ≤ 9223372036854775807
end Go.Proofs.Ytgfiniccfpfplaa
