
import Derived.Test.YtmdopblmkkameaaTy
namespace Go.Proofs.Ytmdopblmkkameaa
open Go Go.Lay
open Try renaming prog → Pg
set_option linter.unusedVariables false
set_option maxRecDepth 20000
variable {l s : Option Addr} {l_l l_c s_l s_c : Nat} {right f f1 : FuncId} {right_c f_c f1_c : List Value} {σ2 σ σ3 σB : St} {Q : Value → St → Prop} {n1 x i8_1 nA i4_1 : Int} {v0 s_a : Addr} {Inv : Nat → Int → St → Prop} {Qr Nx Pr : Int → St → Prop} {Q0 P0 : St → Prop}
theorem wallI_ra (h1 : zD Pg 82 [.slice l l_l l_c, .func (.func 83) ⟨[]⟩ ⟨[.pointer (some ⟨σ.next, 0, none⟩)]⟩] (σ.row [.func (.func right) ⟨[]⟩ ⟨right_c⟩] 1) (.bool true) σ2) (nx : Q (.bool false) σ2) : zN Pg 54 [.slice l l_l l_c, .func (.func right) ⟨[]⟩ ⟨right_c⟩] σ Q :=
 zK [.g, .g, .g, .g, .c (.bool true) σ2, .g, .g] (kc (by kernel_rfl) (ai h1 nx))
theorem wallI_rb (h1 : zD Pg 82 [.slice l l_l l_c, .func (.func 83) ⟨[]⟩ ⟨[.pointer (some ⟨σ.next, 0, none⟩)]⟩] (σ.row [.func (.func right) ⟨[]⟩ ⟨right_c⟩] 1) (.bool false) σ2) (nx : Q (.bool true) σ2) : zN Pg 54 [.slice l l_l l_c, .func (.func right) ⟨[]⟩ ⟨right_c⟩] σ Q :=
 zK [.g, .g, .g, .g, .c (.bool false) σ2, .g, .g] (kc (by kernel_rfl) (ai h1 nx))
theorem wconI_ra (h1 : zD Pg 95 [.slice s s_l s_c, .func (.func f) ⟨[]⟩ ⟨f_c⟩] σ (iV n1) σ2) (nx : Q (.bool true) σ2) (u1 : 0 ≤ n1 := by omega) : zN Pg 82 [.slice s s_l s_c, .func (.func f) ⟨[]⟩ ⟨f_c⟩] σ Q :=
 zK [.g, .g, .g, .c (iV n1) σ2, .b true, .g] (kc (by kernel_rfl) (ai h1 (ai (zAF u1) nx)))
theorem wconI_rb (h1 : zD Pg 95 [.slice s s_l s_c, .func (.func f) ⟨[]⟩ ⟨f_c⟩] σ (iV n1) σ2) (nx : Q (.bool false) σ2) (u1 : ¬ 0 ≤ n1 := by omega) : zN Pg 82 [.slice s s_l s_c, .func (.func f) ⟨[]⟩ ⟨f_c⟩] σ Q :=
 zK [.g, .g, .g, .c (iV n1) σ2, .b false, .g] (kc (by kernel_rfl) (ai h1 (ai (zAX u1) nx)))
theorem wallI1_ra (h1 : zB Pg σ 93 v0 = some (.func (.func f1) ⟨[]⟩ ⟨f1_c⟩)) (h2 : zD Pg f1 (iV x :: f1_c) σ (.bool true) σ3) (nx : Q (.bool false) σ3) : zN Pg 83 [iV x, .pointer (some v0)] σ Q :=
 zK [.g, .l (.func (.func f1) ⟨[]⟩ ⟨f1_c⟩), .g, .c (.bool true) σ3, .g, .g] (kc (by kernel_rfl) (ai h1 (ai h2 nx)))
theorem wallI1_rb (h1 : zB Pg σ 93 v0 = some (.func (.func f1) ⟨[]⟩ ⟨f1_c⟩)) (h2 : zD Pg f1 (iV x :: f1_c) σ (.bool false) σ3) (nx : Q (.bool true) σ3) : zN Pg 83 [iV x, .pointer (some v0)] σ Q :=
 zK [.g, .l (.func (.func f1) ⟨[]⟩ ⟨f1_c⟩), .g, .c (.bool false) σ3, .g, .g] (kc (by kernel_rfl) (ai h1 (ai h2 nx)))
noncomputable def widxI_c1 : Code := (Code.part [1, 0, 1, 0, 0] (yC Pg 95))
def zGF (s : Option Addr) (s_l s_c : Nat) (f : FuncId) (f_c : List Value) (i8_1 : Int) : List (Nat × Value) := [(0, .slice s s_l s_c), (1, .func (.func f) ⟨[]⟩ ⟨f_c⟩), (7, iV ((s_l : Nat) : Int)), (8, iV i8_1)]
def zEF (s : Option Addr) (s_l s_c : Nat) (f : FuncId) (f_c : List Value) (Q : Int → St → Prop) : Alt := ⟨Int, .normal, fun t => zGF s s_l s_c f f_c t, fun t => [], fun t σ => Q t σ⟩
def widxI_l1xr (s : Option Addr) (s_l s_c : Nat) (f : FuncId) (f_c : List Value) (i4_1 : Int) : List (Nat × Value) := [(4, iV i4_1)]
def zAB (s : Option Addr) (s_l s_c : Nat) (f : FuncId) (f_c : List Value) (Q : Int → St → Prop) : Alt := ⟨Int, .ret, fun t => widxI_l1xr s s_l s_c f f_c t, fun t => [], fun t σ => Q t σ⟩
def widxI_l1x0 (s : Option Addr) (s_l s_c : Nat) (f : FuncId) (f_c : List Value) : List (Nat × Value) := []
def zAC (s : Option Addr) (s_l s_c : Nat) (f : FuncId) (f_c : List Value) (Q : St → Prop) : Alt := ⟨Unit, (.exit 0), fun t => widxI_l1x0 s s_l s_c f f_c, fun t => [], fun t σ => Q σ⟩
def widxI_B1 (s : Option Addr) (s_l s_c : Nat) (f : FuncId) (f_c : List Value) (i8_1 : Int) (σ : St) (Nx : Int → St → Prop) (Qr : Int → St → Prop) (Q0 : St → Prop) : Prop := wV Pg (yG Pg) none widxI_c1 19 (zGF s s_l s_c f f_c i8_1) [] [zEF s s_l s_c f f_c Nx, zAB s s_l s_c f f_c Qr, zAC s s_l s_c f f_c Q0] σ
def widxI_L1 (s : Option Addr) (s_l s_c : Nat) (f : FuncId) (f_c : List Value) (i8_1 : Int) (σ : St) (Qr : Int → St → Prop) (Q0 : St → Prop) : Prop := vO Pg (yG Pg) none widxI_c1 19 (zGF s s_l s_c f f_c i8_1) [] [zAB s s_l s_c f f_c Qr, zAC s s_l s_c f f_c Q0] σ
theorem widxI_loop1 (hb : ∀ k i8_1 σ, Inv k i8_1 σ → widxI_B1 s s_l s_c f f_c i8_1 σ (fun i8_1' σ' => ∃ k', k' < k ∧ Inv k' i8_1' σ') Qr Q0) : ∀ k i8_1 σ, Inv k i8_1 σ → widxI_L1 s s_l s_c f f_c i8_1 σ Qr Q0 :=
 fun k i8_1 σ h => yQ (alts := [zAB s s_l s_c f f_c Qr, zAC s s_l s_c f f_c Q0]) (T := Int) (lf := fun t => zGF s s_l s_c f f_c t) (mf := fun t => []) (Inv := fun k t σ => Inv k t σ) (ai zDR (ai (zCO 0) trivial)) (fun k t σ h => hb k t σ h) k i8_1 σ h
theorem widxI_s1a (h1 : zB Pg σ 3 (zH s_a (Int.toNat i8_1 * 1)) = some (iV nA)) (h2 : zD Pg f (iV nA :: f_c) σ (.bool true) σB) (nx : Qr i8_1 σB) (u1 : i8_1 < ((s_l : Nat) : Int) := by omega) (u2 : 0 ≤ i8_1 ∧ i8_1 < ((s_l : Nat) : Int) := by omega) : widxI_B1 (some s_a) s_l s_c f f_c i8_1 σ Nx Qr Q0 :=
 zO [.b true, .g, .g, .g, .g, .g, .i, .l (iV nA), .c (.bool true) σB, .g, .g, .fin (zAB (some s_a) s_l s_c f f_c Qr) i8_1] (fun g => kc (by kernel_rfl) (ai (zY u1) (ai u2 (ai h1 (ai h2 (fin (alts := [zEF (some s_a) s_l s_c f f_c Nx, zAB (some s_a) s_l s_c f f_c Qr, zAC (some s_a) s_l s_c f f_c Q0]) (zAB (some s_a) s_l s_c f f_c Qr) i8_1 nx (inS in0)))))))
theorem widxI_s1b (h1 : zB Pg σ 3 (zH s_a (Int.toNat i8_1 * 1)) = some (iV nA)) (h2 : zD Pg f (iV nA :: f_c) σ (.bool false) σB) (nx : Nx (i8_1 + 1) σB) (u1 : i8_1 < ((s_l : Nat) : Int) := by omega) (u2 : 0 ≤ i8_1 ∧ i8_1 < ((s_l : Nat) : Int) := by omega) (u3 : -9223372036854775808 ≤ i8_1 + 1 ∧ i8_1 + 1 ≤ 9223372036854775807 := by omega) : widxI_B1 (some s_a) s_l s_c f f_c i8_1 σ Nx Qr Q0 :=
 zO [.b true, .g, .g, .g, .g, .g, .i, .l (iV nA), .c (.bool false) σB, .n (i8_1 + 1), .g, .fin (zEF (some s_a) s_l s_c f f_c Nx) (i8_1 + 1)] (fun g => kc (by kernel_rfl) (ai (zY u1) (ai u2 (ai h1 (ai h2 (ai (zU (n := i8_1 + 1) u3.1 u3.2) (fin (alts := [zEF (some s_a) s_l s_c f f_c Nx, zAB (some s_a) s_l s_c f f_c Qr, zAC (some s_a) s_l s_c f f_c Q0]) (zEF (some s_a) s_l s_c f f_c Nx) (i8_1 + 1) nx in0)))))))
theorem widxI_s1c (nx : Q0 σ) (u1 : ¬ i8_1 < ((s_l : Nat) : Int) := by omega) : widxI_B1 s s_l s_c f f_c i8_1 σ Nx Qr Q0 :=
 zO [.b false, .fin (zAC s s_l s_c f f_c Q0) ()] (fun g => kc (by kernel_rfl) (ai (yJ u1) (fin (alts := [zEF s s_l s_c f f_c Nx, zAB s s_l s_c f f_c Qr, zAC s s_l s_c f f_c Q0]) (zAC s s_l s_c f f_c Q0) () nx (inS (inS in0)))))
def widxI_K1_r (s : Option Addr) (s_l s_c : Nat) (f : FuncId) (f_c : List Value) (i4_1 : Int) (σ : St) (Q : Value → St → Prop) : Prop := ∀ g : Nat → Value, ∃ an, Hid (kAt Pg (yG Pg) none (yC Pg 95) [1, 0, 1, 0] (kFn Pg 95 Q) .ret ⟨Fm 19 (ov (widxI_l1xr s s_l s_c f f_c i4_1) g), []⟩ σ an)
def widxI_K1_0 (s : Option Addr) (s_l s_c : Nat) (f : FuncId) (f_c : List Value) (σ : St) (Q : Value → St → Prop) : Prop := ∀ g : Nat → Value, ∃ an, Hid (kAt Pg (yG Pg) none (yC Pg 95) [1, 0, 1, 0] (kFn Pg 95 Q) (.exit 0) ⟨Fm 19 (ov (widxI_l1x0 s s_l s_c f f_c) g), []⟩ σ an)
theorem widxI_ra (hL : widxI_L1 s s_l s_c f f_c 0 σ Pr P0) (kr : ∀ i4_1' σ', Pr i4_1' σ' → widxI_K1_r s s_l s_c f f_c i4_1' σ' Q) (k0 : ∀ σ', P0 σ' → widxI_K1_0 s s_l s_c f f_c σ' Q) : zN Pg 95 [.slice s s_l s_c, .func (.func f) ⟨[]⟩ ⟨f_c⟩] σ Q :=
 zK [.g, .g, .g, .g, .lf 19 (zGF s s_l s_c f f_c 0) [zAB s s_l s_c f f_c Pr, zAC s s_l s_c f f_c P0]] (kc (by kernel_rfl) (ai (ai tt (ai (arf (zGF s s_l s_c f f_c 0)) hL)) (ai (fun (t : Int) (g' : Nat → Value) (σ' : St) (q : Pr t σ') => kr t σ' q g') (ai (fun (t : Unit) (g' : Nat → Value) (σ' : St) (q : P0 σ') => k0 σ' q g') trivial))))
theorem widxI_t1xra (nx : Q (iV i4_1) σ) : widxI_K1_r s s_l s_c f f_c i4_1 σ Q :=
 fun g => ⟨[], kc (by kernel_rfl) nx⟩
theorem widxI_t1x0a (nx : Q (iV (-1)) σ) : widxI_K1_0 s s_l s_c f f_c σ Q :=
 fun g => ⟨[.g], kc (by kernel_rfl) nx⟩
end Go.Proofs.Ytmdopblmkkameaa
