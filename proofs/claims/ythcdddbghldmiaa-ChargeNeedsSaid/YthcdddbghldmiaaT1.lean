/- The first element that is right. -/
import Derived.Test.YthcdddbghldmiaaTy
namespace Go.Proofs.Ythcdddbghldmiaa
open Go Go.Lay
set_option linter.unusedVariables false
set_option maxRecDepth 20000
def idxS_tm (x0 x1 x2 x3 x4 x5 x6 x7 x8 x9 x10 x11 x12 x13 x14 x15 x16 x17 x18 : Value) : Tm := ⟨19, (.node (some x0) (.node (some undef) (.node (some undef) (.node (some undef) (.node (some undef) (.node (some undef) .leaf .leaf) (.node (some x16) .leaf .leaf)) (.node (some x8) (.node (some undef) .leaf .leaf) (.node (some undef) .leaf .leaf))) (.node (some x4) (.node (some undef) (.node (some undef) .leaf .leaf) (.node (some undef) .leaf .leaf)) (.node (some x12) (.node (some undef) .leaf .leaf) (.node (some undef) .leaf .leaf)))) (.node (some x2) (.node (some undef) (.node (some undef) (.node (some undef) .leaf .leaf) (.node (some x18) .leaf .leaf)) (.node (some x10) (.node (some undef) .leaf .leaf) (.node (some undef) .leaf .leaf))) (.node (some x6) (.node (some undef) (.node (some undef) .leaf .leaf) (.node (some undef) .leaf .leaf)) (.node (some x14) (.node (some undef) .leaf .leaf) (.node (some undef) .leaf .leaf))))) (.node (some x1) (.node (some undef) (.node (some undef) (.node (some undef) (.node (some undef) .leaf .leaf) (.node (some x17) .leaf .leaf)) (.node (some x9) (.node (some undef) .leaf .leaf) (.node (some undef) .leaf .leaf))) (.node (some x5) (.node (some undef) (.node (some undef) .leaf .leaf) (.node (some undef) .leaf .leaf)) (.node (some x13) (.node (some undef) .leaf .leaf) (.node (some undef) .leaf .leaf)))) (.node (some x3) (.node (some undef) (.node (some undef) (.node (some undef) .leaf .leaf) (.node (some undef) .leaf .leaf)) (.node (some x11) (.node (some undef) .leaf .leaf) (.node (some undef) .leaf .leaf))) (.node (some x7) (.node (some undef) (.node (some undef) .leaf .leaf) (.node (some undef) .leaf .leaf)) (.node (some x15) (.node (some undef) .leaf .leaf) (.node (some undef) .leaf .leaf))))))⟩
def idxS_fr (p : Option Addr) (len cap : Nat) (fg : FuncId) (caps : List Value) (i : Int) (g5 g9 g10 g11 g12 g13 g14 g15 g16 g17 g18 : Value) : Fr := ⟨(idxS_tm (.slice p len cap) (.func (.func fg) ⟨[]⟩ ⟨caps⟩) (.tuple ⟨[]⟩) (.tuple ⟨[]⟩) (.int .i64 0) g5 (.slice p len cap) (.int .i64 ((len : Nat) : Int)) (.int .i64 i) g9 g10 g11 g12 g13 g14 g15 g16 g17 g18), []⟩
noncomputable def idxS_c : Code := (Code.part [1, 0, 1, 0, 0] (bodyOf Try.prog 96))
theorem idxS_ret (N : Nat) (a : Addr) (len cap : Nat) (fg : FuncId) (caps : List Value) (i : Int) (g5 g9 g10 g11 g12 g13 g14 g15 g16 g17 g18 v : Value) (σ : St) (K : Exit → Fr → St → List Ans → Prop) : wpC Try.prog (runA Try.prog N) N none idxS_c [.b true, .g, .g, .g, .g, .g, .i, .l v, .c (.bool true) σ, .g, .g] (idxS_fr (some a) len cap fg caps i g5 g9 g10 g11 g12 g13 g14 g15 g16 g17 g18) σ K =
    ((ltI i ((len : Nat) : Int)) = true ∧ idxOk i len ∧ loadA Try.prog σ 94 (aadd a (Int.toNat i * 2)) = some v ∧ callA (runA Try.prog N) (.func fg) (v :: caps) σ = some (.bool true, σ) ∧ K .ret ⟨(idxS_tm (.slice (some a) len cap) (.func (.func fg) ⟨[]⟩ ⟨caps⟩) (.tuple ⟨[]⟩) (.tuple ⟨[]⟩) (.int .i64 i) (.int .i64 i) (.slice (some a) len cap) (.int .i64 ((len : Nat) : Int)) (.int .i64 i) (.bool true) (.int .i64 i) (.func (.func fg) ⟨[]⟩ ⟨caps⟩) (.slice (some a) len cap) (.int .i64 i) (.pointer (some (aadd a (Int.toNat i * 2)))) v (.bool true) (.int .i64 i) g18), []⟩ σ []) := by kernel_rfl
theorem idxS_next (N : Nat) (a : Addr) (len cap : Nat) (fg : FuncId) (caps : List Value) (i : Int) (g5 g9 g10 g11 g12 g13 g14 g15 g16 g17 g18 v : Value) (σ : St) (K : Exit → Fr → St → List Ans → Prop) : wpC Try.prog (runA Try.prog N) N none idxS_c [.b true, .g, .g, .g, .g, .g, .i, .l v, .c (.bool false) σ, .n (i + 1), .g] (idxS_fr (some a) len cap fg caps i g5 g9 g10 g11 g12 g13 g14 g15 g16 g17 g18) σ K =
    ((ltI i ((len : Nat) : Int)) = true ∧ idxOk i len ∧ loadA Try.prog σ 94 (aadd a (Int.toNat i * 2)) = some v ∧ callA (runA Try.prog N) (.func fg) (v :: caps) σ = some (.bool false, σ) ∧ wrapK .i64 (Int.add i 1) = i + 1 ∧ K .normal (idxS_fr (some a) len cap fg caps (i + 1) (.int .i64 i) (.bool true) (.int .i64 i) (.func (.func fg) ⟨[]⟩ ⟨caps⟩) (.slice (some a) len cap) (.int .i64 i) (.pointer (some (aadd a (Int.toNat i * 2)))) v (.bool false) g17 (.int .i64 (i + 1))) σ []) := by kernel_rfl
theorem idxS_end (N : Nat) (p : Option Addr) (len cap : Nat) (fg : FuncId) (caps : List Value) (i : Int) (g5 g9 g10 g11 g12 g13 g14 g15 g16 g17 g18 v : Value) (σ : St) (K : Exit → Fr → St → List Ans → Prop) : wpC Try.prog (runA Try.prog N) N none idxS_c [.b false] (idxS_fr p len cap fg caps i g5 g9 g10 g11 g12 g13 g14 g15 g16 g17 g18) σ K =
    ((ltI i ((len : Nat) : Int)) = false ∧ K (.exit 0) (idxS_fr p len cap fg caps i g5 (.bool false) g10 g11 g12 g13 g14 g15 g16 g17 g18) σ []) := by kernel_rfl
theorem idxS_loop {p : Option Addr} {len cap : Nat} {fg : FuncId} {caps vs : List Value} {bs : List Bool} {σ : St} (hs : SlV Try.prog σ 94 2 p len vs) (hlen : len ≤ 1073741824) (hb : bs.length = len)
    (hc : ∀ (i : Nat) v b, vs[i]? = some v → bs[i]? = some b → CallsA Try.prog fg (v :: caps) σ (.bool b) σ) : ∀ (k i : Nat), i + k = len → ∀ (g5 g9 g10 g11 g12 g13 g14 g15 g16 g17 g18 : Value),
    (firstTrue (bs.drop i) i = -1 ∧ ∃ y5 y9 y10 y11 y12 y13 y14 y15 y16 y17 y18, LoopE Try.prog none idxS_c (idxS_fr p len cap fg caps i g5 g9 g10 g11 g12 g13 g14 g15 g16 g17 g18) σ (.exit 0) (idxS_fr p len cap fg caps len y5 y9 y10 y11 y12 y13 y14 y15 y16 y17 y18) σ) ∨
    (∃ tm : Tm, tm.nth 4 = .int .i64 (firstTrue (bs.drop i) i) ∧ LoopE Try.prog none idxS_c (idxS_fr p len cap fg caps i g5 g9 g10 g11 g12 g13 g14 g15 g16 g17 g18) σ .ret ⟨tm, []⟩ σ) := by
  intro k
  induction k with
  | zero =>
    intro i hi g5 g9 g10 g11 g12 g13 g14 g15 g16 g17 g18
    have hi : i = len := hi
    subst hi
    refine .inl ⟨by rw [List.drop_of_length_le (by omega)]; rfl, _, _, _, _, _, _, _, _, _, _, _, LoopE.exit (code_of ⟨0, fun N _ => ⟨_, (idxS_end N p i cap fg caps i g5 g9 g10 g11 g12 g13 g14 g15 g16 g17 g18 undef σ _).mpr ⟨?_, rfl, rfl, rfl⟩⟩⟩) (by simp)⟩
    rw [ltI_eq]; simp
  | succ k ih =>
    intro i hi g5 g9 g10 g11 g12 g13 g14 g15 g16 g17 g18
    obtain ⟨a, rfl, hr⟩ := hs.some (i := i) (by omega)
    obtain ⟨v, hv⟩ : ∃ v, vs[i]? = some v := ⟨vs[i]'(by have := hs.2.1; omega), by simp⟩
    obtain ⟨b, hbi⟩ : ∃ b, bs[i]? = some b := ⟨bs[i]'(by omega), by simp⟩
    have hld := hs.at rfl hv
    obtain ⟨N1, c1⟩ := hc i v b hv hbi
    have hdrop : bs.drop i = b :: bs.drop (i + 1) := by
      rw [List.drop_eq_getElem_cons (by omega)]
      have := (List.getElem?_eq_some_iff.1 hbi).2
      rw [this]
    have hlt : ltI i len = true := (ltI_iff _ _).2 (by omega)
    have hx : idxOk i len := ⟨by omega, by omega⟩
    rw [hdrop]
    cases b with
    | true =>
      exact .inr ⟨_, rfl, LoopE.exit (code_of ⟨N1, fun N hN => ⟨_, (idxS_ret N a len cap fg caps i g5 g9 g10 g11 g12 g13 g14 g15 g16 g17 g18 v σ _).mpr ⟨hlt, hx, hld, c1 N hN, rfl, rfl, rfl⟩⟩⟩) (by simp)⟩
    | false =>
      have hstep : ∀ e fr' σ', LoopE Try.prog none idxS_c _ σ e fr' σ' → LoopE Try.prog none idxS_c (idxS_fr (some a) len cap fg caps i g5 g9 g10 g11 g12 g13 g14 g15 g16 g17 g18) σ e fr' σ' := fun e fr' σ' hl =>
        LoopE.step (code_of ⟨N1, fun N hN => ⟨_, (idxS_next N a len cap fg caps i g5 g9 g10 g11 g12 g13 g14 g15 g16 g17 g18 v σ _).mpr ⟨hlt, hx, hld, c1 N hN, wrap64 (n := (i : Int) + 1) (by omega) (by omega), rfl, rfl, rfl⟩⟩⟩) hl
      have e1 : ((i : Int) + 1) = ((i + 1 : Nat) : Int) := by omega
      rw [e1] at hstep
      rcases ih (i + 1) (by omega) _ _ _ _ _ _ _ _ _ _ _ with ⟨h1, y5, y9, y10, y11, y12, y13, y14, y15, y16, y17, y18, h2⟩ | ⟨tm, h1, h2⟩
      · exact .inl ⟨h1, _, _, _, _, _, _, _, _, _, _, _, hstep _ _ _ h2⟩
      · exact .inr ⟨tm, h1, hstep _ _ _ h2⟩
theorem idxS_wa (N : Nat) (p : Option Addr) (len cap : Nat) (fg : FuncId) (caps : List Value) (y5 y9 y10 y11 y12 y13 y14 y15 y16 y17 y18 : Value) (tm : Tm) (σ : St) (K : Value → St → Prop) : wpFn Try.prog N 96 [.slice p len cap, .func (.func fg) ⟨[]⟩ ⟨caps⟩] [.g, .g, .g, .g, .lp (.exit 0) (idxS_fr p len cap fg caps len y5 y9 y10 y11 y12 y13 y14 y15 y16 y17 y18) σ, .g] σ K =
    (loopA (codeA Try.prog (runA Try.prog N) N none idxS_c) N (idxS_fr p len cap fg caps 0 (.tuple ⟨[]⟩) (.tuple ⟨[]⟩) (.tuple ⟨[]⟩) (.tuple ⟨[]⟩) (.tuple ⟨[]⟩) (.tuple ⟨[]⟩) (.tuple ⟨[]⟩) (.tuple ⟨[]⟩) (.tuple ⟨[]⟩) (.tuple ⟨[]⟩) (.tuple ⟨[]⟩)) σ = some (.exit 0, idxS_fr p len cap fg caps len y5 y9 y10 y11 y12 y13 y14 y15 y16 y17 y18, σ) ∧ K (.int .i64 (-1)) σ) := by kernel_rfl
theorem idxS_wb (N : Nat) (p : Option Addr) (len cap : Nat) (fg : FuncId) (caps : List Value) (y5 y9 y10 y11 y12 y13 y14 y15 y16 y17 y18 : Value) (tm : Tm) (σ : St) (K : Value → St → Prop) : wpFn Try.prog N 96 [.slice p len cap, .func (.func fg) ⟨[]⟩ ⟨caps⟩] [.g, .g, .g, .g, .lp .ret ⟨tm, []⟩ σ] σ K =
    (loopA (codeA Try.prog (runA Try.prog N) N none idxS_c) N (idxS_fr p len cap fg caps 0 (.tuple ⟨[]⟩) (.tuple ⟨[]⟩) (.tuple ⟨[]⟩) (.tuple ⟨[]⟩) (.tuple ⟨[]⟩) (.tuple ⟨[]⟩) (.tuple ⟨[]⟩) (.tuple ⟨[]⟩) (.tuple ⟨[]⟩) (.tuple ⟨[]⟩) (.tuple ⟨[]⟩)) σ = some (.ret, ⟨tm, []⟩, σ) ∧ K (tm.nth 4) σ) := by kernel_rfl
theorem idxS_run {p : Option Addr} {len cap : Nat} {fg : FuncId} {caps vs : List Value} {bs : List Bool} {σ : St} (hs : SlV Try.prog σ 94 2 p len vs) (hlen : len ≤ 1073741824) (hb : bs.length = len)
    (hc : ∀ (i : Nat) v b, vs[i]? = some v → bs[i]? = some b → CallsA Try.prog fg (v :: caps) σ (.bool b) σ) : RunsPure Try.prog 96 [.slice p len cap, .func (.func fg) ⟨[]⟩ ⟨caps⟩] σ (.int .i64 (firstTrue bs 0)) := by
  rcases idxS_loop (cap := cap) hs hlen hb hc len 0 (by omega) undef undef undef undef undef undef undef undef undef undef undef with ⟨h1, y5, y9, y10, y11, y12, y13, y14, y15, y16, y17, y18, N0, h2⟩ | ⟨tm, h1, N0, h2⟩
  · rw [List.drop_zero] at h1
    exact ⟨σ, fun h => h, runs_of ⟨N0, fun N hN => ⟨_, (idxS_wa N p len cap fg caps y5 y9 y10 y11 y12 y13 y14 y15 y16 y17 y18 default σ _).mpr ⟨h2 N N hN hN, by rw [show firstTrue bs 0 = -1 from h1], rfl⟩⟩⟩⟩
  · rw [List.drop_zero] at h1
    exact ⟨σ, fun h => h, runs_of ⟨N0, fun N hN => ⟨_, (idxS_wb N p len cap fg caps undef undef undef undef undef undef undef undef undef undef undef tm σ _).mpr ⟨h2 N N hN hN, h1, rfl⟩⟩⟩⟩
def idxB_tm (x0 x1 x2 x3 x4 x5 x6 x7 x8 x9 x10 x11 x12 x13 x14 x15 x16 x17 x18 : Value) : Tm := ⟨19, (.node (some x0) (.node (some undef) (.node (some undef) (.node (some undef) (.node (some undef) (.node (some undef) .leaf .leaf) (.node (some x16) .leaf .leaf)) (.node (some x8) (.node (some undef) .leaf .leaf) (.node (some undef) .leaf .leaf))) (.node (some x4) (.node (some undef) (.node (some undef) .leaf .leaf) (.node (some undef) .leaf .leaf)) (.node (some x12) (.node (some undef) .leaf .leaf) (.node (some undef) .leaf .leaf)))) (.node (some x2) (.node (some undef) (.node (some undef) (.node (some undef) .leaf .leaf) (.node (some x18) .leaf .leaf)) (.node (some x10) (.node (some undef) .leaf .leaf) (.node (some undef) .leaf .leaf))) (.node (some x6) (.node (some undef) (.node (some undef) .leaf .leaf) (.node (some undef) .leaf .leaf)) (.node (some x14) (.node (some undef) .leaf .leaf) (.node (some undef) .leaf .leaf))))) (.node (some x1) (.node (some undef) (.node (some undef) (.node (some undef) (.node (some undef) .leaf .leaf) (.node (some x17) .leaf .leaf)) (.node (some x9) (.node (some undef) .leaf .leaf) (.node (some undef) .leaf .leaf))) (.node (some x5) (.node (some undef) (.node (some undef) .leaf .leaf) (.node (some undef) .leaf .leaf)) (.node (some x13) (.node (some undef) .leaf .leaf) (.node (some undef) .leaf .leaf)))) (.node (some x3) (.node (some undef) (.node (some undef) (.node (some undef) .leaf .leaf) (.node (some undef) .leaf .leaf)) (.node (some x11) (.node (some undef) .leaf .leaf) (.node (some undef) .leaf .leaf))) (.node (some x7) (.node (some undef) (.node (some undef) .leaf .leaf) (.node (some undef) .leaf .leaf)) (.node (some x15) (.node (some undef) .leaf .leaf) (.node (some undef) .leaf .leaf))))))⟩
def idxB_fr (p : Option Addr) (len cap : Nat) (fg : FuncId) (caps : List Value) (i : Int) (g5 g9 g10 g11 g12 g13 g14 g15 g16 g17 g18 : Value) : Fr := ⟨(idxB_tm (.slice p len cap) (.func (.func fg) ⟨[]⟩ ⟨caps⟩) (.tuple ⟨[]⟩) (.tuple ⟨[]⟩) (.int .i64 0) g5 (.slice p len cap) (.int .i64 ((len : Nat) : Int)) (.int .i64 i) g9 g10 g11 g12 g13 g14 g15 g16 g17 g18), []⟩
noncomputable def idxB_c : Code := (Code.part [1, 0, 1, 0, 0] (bodyOf Try.prog 97))
theorem idxB_ret (N : Nat) (a : Addr) (len cap : Nat) (fg : FuncId) (caps : List Value) (i : Int) (g5 g9 g10 g11 g12 g13 g14 g15 g16 g17 g18 v : Value) (σ : St) (K : Exit → Fr → St → List Ans → Prop) : wpC Try.prog (runA Try.prog N) N none idxB_c [.b true, .g, .g, .g, .g, .g, .i, .l v, .c (.bool true) σ, .g, .g] (idxB_fr (some a) len cap fg caps i g5 g9 g10 g11 g12 g13 g14 g15 g16 g17 g18) σ K =
    ((ltI i ((len : Nat) : Int)) = true ∧ idxOk i len ∧ loadA Try.prog σ 97 (aadd a (Int.toNat i * 9)) = some v ∧ callA (runA Try.prog N) (.func fg) (v :: caps) σ = some (.bool true, σ) ∧ K .ret ⟨(idxB_tm (.slice (some a) len cap) (.func (.func fg) ⟨[]⟩ ⟨caps⟩) (.tuple ⟨[]⟩) (.tuple ⟨[]⟩) (.int .i64 i) (.int .i64 i) (.slice (some a) len cap) (.int .i64 ((len : Nat) : Int)) (.int .i64 i) (.bool true) (.int .i64 i) (.func (.func fg) ⟨[]⟩ ⟨caps⟩) (.slice (some a) len cap) (.int .i64 i) (.pointer (some (aadd a (Int.toNat i * 9)))) v (.bool true) (.int .i64 i) g18), []⟩ σ []) := by kernel_rfl
theorem idxB_next (N : Nat) (a : Addr) (len cap : Nat) (fg : FuncId) (caps : List Value) (i : Int) (g5 g9 g10 g11 g12 g13 g14 g15 g16 g17 g18 v : Value) (σ : St) (K : Exit → Fr → St → List Ans → Prop) : wpC Try.prog (runA Try.prog N) N none idxB_c [.b true, .g, .g, .g, .g, .g, .i, .l v, .c (.bool false) σ, .n (i + 1), .g] (idxB_fr (some a) len cap fg caps i g5 g9 g10 g11 g12 g13 g14 g15 g16 g17 g18) σ K =
    ((ltI i ((len : Nat) : Int)) = true ∧ idxOk i len ∧ loadA Try.prog σ 97 (aadd a (Int.toNat i * 9)) = some v ∧ callA (runA Try.prog N) (.func fg) (v :: caps) σ = some (.bool false, σ) ∧ wrapK .i64 (Int.add i 1) = i + 1 ∧ K .normal (idxB_fr (some a) len cap fg caps (i + 1) (.int .i64 i) (.bool true) (.int .i64 i) (.func (.func fg) ⟨[]⟩ ⟨caps⟩) (.slice (some a) len cap) (.int .i64 i) (.pointer (some (aadd a (Int.toNat i * 9)))) v (.bool false) g17 (.int .i64 (i + 1))) σ []) := by kernel_rfl
theorem idxB_end (N : Nat) (p : Option Addr) (len cap : Nat) (fg : FuncId) (caps : List Value) (i : Int) (g5 g9 g10 g11 g12 g13 g14 g15 g16 g17 g18 v : Value) (σ : St) (K : Exit → Fr → St → List Ans → Prop) : wpC Try.prog (runA Try.prog N) N none idxB_c [.b false] (idxB_fr p len cap fg caps i g5 g9 g10 g11 g12 g13 g14 g15 g16 g17 g18) σ K =
    ((ltI i ((len : Nat) : Int)) = false ∧ K (.exit 0) (idxB_fr p len cap fg caps i g5 (.bool false) g10 g11 g12 g13 g14 g15 g16 g17 g18) σ []) := by kernel_rfl
theorem idxB_loop {p : Option Addr} {len cap : Nat} {fg : FuncId} {caps vs : List Value} {bs : List Bool} {σ : St} (hs : SlV Try.prog σ 97 9 p len vs) (hlen : len ≤ 1073741824) (hb : bs.length = len)
    (hc : ∀ (i : Nat) v b, vs[i]? = some v → bs[i]? = some b → CallsA Try.prog fg (v :: caps) σ (.bool b) σ) : ∀ (k i : Nat), i + k = len → ∀ (g5 g9 g10 g11 g12 g13 g14 g15 g16 g17 g18 : Value),
    (firstTrue (bs.drop i) i = -1 ∧ ∃ y5 y9 y10 y11 y12 y13 y14 y15 y16 y17 y18, LoopE Try.prog none idxB_c (idxB_fr p len cap fg caps i g5 g9 g10 g11 g12 g13 g14 g15 g16 g17 g18) σ (.exit 0) (idxB_fr p len cap fg caps len y5 y9 y10 y11 y12 y13 y14 y15 y16 y17 y18) σ) ∨
    (∃ tm : Tm, tm.nth 4 = .int .i64 (firstTrue (bs.drop i) i) ∧ LoopE Try.prog none idxB_c (idxB_fr p len cap fg caps i g5 g9 g10 g11 g12 g13 g14 g15 g16 g17 g18) σ .ret ⟨tm, []⟩ σ) := by
  intro k
  induction k with
  | zero =>
    intro i hi g5 g9 g10 g11 g12 g13 g14 g15 g16 g17 g18
    have hi : i = len := hi
    subst hi
    refine .inl ⟨by rw [List.drop_of_length_le (by omega)]; rfl, _, _, _, _, _, _, _, _, _, _, _, LoopE.exit (code_of ⟨0, fun N _ => ⟨_, (idxB_end N p i cap fg caps i g5 g9 g10 g11 g12 g13 g14 g15 g16 g17 g18 undef σ _).mpr ⟨?_, rfl, rfl, rfl⟩⟩⟩) (by simp)⟩
    rw [ltI_eq]; simp
  | succ k ih =>
    intro i hi g5 g9 g10 g11 g12 g13 g14 g15 g16 g17 g18
    obtain ⟨a, rfl, hr⟩ := hs.some (i := i) (by omega)
    obtain ⟨v, hv⟩ : ∃ v, vs[i]? = some v := ⟨vs[i]'(by have := hs.2.1; omega), by simp⟩
    obtain ⟨b, hbi⟩ : ∃ b, bs[i]? = some b := ⟨bs[i]'(by omega), by simp⟩
    have hld := hs.at rfl hv
    obtain ⟨N1, c1⟩ := hc i v b hv hbi
    have hdrop : bs.drop i = b :: bs.drop (i + 1) := by
      rw [List.drop_eq_getElem_cons (by omega)]
      have := (List.getElem?_eq_some_iff.1 hbi).2
      rw [this]
    have hlt : ltI i len = true := (ltI_iff _ _).2 (by omega)
    have hx : idxOk i len := ⟨by omega, by omega⟩
    rw [hdrop]
    cases b with
    | true =>
      exact .inr ⟨_, rfl, LoopE.exit (code_of ⟨N1, fun N hN => ⟨_, (idxB_ret N a len cap fg caps i g5 g9 g10 g11 g12 g13 g14 g15 g16 g17 g18 v σ _).mpr ⟨hlt, hx, hld, c1 N hN, rfl, rfl, rfl⟩⟩⟩) (by simp)⟩
    | false =>
      have hstep : ∀ e fr' σ', LoopE Try.prog none idxB_c _ σ e fr' σ' → LoopE Try.prog none idxB_c (idxB_fr (some a) len cap fg caps i g5 g9 g10 g11 g12 g13 g14 g15 g16 g17 g18) σ e fr' σ' := fun e fr' σ' hl =>
        LoopE.step (code_of ⟨N1, fun N hN => ⟨_, (idxB_next N a len cap fg caps i g5 g9 g10 g11 g12 g13 g14 g15 g16 g17 g18 v σ _).mpr ⟨hlt, hx, hld, c1 N hN, wrap64 (n := (i : Int) + 1) (by omega) (by omega), rfl, rfl, rfl⟩⟩⟩) hl
      have e1 : ((i : Int) + 1) = ((i + 1 : Nat) : Int) := by omega
      rw [e1] at hstep
      rcases ih (i + 1) (by omega) _ _ _ _ _ _ _ _ _ _ _ with ⟨h1, y5, y9, y10, y11, y12, y13, y14, y15, y16, y17, y18, h2⟩ | ⟨tm, h1, h2⟩
      · exact .inl ⟨h1, _, _, _, _, _, _, _, _, _, _, _, hstep _ _ _ h2⟩
      · exact .inr ⟨tm, h1, hstep _ _ _ h2⟩
theorem idxB_wa (N : Nat) (p : Option Addr) (len cap : Nat) (fg : FuncId) (caps : List Value) (y5 y9 y10 y11 y12 y13 y14 y15 y16 y17 y18 : Value) (tm : Tm) (σ : St) (K : Value → St → Prop) : wpFn Try.prog N 97 [.slice p len cap, .func (.func fg) ⟨[]⟩ ⟨caps⟩] [.g, .g, .g, .g, .lp (.exit 0) (idxB_fr p len cap fg caps len y5 y9 y10 y11 y12 y13 y14 y15 y16 y17 y18) σ, .g] σ K =
    (loopA (codeA Try.prog (runA Try.prog N) N none idxB_c) N (idxB_fr p len cap fg caps 0 (.tuple ⟨[]⟩) (.tuple ⟨[]⟩) (.tuple ⟨[]⟩) (.tuple ⟨[]⟩) (.tuple ⟨[]⟩) (.tuple ⟨[]⟩) (.tuple ⟨[]⟩) (.tuple ⟨[]⟩) (.tuple ⟨[]⟩) (.tuple ⟨[]⟩) (.tuple ⟨[]⟩)) σ = some (.exit 0, idxB_fr p len cap fg caps len y5 y9 y10 y11 y12 y13 y14 y15 y16 y17 y18, σ) ∧ K (.int .i64 (-1)) σ) := by kernel_rfl
theorem idxB_wb (N : Nat) (p : Option Addr) (len cap : Nat) (fg : FuncId) (caps : List Value) (y5 y9 y10 y11 y12 y13 y14 y15 y16 y17 y18 : Value) (tm : Tm) (σ : St) (K : Value → St → Prop) : wpFn Try.prog N 97 [.slice p len cap, .func (.func fg) ⟨[]⟩ ⟨caps⟩] [.g, .g, .g, .g, .lp .ret ⟨tm, []⟩ σ] σ K =
    (loopA (codeA Try.prog (runA Try.prog N) N none idxB_c) N (idxB_fr p len cap fg caps 0 (.tuple ⟨[]⟩) (.tuple ⟨[]⟩) (.tuple ⟨[]⟩) (.tuple ⟨[]⟩) (.tuple ⟨[]⟩) (.tuple ⟨[]⟩) (.tuple ⟨[]⟩) (.tuple ⟨[]⟩) (.tuple ⟨[]⟩) (.tuple ⟨[]⟩) (.tuple ⟨[]⟩)) σ = some (.ret, ⟨tm, []⟩, σ) ∧ K (tm.nth 4) σ) := by kernel_rfl
theorem idxB_run {p : Option Addr} {len cap : Nat} {fg : FuncId} {caps vs : List Value} {bs : List Bool} {σ : St} (hs : SlV Try.prog σ 97 9 p len vs) (hlen : len ≤ 1073741824) (hb : bs.length = len)
    (hc : ∀ (i : Nat) v b, vs[i]? = some v → bs[i]? = some b → CallsA Try.prog fg (v :: caps) σ (.bool b) σ) : RunsPure Try.prog 97 [.slice p len cap, .func (.func fg) ⟨[]⟩ ⟨caps⟩] σ (.int .i64 (firstTrue bs 0)) := by
  rcases idxB_loop (cap := cap) hs hlen hb hc len 0 (by omega) undef undef undef undef undef undef undef undef undef undef undef with ⟨h1, y5, y9, y10, y11, y12, y13, y14, y15, y16, y17, y18, N0, h2⟩ | ⟨tm, h1, N0, h2⟩
  · rw [List.drop_zero] at h1
    exact ⟨σ, fun h => h, runs_of ⟨N0, fun N hN => ⟨_, (idxB_wa N p len cap fg caps y5 y9 y10 y11 y12 y13 y14 y15 y16 y17 y18 default σ _).mpr ⟨h2 N N hN hN, by rw [show firstTrue bs 0 = -1 from h1], rfl⟩⟩⟩⟩
  · rw [List.drop_zero] at h1
    exact ⟨σ, fun h => h, runs_of ⟨N0, fun N hN => ⟨_, (idxB_wb N p len cap fg caps undef undef undef undef undef undef undef undef undef undef undef tm σ _).mpr ⟨h2 N N hN hN, h1, rfl⟩⟩⟩⟩
def idxI_tm (x0 x1 x2 x3 x4 x5 x6 x7 x8 x9 x10 x11 x12 x13 x14 x15 x16 x17 x18 : Value) : Tm := ⟨19, (.node (some x0) (.node (some undef) (.node (some undef) (.node (some undef) (.node (some undef) (.node (some undef) .leaf .leaf) (.node (some x16) .leaf .leaf)) (.node (some x8) (.node (some undef) .leaf .leaf) (.node (some undef) .leaf .leaf))) (.node (some x4) (.node (some undef) (.node (some undef) .leaf .leaf) (.node (some undef) .leaf .leaf)) (.node (some x12) (.node (some undef) .leaf .leaf) (.node (some undef) .leaf .leaf)))) (.node (some x2) (.node (some undef) (.node (some undef) (.node (some undef) .leaf .leaf) (.node (some x18) .leaf .leaf)) (.node (some x10) (.node (some undef) .leaf .leaf) (.node (some undef) .leaf .leaf))) (.node (some x6) (.node (some undef) (.node (some undef) .leaf .leaf) (.node (some undef) .leaf .leaf)) (.node (some x14) (.node (some undef) .leaf .leaf) (.node (some undef) .leaf .leaf))))) (.node (some x1) (.node (some undef) (.node (some undef) (.node (some undef) (.node (some undef) .leaf .leaf) (.node (some x17) .leaf .leaf)) (.node (some x9) (.node (some undef) .leaf .leaf) (.node (some undef) .leaf .leaf))) (.node (some x5) (.node (some undef) (.node (some undef) .leaf .leaf) (.node (some undef) .leaf .leaf)) (.node (some x13) (.node (some undef) .leaf .leaf) (.node (some undef) .leaf .leaf)))) (.node (some x3) (.node (some undef) (.node (some undef) (.node (some undef) .leaf .leaf) (.node (some undef) .leaf .leaf)) (.node (some x11) (.node (some undef) .leaf .leaf) (.node (some undef) .leaf .leaf))) (.node (some x7) (.node (some undef) (.node (some undef) .leaf .leaf) (.node (some undef) .leaf .leaf)) (.node (some x15) (.node (some undef) .leaf .leaf) (.node (some undef) .leaf .leaf))))))⟩
def idxI_fr (p : Option Addr) (len cap : Nat) (fg : FuncId) (caps : List Value) (i : Int) (g5 g9 g10 g11 g12 g13 g14 g15 g16 g17 g18 : Value) : Fr := ⟨(idxI_tm (.slice p len cap) (.func (.func fg) ⟨[]⟩ ⟨caps⟩) (.tuple ⟨[]⟩) (.tuple ⟨[]⟩) (.int .i64 0) g5 (.slice p len cap) (.int .i64 ((len : Nat) : Int)) (.int .i64 i) g9 g10 g11 g12 g13 g14 g15 g16 g17 g18), []⟩
noncomputable def idxI_c : Code := (Code.part [1, 0, 1, 0, 0] (bodyOf Try.prog 94))
theorem idxI_ret (N : Nat) (a : Addr) (len cap : Nat) (fg : FuncId) (caps : List Value) (i : Int) (g5 g9 g10 g11 g12 g13 g14 g15 g16 g17 g18 v : Value) (σ : St) (K : Exit → Fr → St → List Ans → Prop) : wpC Try.prog (runA Try.prog N) N none idxI_c [.b true, .g, .g, .g, .g, .g, .i, .l v, .c (.bool true) σ, .g, .g] (idxI_fr (some a) len cap fg caps i g5 g9 g10 g11 g12 g13 g14 g15 g16 g17 g18) σ K =
    ((ltI i ((len : Nat) : Int)) = true ∧ idxOk i len ∧ loadA Try.prog σ 3 (aadd a (Int.toNat i * 1)) = some v ∧ callA (runA Try.prog N) (.func fg) (v :: caps) σ = some (.bool true, σ) ∧ K .ret ⟨(idxI_tm (.slice (some a) len cap) (.func (.func fg) ⟨[]⟩ ⟨caps⟩) (.tuple ⟨[]⟩) (.tuple ⟨[]⟩) (.int .i64 i) (.int .i64 i) (.slice (some a) len cap) (.int .i64 ((len : Nat) : Int)) (.int .i64 i) (.bool true) (.int .i64 i) (.func (.func fg) ⟨[]⟩ ⟨caps⟩) (.slice (some a) len cap) (.int .i64 i) (.pointer (some (aadd a (Int.toNat i * 1)))) v (.bool true) (.int .i64 i) g18), []⟩ σ []) := by kernel_rfl
theorem idxI_next (N : Nat) (a : Addr) (len cap : Nat) (fg : FuncId) (caps : List Value) (i : Int) (g5 g9 g10 g11 g12 g13 g14 g15 g16 g17 g18 v : Value) (σ : St) (K : Exit → Fr → St → List Ans → Prop) : wpC Try.prog (runA Try.prog N) N none idxI_c [.b true, .g, .g, .g, .g, .g, .i, .l v, .c (.bool false) σ, .n (i + 1), .g] (idxI_fr (some a) len cap fg caps i g5 g9 g10 g11 g12 g13 g14 g15 g16 g17 g18) σ K =
    ((ltI i ((len : Nat) : Int)) = true ∧ idxOk i len ∧ loadA Try.prog σ 3 (aadd a (Int.toNat i * 1)) = some v ∧ callA (runA Try.prog N) (.func fg) (v :: caps) σ = some (.bool false, σ) ∧ wrapK .i64 (Int.add i 1) = i + 1 ∧ K .normal (idxI_fr (some a) len cap fg caps (i + 1) (.int .i64 i) (.bool true) (.int .i64 i) (.func (.func fg) ⟨[]⟩ ⟨caps⟩) (.slice (some a) len cap) (.int .i64 i) (.pointer (some (aadd a (Int.toNat i * 1)))) v (.bool false) g17 (.int .i64 (i + 1))) σ []) := by kernel_rfl
theorem idxI_end (N : Nat) (p : Option Addr) (len cap : Nat) (fg : FuncId) (caps : List Value) (i : Int) (g5 g9 g10 g11 g12 g13 g14 g15 g16 g17 g18 v : Value) (σ : St) (K : Exit → Fr → St → List Ans → Prop) : wpC Try.prog (runA Try.prog N) N none idxI_c [.b false] (idxI_fr p len cap fg caps i g5 g9 g10 g11 g12 g13 g14 g15 g16 g17 g18) σ K =
    ((ltI i ((len : Nat) : Int)) = false ∧ K (.exit 0) (idxI_fr p len cap fg caps i g5 (.bool false) g10 g11 g12 g13 g14 g15 g16 g17 g18) σ []) := by kernel_rfl
theorem idxI_loop {p : Option Addr} {len cap : Nat} {fg : FuncId} {caps vs : List Value} {bs : List Bool} {σ : St} (hs : SlV Try.prog σ 3 1 p len vs) (hlen : len ≤ 1073741824) (hb : bs.length = len)
    (hc : ∀ (i : Nat) v b, vs[i]? = some v → bs[i]? = some b → CallsA Try.prog fg (v :: caps) σ (.bool b) σ) : ∀ (k i : Nat), i + k = len → ∀ (g5 g9 g10 g11 g12 g13 g14 g15 g16 g17 g18 : Value),
    (firstTrue (bs.drop i) i = -1 ∧ ∃ y5 y9 y10 y11 y12 y13 y14 y15 y16 y17 y18, LoopE Try.prog none idxI_c (idxI_fr p len cap fg caps i g5 g9 g10 g11 g12 g13 g14 g15 g16 g17 g18) σ (.exit 0) (idxI_fr p len cap fg caps len y5 y9 y10 y11 y12 y13 y14 y15 y16 y17 y18) σ) ∨
    (∃ tm : Tm, tm.nth 4 = .int .i64 (firstTrue (bs.drop i) i) ∧ LoopE Try.prog none idxI_c (idxI_fr p len cap fg caps i g5 g9 g10 g11 g12 g13 g14 g15 g16 g17 g18) σ .ret ⟨tm, []⟩ σ) := by
  intro k
  induction k with
  | zero =>
    intro i hi g5 g9 g10 g11 g12 g13 g14 g15 g16 g17 g18
    have hi : i = len := hi
    subst hi
    refine .inl ⟨by rw [List.drop_of_length_le (by omega)]; rfl, _, _, _, _, _, _, _, _, _, _, _, LoopE.exit (code_of ⟨0, fun N _ => ⟨_, (idxI_end N p i cap fg caps i g5 g9 g10 g11 g12 g13 g14 g15 g16 g17 g18 undef σ _).mpr ⟨?_, rfl, rfl, rfl⟩⟩⟩) (by simp)⟩
    rw [ltI_eq]; simp
  | succ k ih =>
    intro i hi g5 g9 g10 g11 g12 g13 g14 g15 g16 g17 g18
    obtain ⟨a, rfl, hr⟩ := hs.some (i := i) (by omega)
    obtain ⟨v, hv⟩ : ∃ v, vs[i]? = some v := ⟨vs[i]'(by have := hs.2.1; omega), by simp⟩
    obtain ⟨b, hbi⟩ : ∃ b, bs[i]? = some b := ⟨bs[i]'(by omega), by simp⟩
    have hld := hs.at rfl hv
    obtain ⟨N1, c1⟩ := hc i v b hv hbi
    have hdrop : bs.drop i = b :: bs.drop (i + 1) := by
      rw [List.drop_eq_getElem_cons (by omega)]
      have := (List.getElem?_eq_some_iff.1 hbi).2
      rw [this]
    have hlt : ltI i len = true := (ltI_iff _ _).2 (by omega)
    have hx : idxOk i len := ⟨by omega, by omega⟩
    rw [hdrop]
    cases b with
    | true =>
      exact .inr ⟨_, rfl, LoopE.exit (code_of ⟨N1, fun N hN => ⟨_, (idxI_ret N a len cap fg caps i g5 g9 g10 g11 g12 g13 g14 g15 g16 g17 g18 v σ _).mpr ⟨hlt, hx, hld, c1 N hN, rfl, rfl, rfl⟩⟩⟩) (by simp)⟩
    | false =>
      have hstep : ∀ e fr' σ', LoopE Try.prog none idxI_c _ σ e fr' σ' → LoopE Try.prog none idxI_c (idxI_fr (some a) len cap fg caps i g5 g9 g10 g11 g12 g13 g14 g15 g16 g17 g18) σ e fr' σ' := fun e fr' σ' hl =>
        LoopE.step (code_of ⟨N1, fun N hN => ⟨_, (idxI_next N a len cap fg caps i g5 g9 g10 g11 g12 g13 g14 g15 g16 g17 g18 v σ _).mpr ⟨hlt, hx, hld, c1 N hN, wrap64 (n := (i : Int) + 1) (by omega) (by omega), rfl, rfl, rfl⟩⟩⟩) hl
      have e1 : ((i : Int) + 1) = ((i + 1 : Nat) : Int) := by omega
      rw [e1] at hstep
      rcases ih (i + 1) (by omega) _ _ _ _ _ _ _ _ _ _ _ with ⟨h1, y5, y9, y10, y11, y12, y13, y14, y15, y16, y17, y18, h2⟩ | ⟨tm, h1, h2⟩
      · exact .inl ⟨h1, _, _, _, _, _, _, _, _, _, _, _, hstep _ _ _ h2⟩
      · exact .inr ⟨tm, h1, hstep _ _ _ h2⟩
theorem idxI_wa (N : Nat) (p : Option Addr) (len cap : Nat) (fg : FuncId) (caps : List Value) (y5 y9 y10 y11 y12 y13 y14 y15 y16 y17 y18 : Value) (tm : Tm) (σ : St) (K : Value → St → Prop) : wpFn Try.prog N 94 [.slice p len cap, .func (.func fg) ⟨[]⟩ ⟨caps⟩] [.g, .g, .g, .g, .lp (.exit 0) (idxI_fr p len cap fg caps len y5 y9 y10 y11 y12 y13 y14 y15 y16 y17 y18) σ, .g] σ K =
    (loopA (codeA Try.prog (runA Try.prog N) N none idxI_c) N (idxI_fr p len cap fg caps 0 (.tuple ⟨[]⟩) (.tuple ⟨[]⟩) (.tuple ⟨[]⟩) (.tuple ⟨[]⟩) (.tuple ⟨[]⟩) (.tuple ⟨[]⟩) (.tuple ⟨[]⟩) (.tuple ⟨[]⟩) (.tuple ⟨[]⟩) (.tuple ⟨[]⟩) (.tuple ⟨[]⟩)) σ = some (.exit 0, idxI_fr p len cap fg caps len y5 y9 y10 y11 y12 y13 y14 y15 y16 y17 y18, σ) ∧ K (.int .i64 (-1)) σ) := by kernel_rfl
theorem idxI_wb (N : Nat) (p : Option Addr) (len cap : Nat) (fg : FuncId) (caps : List Value) (y5 y9 y10 y11 y12 y13 y14 y15 y16 y17 y18 : Value) (tm : Tm) (σ : St) (K : Value → St → Prop) : wpFn Try.prog N 94 [.slice p len cap, .func (.func fg) ⟨[]⟩ ⟨caps⟩] [.g, .g, .g, .g, .lp .ret ⟨tm, []⟩ σ] σ K =
    (loopA (codeA Try.prog (runA Try.prog N) N none idxI_c) N (idxI_fr p len cap fg caps 0 (.tuple ⟨[]⟩) (.tuple ⟨[]⟩) (.tuple ⟨[]⟩) (.tuple ⟨[]⟩) (.tuple ⟨[]⟩) (.tuple ⟨[]⟩) (.tuple ⟨[]⟩) (.tuple ⟨[]⟩) (.tuple ⟨[]⟩) (.tuple ⟨[]⟩) (.tuple ⟨[]⟩)) σ = some (.ret, ⟨tm, []⟩, σ) ∧ K (tm.nth 4) σ) := by kernel_rfl
theorem idxI_run {p : Option Addr} {len cap : Nat} {fg : FuncId} {caps vs : List Value} {bs : List Bool} {σ : St} (hs : SlV Try.prog σ 3 1 p len vs) (hlen : len ≤ 1073741824) (hb : bs.length = len)
    (hc : ∀ (i : Nat) v b, vs[i]? = some v → bs[i]? = some b → CallsA Try.prog fg (v :: caps) σ (.bool b) σ) : RunsPure Try.prog 94 [.slice p len cap, .func (.func fg) ⟨[]⟩ ⟨caps⟩] σ (.int .i64 (firstTrue bs 0)) := by
  rcases idxI_loop (cap := cap) hs hlen hb hc len 0 (by omega) undef undef undef undef undef undef undef undef undef undef undef with ⟨h1, y5, y9, y10, y11, y12, y13, y14, y15, y16, y17, y18, N0, h2⟩ | ⟨tm, h1, N0, h2⟩
  · rw [List.drop_zero] at h1
    exact ⟨σ, fun h => h, runs_of ⟨N0, fun N hN => ⟨_, (idxI_wa N p len cap fg caps y5 y9 y10 y11 y12 y13 y14 y15 y16 y17 y18 default σ _).mpr ⟨h2 N N hN hN, by rw [show firstTrue bs 0 = -1 from h1], rfl⟩⟩⟩⟩
  · rw [List.drop_zero] at h1
    exact ⟨σ, fun h => h, runs_of ⟨N0, fun N hN => ⟨_, (idxI_wb N p len cap fg caps undef undef undef undef undef undef undef undef undef undef undef tm σ _).mpr ⟨h2 N N hN hN, h1, rfl⟩⟩⟩⟩
end Go.Proofs.Ythcdddbghldmiaa
