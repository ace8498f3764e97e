
import Derived.ChangeArms
import Derived.ReadAgain
import Derived.ChangeBears
import Derived.Below
import Derived.Test.YtgfiniccfpfplaaLayB
set_option linter.unusedVariables false
set_option linter.unusedSimpArgs false
namespace Go.Lay
open Go

def ov : List (Nat × Value) → (Nat → Value) → Nat → Value
 | [], g, i => g i
 | (k, v) :: l, g, i => bif Nat.beq k i then v else ov l g i
def trF (g : Nat → Value) : Nat → Nat → Nat → Bool → Tr Value
 | 0, _, _, _ => .leaf
 | d + 1, w, a, c => .node (some (bif c then g a else undef)) (trF g d (w * 2) a false) (trF g d (w * 2) (a + w) true)
def Fm (n : Nat) (g : Nat → Value) : Tm := ⟨n, trF g ((way n).length + 1) 1 0 true⟩
structure Alt where
 T : Type
 e : Exit
 l : T → List (Nat × Value)
 ms : T → List Nat
 Q : T → St → Prop

inductive Ans
 | g
 | b (t : Bool)
 | n (z : Int)
 | l (v : Value)
 | i
 | v (v : Value)
 | e (v : Value) (σ : St)
 | c (v : Value) (σ : St)
 | lp (e : Exit) (fr : Fr) (σ : St)
 | lf (n : Nat) (l : List (Nat × Value)) (alts : List Alt)
 | rf (n : Nat) (l : List (Nat × Value)) (alts : List (Exit × (St → Prop)))
 | fin (a : Alt) (t : a.T)
 | cut (n : Nat) (l : List (Nat × Value)) (alts : List Alt)

def St.row (σ : St) (cs : List Value) (esz : Nat) : St := σ.add (.cells cs esz [(0, cs.length)] 1 false)

def yOO (P : Program) (ev : Operand → Value) (σ : St) (o : Op) : Option (Value × St) :=
 match o with
 | .alloc t => match zBK P t with
  | some z => some (.pointer (some ⟨σ.y, 0, none⟩), σ.row z.cells.toList (xFI P t z.cells.toList.length))
  | none => none
 | .box t x => some (.pointer (some ⟨σ.y, 0, none⟩), σ.row (ev x).cells.toList (xFI P t (ev x).cells.toList.length))
 | .buildSlice t len ps =>
  match wF P t with
  | some (e, n) => match zBK P e with
   | some z =>
    bif Nat.ble (len * n) 16777216 && Nat.beq z.cells.toList.length n then
     match zJG (fun i => some (i * n, n)) (xT z.cells.toList len) (ps.toList.map fun p => (p.1, ev p.2)) with
     | some cs => some (.slice (some ⟨σ.y, 0, none⟩) len len, σ.row cs n)
     | none => none
    else none
   | none => none
  | none => none
 | .makeMap t none => match zJB P t with
  | some _ => some (.map (some σ.y), σ.add (.map []))
  | none => none
 | o => match yZ P ev o with
  | some v => some (v, σ)
  | none => none

def evL (l : List Value) : Operand → Value
 | .tmp i => l.getD i undef
 | _ => undef
def zJO (n : Nat) : List Operand := (List.range n).map .tmp
def xGV (i : Int) (len : Nat) : Prop := 0 ≤ i ∧ i < (len : Int)

def xGN (P : Program) (f : Tm) (σ : St) (o : Op) (v : Value) : Prop :=
 match o with
 | .slice t x lo hi mx => zRV P σ t (zW f x) (lo.map (zW f)) (hi.map (zW f)) (mx.map (zW f)) = some v
 | .lookup t m k ok => xZ P (evL [zW f m, zW f k]) σ (.lookup t (.tmp 0) (.tmp 1) ok) = some v
 | .index t x k => zAC P t (zW f x) (zW f k) = some v
 | .binOp op t x y _ => wW P op t x y (zW f x) (zW f y) = some v
 | .convert s d x => xW P (evL [zW f x]) σ (.convert s d (.tmp 0)) = some v
 | .call c => xW P (evL (c.args.toList.map (zW f))) σ (.call { c with args := ⟨zJO c.args.toList.length⟩ }) = some v
 | o => xW P (zW f) σ o = some v
def xGO (P : Program) (f : Tm) (σ : St) (o : Op) (v : Value) (σ' : St) : Prop :=
 match o with
 | .store t a x => zL P (evL [zW f a, zW f x]) σ (.store t (.tmp 0) (.tmp 1)) = some (v, σ')
 | .mapUpdate t m k x => zL P (evL [zW f m, zW f k, zW f x]) σ (.mapUpdate t (.tmp 0) (.tmp 1) (.tmp 2)) = some (v, σ')
 | .insert t m k x => zL P (evL [zW f m, zW f k, zW f x]) σ (.insert t (.tmp 0) (.tmp 1) (.tmp 2)) = some (v, σ')
 | .makeSlice t l c => zL P (evL [zW f l, zW f c]) σ (.makeSlice t (.tmp 0) (.tmp 1)) = some (v, σ')
 | .call c => match c.callee, c.argTypes.toList, c.args.toList.map (zW f) with
  | .builtin .append, [st, xt], [s, x] => zZ P st xt s x σ = some (v, σ')
  | _, _, _ => zL P (zW f) σ (.call c) = some (v, σ')
 | o => zL P (zW f) σ o = some (v, σ')

abbrev zMT := FnRef → List Value → St → Value → St → Prop
abbrev zMK (rec : Rec) : zMT := fun r args σ v σ' => vD rec r args σ = some (v, σ')
def zRN (P : Program) (C : zMT) (f : Tm) (σ : St) (o : Op) : List Ans → (Value → St → List Ans → Prop) → Prop
 | .g :: as, K => match yOO P (zW f) σ o with
  | some (v, σ') => K v σ' as
  | none => False
 | .b t :: as, K => match yZ P (zW f) o with
  | some (.bool e) => e = t ∧ K (.bool t) σ as
  | _ => False
 | .n z :: as, K => match yZ P (zW f) o with
  | some (.int k e) => e = z ∧ K (.int k z) σ as
  | _ => False
 | .l v :: as, K => match o with
  | .load t x => match zW f x with
   | .pointer (some a) => zB P σ t a = some v ∧ K v σ as
   | _ => False
  | _ => False
 | .i :: as, K => match o with
  | .indexAddr t x k => match zW f k, zW f x, P.underlying t with
   | .int _ i, .pointer (some a), some (.array len elem) => match yN P elem with
    | some n => xGV i len ∧ K (.pointer (some (zH a (i.toNat * n)))) σ as
    | none => False
   | .int _ i, .slice (some a) len _, some (.slice elem) => match yN P elem with
    | some n => xGV i len ∧ K (.pointer (some (zH a (i.toNat * n)))) σ as
    | none => False
   | _, _, _ => False
  | _ => False
 | .v v :: as, K => xGN P f σ o v ∧ K v σ as
 | .e v σ' :: as, K => xGO P f σ o v σ' ∧ K v σ' as
 | .c v σ' :: as, K => match o with
  | .call c => match c.callee with
   | .value fx => match zIZ (zW f fx) (c.args.toList.map (zW f)) with
    | some (r, args) => match xFH P fx σ r args with
     | none => C r args σ v σ' ∧ K v σ' as
     | some _ => False
    | none => False
   | _ => False
  | _ => False
 | _, _ => False

def zCP (P : Program) (C : zMT) (ops : Array Oper) : List Oper → List Ans → Tm → St → List Seen → (Tm → St → List Seen → List Ans → Prop) → Prop
 | [], as, f, σ, l, K => K f σ l as
 | o :: rest, as, f, σ, l, K =>
  match zCN ops f o with
  | some true => zRN P C f σ o.op as fun v σ' as => zCP P C ops rest as (zIO f o.dst v) σ' (l ++ [⟨f, v, true, σ, σ'⟩]) K
  | some false => zCP P C ops rest as (zIO f o.dst undef) σ (l ++ [⟨f, undef, false, σ, σ⟩]) K
  | none => False

def yS : Nat → Value → Bool
 | 0, _ => false
 | n + 1, .agg cs => cs.toList.all (yS n)
 | n + 1, .tuple cs => cs.toList.all (yS n)
 | n + 1, .iface _ v => yS n v
 | n + 1, .func (.func _) f c => f.toList.all (yS n) && c.toList.all (yS n)
 | _ + 1, .int k _ => zBP k k
 | _ + 1, .bool _ | _ + 1, .string _ | _ + 1, .pointer _ | _ + 1, .slice _ _ _ | _ + 1, .map _ | _ + 1, .nilFunc | _ + 1, .nilIface => true
 | _ + 1, _ => false
structure Lk where
 want : Bool
 need : Bool
 low : Prop
 look : St → Prop
 before : St
 after : St
def yA (n : Nat) (vs : List Value) : Prop := vs.all (yU RD n) = true
def xER (f : Tm) : Option Operand → List Value
 | some x => [zW f x]
 | none => []
def yQK (P : Program) (f : Tm) (o : Op) (v : Value) (σ : St) : Prop :=
 match o with
 | .load t x => match zW f x with
  | .pointer (some a) => (a.block < σ.y ∧ yS RD v = true) ∧ zB P σ t a = some v
  | _ => False
 | .slice t x lo hi mx => (yA σ.y (zW f x :: (xER f lo ++ (xER f hi ++ xER f mx))) ∧ yS RD v = true) ∧ zRV P σ t (zW f x) (lo.map (zW f)) (hi.map (zW f)) (mx.map (zW f)) = some v
 | .lookup t m k ok => (yA σ.y [zW f m, zW f k] ∧ yS RD v = true) ∧ xZ P (evL [zW f m, zW f k]) σ (.lookup t (.tmp 0) (.tmp 1) ok) = some v
 | .convert s d x => (yA σ.y [zW f x] ∧ yS RD v = true) ∧ xW P (evL [zW f x]) σ (.convert s d (.tmp 0)) = some v
 | .call c => (yA σ.y (c.args.toList.map (zW f)) ∧ yS RD v = true) ∧ c.callee = .builtin .len ∧ xW P (evL (c.args.toList.map (zW f))) σ (.call { c with args := ⟨zJO c.args.toList.length⟩ }) = some v
 | _ => False
def yPI : Value → Bool
 | .bool _ | .int .. | .string _ | .nilFunc | .nilIface => true
 | _ => false
def yZT (f : Tm) (o : Op) : List Value := (o.operands.toList.filter fun x => !xEZ x).map (zW f)
def xIE (f : Tm) (o : Op) : Bool := (yW o || uY o) && !(yZT f o).all yPI
def zAZ (P : Program) (C : zMT) (ops : Array Oper) : List Oper → List Ans → Tm → St → List Lk → (Tm → St → List Lk → List Ans → Prop) → Prop
 | [], as, f, σ, l, K => K f σ l as
 | o :: rest, as, f, σ, l, K =>
  match zCN ops f o with
  | some true => zRN P C f σ o.op as fun v σ' as => zAZ P C ops rest as (zIO f o.dst v) σ' (l ++ [⟨true, xIE f o.op, yA σ.y (yZT f o.op), yQK P f o.op v, σ, σ'⟩]) K
  | some false => zAZ P C ops rest as (zIO f o.dst undef) σ (l ++ [⟨false, false, True, fun _ => True, σ, σ⟩]) K
  | none => False
def wX (l : List Lk) : List (Nat × Nat) → Prop → Prop
 | [], K => K
 | p :: ps, K => match l[p.1]?, l[p.2]? with
  | some sj, some sk => match sj.want with
   | true => sj.look sk.before ∧ sj.look sk.after ∧ wX l ps K
   | false => wX l ps K
  | _, _ => False
def zBX : List Lk → Prop → Prop
 | [], K => K
 | s :: ss, K => match s.need with
  | true => s.low ∧ zBX ss K
  | false => zBX ss K

def zEY (P : Program) (C : zMT) (ops : Array Oper) (draw : Bool) (as : List Ans) (fr : Fr) (σ : St) (K : Exit → Fr → St → List Ans → Prop) : Prop :=
 match draw with
 | false => zCP P C ops ops.toList as fr.f σ [] fun f σ _ as => K .normal ⟨f, fr.marks⟩ σ as
 | true => match yCC ops (CheckFast.beforeF ops), zTF ops (CheckFast.beforeF ops), xGX ops (CheckFast.beforeF ops) with
  | true, [], false => zCP P C ops ops.toList as fr.f σ [] fun f σ _ as => K .normal ⟨f, fr.marks⟩ σ as
  | true, ps, _ => zAZ P C ops ops.toList as fr.f σ [] fun f σ l as => zBX l (wX l ps (K .normal ⟨f, fr.marks⟩ σ as))
  | false, _, _ => False

def wpC (P : Program) (rec : Rec) (N : Nat) (rd : Option Nat) : Code → List Ans → Fr → St → (Exit → Fr → St → List Ans → Prop) → Prop
 | .skip, as, fr, σ, K => K .normal fr σ as
 | .label _, as, fr, σ, K => K .normal fr σ as
 | .ret, as, fr, σ, K => K .ret fr σ as
 | .exit id, as, fr, σ, K => K (.exit id) fr σ as
 | .seq x y, as, fr, σ, K => wpC P rec N rd x as fr σ fun e fr σ as => match e with
  | .normal => wpC P rec N rd y as fr σ K
  | e => K e fr σ as
 | .cond c x y, as, fr, σ, K => match zW fr.f c with
  | .bool true => wpC P rec N rd x as fr σ K
  | .bool false => wpC P rec N rd y as fr σ K
  | _ => False
 | .block id c, as, fr, σ, K => wpC P rec N rd c as fr σ fun e fr σ as => match e with
  | .exit i => match Nat.beq i id with
   | true => K .normal fr σ as
   | false => K (.exit i) fr σ as
  | e => K e fr σ as
 | .scope c, as, fr, σ, K => wpC P rec N rd c as fr σ K
 | .region _ ops d, as, fr, σ, K => zEY P (zMK rec) ops d as fr σ K
 | .loop c, .lp e fr' σ' :: as, fr, σ, K => zBS (yI P rec N rd c) N fr σ = some (e, fr', σ') ∧ K e fr' σ' as
 | .rangeFunc g ps a bo, .lp e fr' σ' :: as, fr, σ, K => zJW rec rd g ps a bo fr σ = some (e, fr', σ') ∧ K e fr' σ' as
 | _, _, _, _, _ => False

section
variable {P : Program} {rec : Rec}

theorem yCP {o : Op} {f : Tm} {σ : St} {r : Value × St} (h : yOO P (zW f) σ o = some r) : opA P rec (zW f) σ o = some r := by
 unfold yOO at h
 split at h
 ·split at h
  ·rename_i z hz
   simp [opA, zEK, zL, hz, yF, xQ] at h ⊢
   exact h
  ·cases h
 ·simp [opA, zEK, zL, yF, xQ] at h ⊢
  exact h
 ·split at h
  ·rename_i e n hes
   split at h
   ·rename_i z hz
    obtain ⟨hc, h⟩ := xA h
    split at h
    ·rename_i cs hf
     simp only [opA, zEK, zL, hes, hz, hc, cond_true, hf, yF]
     exact h
    ·cases h
   ·cases h
  ·cases h
 ·split at h
  ·rename_i ke hmo
   simp only [opA, zEK, zL, hmo, cond_true, St.new_eq]
   exact h
  ·cases h
 ·rename_i hn1 hn2 hn3 hn4
  split at h
  ·rename_i v hv
   cases h
   unfold opA
   split
   ·rename_i c
    unfold zKU
    split
    ·rename_i fx hc
     exfalso
     simp only [yZ] at hv
     split at hv <;> simp_all
    ·rename_i hc; exfalso; simp [yZ, hc] at hv
    ·rename_i hc; exfalso; simp [yZ, hc] at hv
    ·rename_i hc; rw [hv]
    ·rename_i hc; rw [hv]; rfl
    ·rename_i hc; exfalso; simp [yZ, hc] at hv
   ·simp [yZ] at hv
   ·simp [yZ] at hv
   ·simp [yZ] at hv
   ·rw [hv]
   ·have : zEK o = false := by
     cases o <;> first | rfl | (simp [yZ] at hv; done) | (exfalso; rename_i hx _ _ _ _; exact hx _ rfl)
    rw [this, hv]; rfl
  ·cases h
end
end Go.Lay

namespace Go.Lay
open Go
section
variable {P : Program} {rec : Rec}

theorem vH {o : Op} {ev : Operand → Value} {σ : St} {v : Value} (hv : yZ P ev o = some v) : opA P rec ev σ o = some (v, σ) := by
 unfold opA
 split
 ·rename_i c
  unfold zKU
  split
  ·rename_i fx hc
   exfalso
   simp only [yZ] at hv
   split at hv <;> simp_all
  ·rename_i hc; exfalso; simp [yZ, hc] at hv
  ·rename_i hc; exfalso; simp [yZ, hc] at hv
  ·rename_i hc; rw [hv]
  ·rename_i hc; rw [hv]; rfl
  ·rename_i hc; exfalso; simp [yZ, hc] at hv
 ·simp [yZ] at hv
 ·simp [yZ] at hv
 ·simp [yZ] at hv
 ·rw [hv]
 ·have : zEK o = false := by
   cases o <;> first | rfl | (simp [yZ] at hv; done) | (exfalso; rename_i hx _ _ _ _; exact hx _ rfl)
  rw [this, hv]; rfl

theorem uZ {o : Op} {ev : Operand → Value} {σ : St} {v : Value} (hv : yZ P ev o = none) (hl : xZ P ev σ o = some v) : opA P rec ev σ o = some (v, σ) := by
 unfold opA
 split
 ·rename_i c
  unfold zKU
  split
  ·rename_i fx hc; exfalso; simp only [xZ, hc] at hl; cases hl
  ·rename_i hc; exfalso; simp only [xZ, hc] at hl; cases hl
  ·rename_i hc; exfalso; simp only [xZ, hc] at hl; cases hl
  ·rename_i hc; rw [hv, hl]; rfl
  ·rename_i b _ _ hb hc
   exfalso
   simp only [xZ, hc] at hl
   cases b <;> first | (simp at hl; done) | exact hb rfl
  ·rename_i hc; exfalso; simp only [xZ, hc] at hl; cases hl
 ·rw [hl]; rfl
 ·rw [hl]; rfl
 ·rw [hl]; rfl
 ·rw [hv, hl]; rfl
 ·exfalso
  cases o <;> first | (simp [xZ] at hl; done) | (rename_i h1 h2 h3 h4 h5; first | exact h1 _ rfl | exact h2 _ _ rfl | exact h3 _ _ _ _ rfl | exact h4 _ _ _ _ _ rfl | exact h5 _ _ _ rfl)

theorem yVN {o : Op} {ev : Operand → Value} {σ σ' : St} {v : Value} (h : zL P ev σ o = some (v, σ')) : opA P rec ev σ o = some (v, σ') := by
 unfold opA
 split
 ·rename_i c
  unfold zKU
  split
  ·rename_i fx hc
   simp only [zL, hc] at h
   split at h
   ·rename_i r as href
    simp only [Option.map_eq_some_iff] at h
    obtain ⟨v0, h1, h2⟩ := h
    simp only [h1]; rw [h2]
   ·cases h
  ·exact h
  ·exact h
  ·rename_i hc; exfalso; simp only [zL, hc] at h; cases h
  ·rename_i b ha hcp _ hc
   exfalso
   simp only [zL, hc] at h
   cases b <;> first | (simp at h; done) | exact ha rfl | exact hcp rfl
  ·rename_i hc; exfalso; simp only [zL, hc] at h; cases h
 ·simp [zL] at h
 ·simp [zL] at h
 ·simp [zL] at h
 ·simp [zL] at h
 ·have : zEK o = true := by
   cases o <;> first | rfl | (simp [zL] at h; done) | (exfalso; rename_i hx _ _ _ _; exact hx _ rfl)
  rw [this]; exact h

theorem xBQ (l : List Value) : (zJO l.length).map (evL l) = l := by
 apply List.ext_getElem
 ·simp [zJO]
 ·intro i h1 h2
  simp [zJO, evL, List.getD, h2]
theorem zSC {c : Call} {ev : Operand → Value} {σ : St} {v : Value} (h : xW P (evL (c.args.toList.map ev)) σ (.call { c with args := ⟨zJO c.args.toList.length⟩ }) = some v) : xW P ev σ (.call c) = some v := by
 have e : (zJO c.args.toList.length).map (evL (c.args.toList.map ev)) = c.args.toList.map ev := by
  have := xBQ (c.args.toList.map ev)
  rwa [List.length_map] at this
 simp only [xW, yZ, xZ, e] at h ⊢
 exact h

theorem zRM {f : Tm} {σ : St} {o : Op} {as : List Ans} {K : Value → St → List Ans → Prop} (h : zRN P (zMK rec) f σ o as K) : ∃ v σ' as', opA P rec (zW f) σ o = some (v, σ') ∧ K v σ' as' := by
 unfold zRN at h
 split at h
 ·split at h
  ·rename_i v σ' ho; exact ⟨v, σ', _, yCP ho, h⟩
  ·exact h.elim
 ·split at h
  ·rename_i e he; obtain ⟨rfl, h⟩ := h; exact ⟨_, _, _, vH he, h⟩
  ·exact h.elim
 ·split at h
  ·rename_i k e he; obtain ⟨rfl, h⟩ := h; exact ⟨_, _, _, vH he, h⟩
  ·exact h.elim
 ·split at h
  ·split at h
   ·rename_i a ha
    exact ⟨_, _, _, uZ rfl (by simp only [xZ, ha]; exact h.1), h.2⟩
   ·exact h.elim
  ·exact h.elim
 ·split at h
  ·rename_i t x k
   split at h
   ·rename_i kd i a len elem hk hx hd
    split at h
    ·rename_i n hn
     refine ⟨_, _, _, vH (v := .pointer (some (zH a (i.toNat * n)))) ?_, h.2⟩
     have h1 : leI 0 i = true := (uG 0 i).2 h.1.1
     have h2 : ltI i (.ofNat len) = true := (zEG i _).2 h.1.2
     simp only [yZ, zBU, hk, hx, hd, hn, h1, h2, Bool.and_self, cond_true]
    ·exact h.elim
   ·rename_i kd i a len cp elem hk hx hd
    split at h
    ·rename_i n hn
     refine ⟨_, _, _, vH (v := .pointer (some (zH a (i.toNat * n)))) ?_, h.2⟩
     have h1 : leI 0 i = true := (uG 0 i).2 h.1.1
     have h2 : ltI i (.ofNat len) = true := (zEG i _).2 h.1.2
     simp only [yZ, zBU, hk, hx, hd, hn, h1, h2, Bool.and_self, cond_true]
    ·exact h.elim
   ·exact h.elim
  ·exact h.elim
 ·obtain ⟨hs, h⟩ := h
  refine ⟨_, _, _, ?_, h⟩
  unfold xGN at hs
  split at hs
  ·exact uZ rfl hs
  ·exact uZ rfl hs
  ·exact vH hs
  ·exact vH hs
  ·unfold xW at hs
   split at hs
   ·rename_i v0 hv; cases hs; exact vH hv
   ·rename_i hv; exact uZ hv hs
  ·have hs := zSC hs
   unfold xW at hs
   split at hs
   ·rename_i v0 hv; cases hs; exact vH hv
   ·rename_i hv; exact uZ hv hs
  ·unfold xW at hs
   split at hs
   ·rename_i v0 hv; cases hs; exact vH hv
   ·rename_i hv; exact uZ hv hs
 ·obtain ⟨he, h⟩ := h
  refine ⟨_, _, _, yVN ?_, h⟩
  unfold xGO at he
  split at he
  ·exact he
  ·exact he
  ·exact he
  ·exact he
  ·split at he
   ·rename_i hc ht ha
    simp only [zL, hc, ht, ha]; exact he
   ·exact he
  ·exact he
 ·split at h
  ·split at h
   ·rename_i fx hc
    split at h
    ·rename_i r args href
     split at h
     ·rename_i hx
      refine ⟨_, _, _, ?_, h.2⟩
      simp only [opA, zKU, hc, href, hx]; exact h.1
     ·exact h.elim
    ·exact h.elim
   ·exact h.elim
  ·exact h.elim
 ·exact h.elim

theorem zCC {ops : Array Oper} : ∀ (rest : List Oper) (as : List Ans) (f : Tm) (σ : St) (l : List Seen) (K : Tm → St → List Seen → List Ans → Prop), zCP P (zMK rec) ops rest as f σ l K →
  ∃ l' t τ as', vW P rec ops rest f σ = some (l', t, τ) ∧ K t τ (l ++ l') as'
 | [], as, f, σ, l, K, h => ⟨[], f, σ, as, rfl, by rw [List.append_nil]; exact h⟩
 | o :: rest, as, f, σ, l, K, h => by
  unfold zCP at h
  split at h
  ·rename_i hg
   obtain ⟨v, σ', as', h1, h2⟩ := zRM h
   obtain ⟨l', t, τ, as2, h3, h4⟩ := zCC rest _ _ _ _ _ h2
   exact ⟨⟨f, v, true, σ, σ'⟩ :: l', t, τ, as2, by simp [vW, hg, h1, zGX, wL, h3], by rw [List.append_assoc] at h4; exact h4⟩
  ·rename_i hg
   obtain ⟨l', t, τ, as2, h3, h4⟩ := zCC rest _ _ _ _ _ h
   exact ⟨⟨f, undef, false, σ, σ⟩ :: l', t, τ, as2, by simp [vW, hg, wL, h3], by rw [List.append_assoc] at h4; exact h4⟩
  ·exact h.elim

theorem zBO {ops : Array Oper} : ∀ (rest : List Oper) (f : Tm) (σ : St) (l : List Seen) (t : Tm) (τ : St), vW P rec ops rest f σ = some (l, t, τ) → zIP P rec ops rest f σ = some (t, τ)
 | [], f, σ, l, t, τ, h => by simp [vW] at h; simp [zIP, h.2.1, h.2.2]
 | o :: rest, f, σ, l, t, τ, h => by
  unfold vW at h
  split at h
  ·rename_i hg
   split at h
   ·rename_i v σ' hop
    rw [zGX, wL] at h
    split at h
    ·rename_i l' t' τ' hs
     simp at h; obtain ⟨_, rfl, rfl⟩ := h
     have := zBO rest _ _ _ _ _ hs
     simp [zIP, hg, hop, wL, this]
    ·cases h
   ·cases h
  ·rename_i hg
   rw [wL] at h
   split at h
   ·rename_i l' t' τ' hs
    simp at h; obtain ⟨_, rfl, rfl⟩ := h
    have := zBO rest _ _ _ _ _ hs
    simp [zIP, hg, wL, this]
   ·cases h
  ·cases h

theorem yXI : ∀ (n : Nat) (v : Value), yS n v = true → veq n v v = true := by
 intro n
 induction n with
 | zero => intro v h; simp [yS] at h
 | succ n ih =>
  have lists : ∀ (l : List Value), l.all (yS n) = true → veq.veqs n l l = true := by
   intro l
   induction l with
   | nil => intro _; rfl
   | cons x l ihl =>
    intro h
    simp only [List.all_cons, Bool.and_eq_true] at h
    simp only [veq.veqs, Bool.and_eq_true]
    exact ⟨ih x h.1, ihl h.2⟩
  intro v h
  cases v with
  | agg cs => simp only [yS] at h; simp only [veq]; exact lists _ h
  | tuple cs => simp only [yS] at h; simp only [veq]; exact lists _ h
  | iface t x => simp only [yS] at h; simp only [veq, Bool.and_eq_true]; exact ⟨Nat.beq_refl _, ih x h⟩
  | func fn f c =>
   cases fn with
   | func g => simp only [yS, Bool.and_eq_true] at h; simp only [veq, Bool.and_eq_true]; exact ⟨⟨Nat.beq_refl _, lists _ h.1⟩, lists _ h.2⟩
   | _ => simp [yS] at h
  | bool b => simp [veq]
  | int k n => simp only [yS] at h; simp only [veq, yBZ, Bool.and_eq_true]; exact ⟨h, by simp⟩
  | string s => simp [veq]
  | pointer a => simp [veq]
  | slice a l c => simp [veq]
  | map a => simp [veq]
  | nilFunc => rfl
  | nilIface => rfl
  | _ => simp [yS] at h

structure LkOk (P : Program) (o : Oper) (k : Lk) (s : Seen) : Prop where
 want : k.want = s.want
 before : k.before = s.before
 after : k.after = s.after
 low : (k.need = true → k.low) → (!s.want || zAX s.before.y s.f o || !(yW o.op || uY o.op)) = true
 look : s.want = true → ∀ σ, k.look σ → steady P o s σ = true
inductive LkAll (P : Program) : List Oper → List Lk → List Seen → Prop
 | nil : LkAll P [] [] []
 | cons {o : Oper} {k : Lk} {s : Seen} {os : List Oper} {ks : List Lk} {ss : List Seen} (h : LkOk P o k s) (t : LkAll P os ks ss) : LkAll P (o :: os) (k :: ks) (s :: ss)
theorem LkAll.get {os : List Oper} {ks : List Lk} {ss : List Seen} (h : LkAll P os ks ss) : ∀ (i : Nat) (k : Lk), ks[i]? = some k → ∃ o s, os[i]? = some o ∧ ss[i]? = some s ∧ LkOk P o k s := by
 induction h with
 | nil => intro i k h; simp at h
 | cons h _ ih =>
  intro i k hk
  cases i with
  | zero => simp at hk; subst hk; exact ⟨_, _, rfl, rfl, h⟩
  | succ i => simpa using ih i k (by simpa using hk)

theorem zBY {n : Nat} {f : Tm} {o : Oper} (h : yA n (o.op.operands.toList.map (zW f))) : zAX n f o = true := by
 unfold yA at h
 rw [List.all_map] at h
 exact h
theorem yJL {n : Nat} {vs : List Value} (h : vs.all yPI = true) : yA n vs := by
 refine List.all_eq_true.2 (fun v hv => ?_)
 have := List.all_eq_true.1 h v hv
 cases v <;> first | rfl | (simp [yPI] at this; done)
theorem zVE {n : Nat} {f : Tm} {o : Oper} (h : yA n (yZT f o.op)) : zAX n f o = true := by
 refine List.all_eq_true.2 (fun x hx => ?_)
 cases hx2 : xEZ x with
 | true => cases x <;> first | (simp [xEZ] at hx2; done) | rfl
 | false =>
  have := List.all_eq_true.1 h (zW f x) (List.mem_map_of_mem (List.mem_filter.2 ⟨hx, by rw [hx2]; rfl⟩))
  exact this
theorem zCR {o : Oper} {s : Seen} {σ : St} (h1 : zAX σ.y s.f o = true) (h2 : yS RD s.v = true) (h3 : xW P (zW s.f) σ o.op = some s.v) : steady P o s σ = true := by
 unfold steady
 cases hw : s.want with
 | true => rw [cond_true, h1, Bool.true_and, h3]; exact yXI _ _ h2
 | false => rfl
theorem yGA {o : Oper} {s : Seen} {σ : St} (h : yQK P s.f o.op s.v σ) : steady P o s σ = true := by
 unfold yQK at h
 split at h
 ·rename_i t x ho
  split at h
  ·rename_i a ha
   refine zCR ?_ h.1.2 (by rw [ho]; simp only [xW, yZ, xZ, ha]; exact h.2)
   refine zBY (n := σ.y) ?_
   unfold yA
   rw [ho]
   simp only [Op.operands, List.map_cons, List.map_nil, ha, List.all_cons, List.all_nil, Bool.and_true]
   exact (zAO _ _).2 h.1.1
  ·exact h.elim
 ·rename_i t x lo hi mx ho
  refine zCR ?_ h.1.2 (by rw [ho]; exact h.2)
  refine zBY (n := σ.y) ?_
  have h1 := h.1.1
  unfold yA at h1 ⊢
  rw [ho]
  cases lo <;> cases hi <;> cases mx <;> simpa [Op.operands, xER] using h1
 ·rename_i t m k ok ho
  refine zCR ?_ h.1.2 (by rw [ho]; exact h.2)
  refine zBY (n := σ.y) ?_
  have h1 := h.1.1
  unfold yA at h1 ⊢
  rw [ho]
  simpa [Op.operands] using h1
 ·rename_i t m k ho
  refine zCR ?_ h.1.2 (by rw [ho]; exact h.2)
  refine zBY (n := σ.y) ?_
  have h1 := h.1.1
  unfold yA at h1 ⊢
  rw [ho]
  simpa [Op.operands] using h1
 ·rename_i c ho
  refine zCR ?_ h.1.2 (by rw [ho]; exact zSC h.2.2)
  refine zBY (n := σ.y) ?_
  have h1 := h.1.1
  unfold yA at h1 ⊢
  rw [ho]
  simpa [Op.operands, Call.operands, h.2.1] using h1
 ·exact h.elim

theorem zDT {ops : Array Oper} : ∀ (rest : List Oper) (as : List Ans) (f : Tm) (σ : St) (l : List Lk) (K : Tm → St → List Lk → List Ans → Prop), zAZ P (zMK rec) ops rest as f σ l K →
  ∃ l' t τ as' lk, vW P rec ops rest f σ = some (l', t, τ) ∧ LkAll P rest lk l' ∧ K t τ (l ++ lk) as'
 | [], as, f, σ, l, K, h => ⟨[], f, σ, as, [], rfl, .nil, by rw [List.append_nil]; exact h⟩
 | o :: rest, as, f, σ, l, K, h => by
  unfold zAZ at h
  split at h
  ·rename_i hg
   obtain ⟨v, σ', as', h1, h2⟩ := zRM h
   obtain ⟨l', t, τ, as2, lk, h3, h4, h5⟩ := zDT rest _ _ _ _ _ h2
   refine ⟨⟨f, v, true, σ, σ'⟩ :: l', t, τ, as2, ⟨true, xIE f o.op, yA σ.y (yZT f o.op), yQK P f o.op v, σ, σ'⟩ :: lk, by simp [vW, hg, h1, zGX, wL, h3], .cons ⟨rfl, rfl, rfl, fun hl => ?_, fun _ σ₁ hl => yGA (s := ⟨f, v, true, σ, σ'⟩) hl⟩ h4, by rw [List.append_assoc] at h5; exact h5⟩
   simp only at hl
   cases ha : yW o.op || uY o.op with
   | false => simp
   | true =>
    have hb : zAX σ.y f o = true := by
     cases ht : (yZT f o.op).all yPI with
     | true => exact zVE (yJL ht)
     | false => exact zVE (hl (by unfold xIE; rw [ha, ht]; rfl))
    simp only [hb]; simp
  ·rename_i hg
   obtain ⟨l', t, τ, as2, lk, h3, h4, h5⟩ := zDT rest _ _ _ _ _ h
   exact ⟨⟨f, undef, false, σ, σ⟩ :: l', t, τ, as2, ⟨false, false, True, fun _ => True, σ, σ⟩ :: lk, by simp [vW, hg, wL, h3], .cons ⟨rfl, rfl, rfl, fun _ => rfl, fun h => by cases h⟩ h4, by rw [List.append_assoc] at h5; exact h5⟩
  ·exact h.elim

theorem zEQ : ∀ {os : List Oper} {ks : List Lk} {ss : List Seen} {K : Prop}, LkAll P os ks ss → zBX ks K → zDN os ss = true ∧ K
 | [], _, _, _, .nil, hb => ⟨rfl, hb⟩
 | _ :: _, k :: _, _ :: _, K, .cons h t, hb => by
  simp only [zBX] at hb
  simp only [zDN, Bool.and_eq_true]
  cases hn : k.need with
  | true =>
   rw [hn] at hb
   obtain ⟨h1, h2⟩ := zEQ t hb.2
   exact ⟨⟨h.low (fun _ => hb.1), h1⟩, h2⟩
  | false =>
   rw [hn] at hb
   obtain ⟨h1, h2⟩ := zEQ t hb
   exact ⟨⟨h.low (fun e => by rw [hn] at e; cases e), h1⟩, h2⟩
theorem zBN {ops : Array Oper} {ks : List Lk} {l : List Seen} {K : Prop} (h : LkAll P ops.toList ks l) : ∀ (ps : List (Nat × Nat)), wX ks ps K → ps.all (yBJ P ops l) = true ∧ K
 | [], hk => ⟨rfl, hk⟩
 | p :: ps, hs => by
  simp only [wX] at hs
  rw [List.all_cons, Bool.and_eq_true]
  unfold yBJ
  split at hs
  ·rename_i sj sk e1 e2
   obtain ⟨oj, s1, a1, a2, a3⟩ := h.get _ _ e1
   obtain ⟨_, s2, _, b2, b3⟩ := h.get _ _ e2
   have a1 : ops[p.1]? = some oj := by simpa using a1
   rw [a1, a2, b2]
   simp only
   cases hw : s1.want with
   | true =>
    rw [a3.want, hw] at hs
    simp only at hs
    rw [b3.before, b3.after] at hs
    obtain ⟨g1, g2⟩ := zBN h ps hs.2.2
    rw [a3.look hw _ hs.1, a3.look hw _ hs.2.1]
    exact ⟨⟨rfl, g1⟩, g2⟩
   | false =>
    rw [a3.want, hw] at hs
    obtain ⟨g1, g2⟩ := zBN h ps hs
    exact ⟨⟨by simp [steady, hw], g1⟩, g2⟩
  ·exact hs.elim

theorem yJC (N : Nat) (rd : Option Nat) {id : Nat} {ops : Array Oper} {draw : Bool} {as : List Ans} {fr : Fr} {σ : St} {K : Exit → Fr → St → List Ans → Prop} (h : zEY P (zMK rec) ops draw as fr σ K) :
  ∃ e fr' σ' as', yI P rec N rd (.region id ops draw) fr σ = some (e, fr', σ') ∧ K e fr' σ' as' := by
 cases draw with
 | false =>
  simp only [zEY] at h
  obtain ⟨l', t, τ, as', h1, h2⟩ := zCC _ _ _ _ _ _ h
  exact ⟨.normal, ⟨t, fr.marks⟩, τ, as', by simp only [yI, zHX, zBO _ _ _ _ _ _ h1], h2⟩
 | true =>
  simp only [zEY] at h
  split at h
  ·rename_i h0 hp hf
   obtain ⟨l', t, τ, as', h1, h2⟩ := zCC _ _ _ _ _ _ h
   refine ⟨.normal, ⟨t, fr.marks⟩, τ, as', ?_, h2⟩
   simp only [yI, zHX, zUQ, h0, hp, hf, cond_true, zBO _ _ _ _ _ _ h1]
  ·rename_i ps _ h0 hno
   obtain ⟨l', t, τ, as', lk, h1, hlk, h2⟩ := zDT _ _ _ _ _ _ h
   rw [List.nil_append] at h2
   obtain ⟨h3, h2⟩ := zEQ hlk h2
   obtain ⟨h4, h2⟩ := zBN hlk _ h2
   refine ⟨.normal, ⟨t, fr.marks⟩, τ, as', ?_, h2⟩
   have hd : zUQ P rec ops fr.f σ = some (t, τ) := by
    unfold zUQ
    rw [h0, cond_true]
    split
    ·exact zBO _ _ _ _ _ _ h1
    ·rw [h1]
     simp only
     rw [h3, h4]; rfl
   simp only [yI, zHX, hd]
  ·exact h.elim
def zLB : List Nat → St → (St → Prop) → Prop
 | [], σ, K => K σ
 | d :: ds, σ, K => yC σ.heap d = some .defd ∧ zLB ds (σ.shut d) K
def yDH (P : Program) (f : Tm) (σ : St) : List ResultVar → List Ans → List Value → (List Value → Prop) → Prop
 | [], _, vs, K => K vs
 | .tmp t :: rs, as, vs, K => yDH P f σ rs as (vs ++ [f.nth t]) K
 | .cell a t :: rs, as, vs, K => match as, f.nth a with
  | .l v :: as, .pointer (some a) => zB P σ t a = some v ∧ yDH P f σ rs as (vs ++ [v]) K
  | _, _ => False
def yZV : List Value → Value
 | [v] => v
 | vs => .tuple ⟨vs⟩
def zFL (P : Program) (fn : Func) (fr : Fr) (σ : St) (as : List Ans) (K : Value → St → Prop) : Prop :=
 zLB fr.marks σ fun σ => yDH P fr.f σ fn.results.toList as [] fun vs => K (yZV vs) σ
def xLB (P : Program) (n : Nat) (f : FuncId) (args : List Value) (as : List Ans) (σ : St) (K : Value → St → Prop) : Prop :=
 match P.funcs[f]? with
 | some fn => match fn.body with
  | some c => wpC P (zS P n) n none c as ⟨(Tm.args 0 args).foldl (fun f p => f.set p.1 p.2) (fresh (args.length + (fn.ntmps - args.length))), []⟩ σ fun e fr σ as => match e with
   | .normal => zFL P fn fr σ as K
   | .ret => zFL P fn fr σ as K
   | _ => False
  | none => False
 | none => False

theorem zIS : ∀ (ms : List Nat) (σ : St) (K : St → Prop), zLB ms σ K → ∃ σ', zAF ms σ = some σ' ∧ K σ'
 | [], σ, K, h => ⟨σ, rfl, h⟩
 | d :: ds, σ, K, h => by
  obtain ⟨σ', h1, h2⟩ := zIS ds _ K h.2
  exact ⟨σ', by simp only [zAF, h.1, St.drop_eq, h1], h2⟩
theorem zFI {f : Tm} {σ : St} : ∀ (rs : List ResultVar) (as : List Ans) (vs : List Value) (K : List Value → Prop), yDH P f σ rs as vs K → ∃ ws, vJ P f σ rs = some ws ∧ K (vs ++ ws)
 | [], as, vs, K, h => ⟨[], rfl, by rw [List.append_nil]; exact h⟩
 | .tmp t :: rs, as, vs, K, h => by
  obtain ⟨ws, h1, h2⟩ := zFI rs as _ K h
  exact ⟨f.nth t :: ws, by simp only [vJ, zLI, h1], by rw [List.append_assoc] at h2; exact h2⟩
 | .cell a t :: rs, as, vs, K, h => by
  unfold yDH at h
  split at h
  ·rename_i v as' a0 ha
   obtain ⟨ws, h1, h2⟩ := zFI rs _ _ K h.2
   exact ⟨v :: ws, by simp only [vJ, zLI, ha, h.1, h1], by rw [List.append_assoc] at h2; exact h2⟩
  ·exact h.elim
theorem yAE {fn : Func} {fr : Fr} {σ : St} {as : List Ans} {K : Value → St → Prop} (h : zFL P fn fr σ as K) : ∃ v σ', zPU P fn fr σ = some (v, σ') ∧ K v σ' := by
 obtain ⟨σ', h1, h2⟩ := zIS _ _ _ h
 obtain ⟨ws, h3, h4⟩ := zFI _ _ _ _ h2
 rw [List.nil_append] at h4
 refine ⟨yZV ws, σ', ?_, h4⟩
 have : zCU P fn fr.f σ' = some (yZV ws) := by
  unfold zCU
  rw [h3]
  match ws with
  | [] => rfl
  | [v] => rfl
  | _ :: _ :: _ => rfl
 simp only [zPU, h1, this, zGX]
end
end Go.Lay

namespace Go.Lay
open Go

theorem xKR (a b : Int) : (leI a b = true ∧ a ≤ b) ∨ (leI a b = false ∧ b < a) := by
 by_cases h : a ≤ b
 ·exact .inl ⟨(uG a b).2 h, h⟩
 ·exact .inr ⟨by rw [yBQ]; simp; omega, by omega⟩
theorem xKQ (a b : Int) : (ltI a b = true ∧ a < b) ∨ (ltI a b = false ∧ b ≤ a) := by
 by_cases h : a < b
 ·exact .inl ⟨(zEG a b).2 h, h⟩
 ·exact .inr ⟨by rw [yBO]; simp; omega, by omega⟩
theorem yRA (a b : Int) : eqI a b = true ↔ a = b := by rw [yBZ]; simp
theorem zRL {n : Int} (h1 : -9223372036854775808 ≤ n) (h2 : n ≤ 9223372036854775807) : vU .i64 n = n := by
 have e1 : (2 : Int) ^ 64 = 18446744073709551616 := by decide
 have e2 : (2 : Int) ^ (64 - 1) = 9223372036854775808 := by decide
 rw [wT]
 simp only [IntKind.wrap, IntKind.bits, IntKind.signed, e1, e2, Bool.true_and, decide_eq_true_eq]
 split <;> omega

structure Row (σ : St) (a : Addr) (cs : List Value) : Prop where
 rd : yH σ a cs.length = some cs
 lt : a.block < σ.y
structure Le (σ σ' : St) : Prop where
 y : σ.y ≤ σ'.y
 get : ∀ b, b < σ.y → yC σ'.heap b = yC σ.heap b
def St.re (σ : St) : St := ⟨σ.heap, σ.y, σ.y⟩

section
variable {P : Program} {σ σ' : St} {a : Addr} {cs : List Value}
theorem Le.refl (σ : St) : Le σ σ := ⟨Nat.le_refl _, fun _ _ => rfl⟩
theorem Le.trans {σ₁ σ₂ σ₃ : St} (h : Le σ₁ σ₂) (k : Le σ₂ σ₃) : Le σ₁ σ₃ := ⟨Nat.le_trans h.y k.y, fun b hb => (k.get b (Nat.lt_of_lt_of_le hb h.y)).trans (h.get b hb)⟩
theorem Le.add (σ : St) (y : Blk) : Le σ (σ.add y) := ⟨by simp, fun b hb => by rw [St.add_get, if_neg (Nat.ne_of_lt hb)]⟩
theorem Le.row (σ : St) (cs : List Value) (n : Nat) : Le σ (σ.row cs n) := Le.add _ _
theorem yKC (h : Le σ σ') (hb : a.block < σ.y) (n : Nat) : yH σ' a n = yH σ a n := by
 unfold yH; rw [h.get _ hb]
theorem Row.le (h : Row σ a cs) (l : Le σ σ') : Row σ' a cs := ⟨by rw [yKC l h.lt]; exact h.rd, Nat.lt_of_lt_of_le h.lt l.y⟩
theorem Row.row (h : Row σ a cs) {ds : List Value} {n : Nat} : Row (σ.row ds n) a cs := h.le (Le.row _ _ _)
theorem Row.re (h : Row σ a cs) : Row σ.re a cs := ⟨h.rd, h.lt⟩
theorem Le.re' (h : Le σ σ') : Le σ σ'.re := ⟨h.y, h.get⟩
theorem xC (σ : St) (cs : List Value) (n : Nat) : Row (σ.row cs n) ⟨σ.y, 0, none⟩ cs := by
 refine ⟨?_, by simp [St.row]⟩
 have h1 : yC (σ.row cs n).heap σ.y = some (.cells cs n [(0, cs.length)] 1 false) := by
  show yC (σ.add _).heap σ.y = _
  rw [St.add_get, if_pos rfl]
 have h2 : Nat.ble (0 + cs.length) cs.length = true := (zN _ _).2 (by omega)
 have h3 : Nat.beq 0 0 = true := rfl
 unfold yH
 simp only [h1, zU, Option.getD_none, wE, h3, cond_true, h2, List.drop_zero, List.take_length]
theorem Row.part (h : Row σ a cs) {k m : Nat} (hk : k + m ≤ cs.length) : Row σ (zH a k) ((cs.drop k).take m) := by
 have hl : ((cs.drop k).take m).length = m := by simp; omega
 refine ⟨?_, h.lt⟩
 have hr := h.rd
 rw [hl]
 unfold yH at hr
 split at hr
 ·rename_i bc esz log nx ro hb
  split at hr
  ·rename_i e he
   obtain ⟨hle, hr⟩ := xA hr
   have hle := (zN _ _).1 hle
   have key : yH σ (zH a k) m = bif Nat.ble (a.off + k + m) e then some ((bc.drop (a.off + k)).take m) else none := by
    unfold yH
    rw [show yC σ.heap (zH a k).block = some (.cells bc esz log nx ro) from hb]
    show (match wE log (zU a) with | some e => bif Nat.ble (a.off + k + m) e then some ((bc.drop (a.off + k)).take m) else none | none => none) = _
    rw [he]
   rw [key, (zN (a.off + k + m) e).2 (by omega), cond_true]
   have hr2 : (bc.drop a.off).take cs.length = cs := by simpa using hr
   congr 1
   rw [show (cs.drop k).take m = ((((bc.drop a.off).take cs.length)).drop k).take m from by rw [hr2]]
   rw [List.drop_take, List.drop_drop, List.take_take]
   congr 1
   omega
  ·cases hr
 ·cases hr
theorem Row.load1 (h : Row σ a cs) {t : TypeId} (ht : wK P t = some false) {k : Nat} {v : Value} (hv : cs[k]? = some v) : zB P σ t (zH a k) = some v := by
 have hk : k < cs.length := (List.getElem?_eq_some_iff.1 hv).1
 have hp := (h.part (k := k) (m := 1) (by omega)).rd
 have e : (cs.drop k).take 1 = [v] := by
  rw [List.drop_eq_getElem_cons hk]
  have := (List.getElem?_eq_some_iff.1 hv).2
  simp [this]
 rw [e] at hp
 unfold zB
 simp only [ht]
 have hp : yH σ (zH a k) 1 = some [v] := hp
 rw [hp]
theorem Row.loadN (h : Row σ a cs) {t : TypeId} {n : Nat} (ht : wK P t = some true) (hs : yN P t = some n) {k : Nat} {ds : List Value} (hd : (cs.drop k).take n = ds) (hl : ds.length = n) (hk : k + n ≤ cs.length) : zB P σ t (zH a k) = some (.agg ⟨ds⟩) := by
 have hp := (h.part (k := k) (m := n) hk).rd
 rw [hd, hl] at hp
 unfold zB
 simp only [ht, hs, hp, Option.map_some]
theorem Row.ld {b k : Nat} {s : Option Nat} (h : Row σ ⟨b, 0, s⟩ cs) {t : TypeId} (ht : wK P t = some false) {v : Value} (hv : cs[k]? = some v) : zB P σ t ⟨b, k, s⟩ = some v := by
 have := h.load1 (P := P) ht hv
 simpa [zH] using this
theorem Row.ldN {b k n : Nat} {s : Option Nat} (h : Row σ ⟨b, 0, s⟩ cs) {t : TypeId} (ht : wK P t = some true) (hs : yN P t = some n) {ds : List Value} (hd : (cs.drop k).take n = ds) (hl : ds.length = n) (hk : k + n ≤ cs.length) : zB P σ t ⟨b, k, s⟩ = some (.agg ⟨ds⟩) := by
 have := h.loadN (P := P) ht hs hd hl hk
 simpa [zH] using this

structure Own (σ : St) (b : Nat) (cs : List Value) (n : Nat) : Prop where
 get : yC σ.heap b = some (.cells cs n [(0, cs.length)] 1 false)
 lt : b < σ.y
def St.own (σ : St) (b : Nat) (cs : List Value) (n : Nat) : St := σ.put b (.cells cs n [(0, cs.length)] 1 false)
theorem zC (σ : St) (cs : List Value) (n : Nat) : Own (σ.row cs n) σ.y cs n := ⟨by
 show yC (σ.add _).heap σ.y = _
 rw [St.add_get, if_pos rfl], by simp [St.row]⟩
theorem Own.le {b n : Nat} (h : Own σ b cs n) (l : Le σ σ') : Own σ' b cs n := ⟨by rw [l.get _ h.lt]; exact h.get, Nat.lt_of_lt_of_le h.lt l.y⟩
theorem Own.row {b n : Nat} (h : Own σ b cs n) {ds : List Value} {m : Nat} : Own (σ.row ds m) b cs n := h.le (Le.row _ _ _)
theorem Own.re {b n : Nat} (h : Own σ b cs n) : Own σ.re b cs n := ⟨h.get, h.lt⟩
theorem Own.own {b n c m : Nat} (h : Own σ b cs n) {ds : List Value} (hne : b ≠ c) : Own (σ.own c ds m) b cs n := ⟨by
 show yC (σ.put _ _).heap b = _
 rw [St.put_get, if_neg hne]; exact h.get, h.lt⟩
theorem Own.put {b n : Nat} (h : Own σ b cs n) {ds : List Value} : Own (σ.own b ds n) b ds n := ⟨by
 show yC (σ.put _ _).heap b = _
 rw [St.put_get, if_pos rfl], h.lt⟩
theorem Own.rw {b n : Nat} (h : Own σ b cs n) : Row σ ⟨b, 0, none⟩ cs := by
 refine ⟨?_, h.lt⟩
 have h2 : Nat.ble (0 + cs.length) cs.length = true := (zN _ _).2 (by omega)
 have h3 : Nat.beq 0 0 = true := rfl
 unfold yH
 simp only [h.get, zU, Option.getD_none, wE, h3, cond_true, h2, List.drop_zero, List.take_length]
theorem Row.own {b n : Nat} (h : Row σ a cs) {ds : List Value} (hne : a.block ≠ b) : Row (σ.own b ds n) a cs := ⟨by
 have hr := h.rd
 unfold yH at hr ⊢
 rw [show yC (σ.own b ds n).heap a.block = yC σ.heap a.block from by
  show yC (σ.put _ _).heap a.block = _
  rw [St.put_get, if_neg hne]]
 exact hr, h.lt⟩
theorem Own.store {b n k : Nat} (h : Own σ b cs n) {t : TypeId} {v : Value} {vs ds : List Value} (hv : v.cells.toList = vs) (hs : yN P t = some vs.length) (hc : vs.all cellB = true) (hk : k + vs.length ≤ cs.length) (hd : cs.take k ++ (vs ++ cs.drop (k + vs.length)) = ds) :
  zL P (evL [.pointer (some ⟨b, k, none⟩), v]) σ (.store t (.tmp 0) (.tmp 1)) = some (undef, σ.own b ds n) := by
 have h1 : Nat.beq v.cells.toList.length vs.length = true := by rw [hv]; exact Nat.beq_refl _
 have h2 : (Nat.beq 0 0 && Nat.ble (k + vs.length) cs.length && !false && vs.all cellB) = true := by
  rw [(zN _ _).2 hk, hc]; rfl
 have hl : ds.length = cs.length := by rw [← hd]; simp; omega
 have hw : xK σ ⟨b, k, none⟩ vs = some (σ.own b ds n) := by
  unfold xK
  simp only [h.get, zU, Option.getD_none, h2, cond_true, zBC, St.write_eq, hd]
  unfold St.own
  rw [hl]
 have : zBA P σ t ⟨b, k, none⟩ v = some (σ.own b ds n) := by
  unfold zBA
  rw [hv] at h1 ⊢
  simp only [hs, h1, cond_true, hw]
 show (zBA P σ t ⟨b, k, none⟩ v).map _ = _
 rw [this]; rfl
@[simp] theorem St.own_next (σ : St) (b : Nat) (cs : List Value) (n : Nat) : (σ.own b cs n).y = σ.y := rfl
@[simp] theorem St.own_low (σ : St) (b : Nat) (cs : List Value) (n : Nat) : (σ.own b cs n).low = min σ.low b := rfl
@[simp] theorem St.row_next (σ : St) (cs : List Value) (n : Nat) : (σ.row cs n).y = σ.y + 1 := rfl
@[simp] theorem St.row_low (σ : St) (cs : List Value) (n : Nat) : (σ.row cs n).low = σ.low := rfl

def SlP (σ : St) (n : Nat) (p : Option Addr) (len : Nat) (l : List Value) : Prop :=
 l.length = len * n ∧ match p with
  | none => len = 0
  | some a => Row σ a l
theorem SlP.le {n len : Nat} {p : Option Addr} {l : List Value} (h : SlP σ n p len l) (k : Le σ σ') : SlP σ' n p len l := by
 refine ⟨h.1, ?_⟩
 cases p with
 | none => exact h.2
 | some a => exact Row.le h.2 k
theorem SlP.row {n len : Nat} {p : Option Addr} {l : List Value} (h : SlP σ n p len l) {ds : List Value} {m : Nat} : SlP (σ.row ds m) n p len l := h.le (Le.row _ _ _)
theorem SlP.re {n len : Nat} {p : Option Addr} {l : List Value} (h : SlP σ n p len l) : SlP σ.re n p len l := h.le (Le.re' (Le.refl _))
theorem SlP.own {n len : Nat} {p : Option Addr} {l : List Value} (h : SlP σ n p len l) {b m : Nat} {ds : List Value} (hb : σ.y ≤ b ∨ ∀ a, p = Option.some a → a.block ≠ b) : SlP (σ.own b ds m) n p len l := by
 refine ⟨h.1, ?_⟩
 cases p with
 | none => exact h.2
 | some a =>
  have hr : Row σ a l := h.2
  exact hr.own (by rcases hb with hb | hb; exact (have := hr.lt; by omega); exact hb a rfl)
theorem SlP.some {n len : Nat} {p : Option Addr} {l : List Value} (h : SlP σ n p len l) (hl : 0 < len) : ∃ a, p = .some a ∧ Row σ a l := by
 cases p with
 | none => have := h.2; omega
 | some a => exact ⟨a, rfl, h.2⟩
theorem Row.sl {n len : Nat} (h : Row σ a cs) (hl : cs.length = len * n) : SlP σ n (.some a) len cs := ⟨hl, h⟩
theorem SlP.nil (σ : St) (n : Nat) : SlP σ n none 0 [] := ⟨by simp, rfl⟩

def xIX (P : Program) (f : FuncId) (args : List Value) (σ : St) (v : Value) (σ' : St) : Prop := ∃ N0, ∀ N, N0 ≤ N → zS P N (.func f) args σ = some (v, σ')
def zD (P : Program) (f : FuncId) (args : List Value) (σ : St) (v : Value) (σ' : St) : Prop := ∃ N0, ∀ N, N0 ≤ N → vD (zS P N) (.func f) args σ = some (v, σ')
end
end Go.Lay

namespace Go.Lay
open Go

def Code.part : List Nat → Code → Code
 | 0 :: p, .seq a _ => Code.part p a
 | 1 :: p, .seq _ b => Code.part p b
 | 0 :: p, .cond _ a _ => Code.part p a
 | 1 :: p, .cond _ _ b => Code.part p b
 | 0 :: p, .block _ c => Code.part p c
 | 0 :: p, .scope c => Code.part p c
 | 0 :: p, .loop c => Code.part p c
 | 0 :: p, .rangeFunc _ _ a _ => Code.part p a
 | 1 :: p, .rangeFunc _ _ _ b => Code.part p b
 | _, c => c
def zO (P : Program) (f : FuncId) : Code := match P.funcs[f]? with | some fn => (match fn.body with | some c => c | none => .skip) | none => .skip

def xHE (P : Program) (rd : Option Nat) (c : Code) (fr : Fr) (σ : St) (e : Exit) (fr' : Fr) (σ' : St) : Prop :=
 ∃ N0, ∀ N, N0 ≤ N → yI P (zS P N) N rd c fr σ = some (e, fr', σ')
def yIP (P : Program) (rd : Option Nat) (c : Code) (fr : Fr) (σ : St) (e : Exit) (fr' : Fr) (σ' : St) : Prop :=
 ∃ N0, ∀ N m, N0 ≤ N → N0 ≤ m → zBS (yI P (zS P N) N rd c) m fr σ = some (e, fr', σ')
section
variable {P : Program} {rd : Option Nat} {c : Code} {fr fr' fr₁ : Fr} {σ σ' σ₁ : St} {e : Exit}
theorem yIP.step (h : xHE P rd c fr σ .normal fr₁ σ₁) (k : yIP P rd c fr₁ σ₁ e fr' σ') : yIP P rd c fr σ e fr' σ' := by
 obtain ⟨N1, h1⟩ := h
 obtain ⟨N2, h2⟩ := k
 refine ⟨N1 + N2 + 1, fun N m hN hm => ?_⟩
 obtain ⟨m, rfl⟩ : ∃ m', m = m' + 1 := ⟨m - 1, by omega⟩
 simp only [zBS, h1 N (by omega)]
 exact h2 N m (by omega) (by omega)
theorem yIP.exit (h : xHE P rd c fr σ e fr' σ') (he : e ≠ .normal) : yIP P rd c fr σ e fr' σ' := by
 obtain ⟨N1, h1⟩ := h
 refine ⟨N1 + 1, fun N m hN hm => ?_⟩
 obtain ⟨m, rfl⟩ : ∃ m', m = m' + 1 := ⟨m - 1, by omega⟩
 simp only [zBS, h1 N (by omega)]
 split
 ·rename_i heq; cases heq; exact absurd rfl he
 ·rfl
end

structure Keep (n0 : Nat) (σ σ' : St) : Prop where
 y : σ.y ≤ σ'.y
 get : ∀ b, b < n0 → yC σ'.heap b = yC σ.heap b
 low : min σ.low n0 ≤ σ'.low
section
variable {P : Program} {σ σ' : St} {a : Addr} {cs : List Value} {n0 : Nat}
theorem Keep.trans {σ₁ σ₂ σ₃ : St} (h : Keep n0 σ₁ σ₂) (k : Keep n0 σ₂ σ₃) : Keep n0 σ₁ σ₃ := ⟨Nat.le_trans h.y k.y, fun b hb => (k.get b hb).trans (h.get b hb), by have := h.low; have := k.low; omega⟩
theorem Keep.add (hn : n0 ≤ σ.y) (y : Blk) : Keep n0 σ (σ.add y) := ⟨by simp, fun b hb => by rw [St.add_get, if_neg (by omega)], by simp; omega⟩
theorem Keep.put {b : Nat} (hb : n0 ≤ b) (y : Blk) : Keep n0 σ (σ.put b y) := ⟨by simp, fun c hc => by rw [St.put_get, if_neg (by omega)], by simp; omega⟩
theorem Row.keep (h : Row σ a cs) (k : Keep n0 σ σ') (hb : a.block < n0) : Row σ' a cs := ⟨by
 have := h.rd
 unfold yH at this ⊢
 rw [k.get _ hb]; exact this, Nat.lt_of_lt_of_le h.lt k.y⟩
theorem SlP.keep {n len : Nat} {p : Option Addr} {l : List Value} (h : SlP σ n p len l) (k : Keep σ.y σ σ') : SlP σ' n p len l := by
 refine ⟨h.1, ?_⟩
 cases p with
 | none => exact h.2
 | some a =>
  have hr : Row σ a l := h.2
  exact hr.keep k hr.lt

inductive App (σ : St) (n0 n : Nat) : Value → Nat → List Value → Prop
 | nil : App σ n0 n (.slice none 0 0) 0 []
 | more {b s nx len : Nat} {cs : List Value} {sp : Option Nat} {log : List (Nat × Nat)} (h : yC σ.heap b = some (.cells cs n ((s, cs.length) :: log) nx false)) (hs : sp.getD 0 = s) (hb : n0 ≤ b) (hlt : b < σ.y) (hl : cs.length = len * n) (hp : 0 < len) (hsn : s < nx) :
   App σ n0 n (.slice (some ⟨b, 0, sp⟩) len (len + vM)) len cs

def xAO : TypeDesc → Bool
 | .int _ => true
 | _ => false
structure AppT (P : Program) (st xt e n : Nat) : Prop where
 el : wF P st = some (e, n)
 src : ∃ xd, P.underlying xt = some xd ∧ xAO xd = false
 info : ∃ ei z, P.info? e = some ei ∧ ei.zero = some z ∧ ei.bytes ≤ 4096 ∧ zQ RD z = true ∧ Nat.beq z.cells.toList.length n = true
 le : n ≤ 4096
 pos : 0 < n
def xGZ (P : Program) (st xt e n : Nat) : Bool :=
 (match wF P st with | some (e', n') => Nat.beq e e' && Nat.beq n n' | none => false) &&
 (match P.underlying xt with | some xd => !xAO xd | none => false) &&
 (match P.info? e with | some ei => (match ei.zero with | some z => Nat.ble ei.bytes 4096 && zQ RD z && Nat.beq z.cells.toList.length n | none => false) | none => false) &&
 Nat.ble n 4096 && Nat.blt 0 n
theorem zRE {P : Program} {st xt e n : Nat} (h : xGZ P st xt e n = true) : AppT P st xt e n := by
 unfold xGZ at h
 simp only [Bool.and_eq_true] at h
 obtain ⟨⟨⟨⟨h1, h2⟩, h3⟩, h4⟩, h5⟩ := h
 refine ⟨?_, ?_, ?_, (zN _ _).1 h4, (zN _ _).1 h5⟩
 ·split at h1
  ·rename_i e' n' he
   simp only [Bool.and_eq_true] at h1
   rw [he, Nat.eq_of_beq_eq_true h1.1, Nat.eq_of_beq_eq_true h1.2]
  ·cases h1
 ·split at h2
  ·rename_i xd hx; exact ⟨xd, hx, by simpa using h2⟩
  ·cases h2
 ·split at h3
  ·rename_i ei hi
   split at h3
   ·rename_i z hz
    simp only [Bool.and_eq_true] at h3
    exact ⟨ei, z, hi, hz, (zN _ _).1 h3.1.1, h3.1.2, h3.2⟩
   ·cases h3
  ·cases h3

theorem zAW (x : Nat) : yE (x + vM) = x := by unfold yE; rw [if_pos (by omega)]; omega
theorem zJK (x : Nat) : yM (x + vM) = false := by rw [Bool.eq_false_iff]; intro e; have := (yQ _).1 e; omega
theorem vA : 0 < vM := by unfold vM; decide

theorem yOP {st xt e n m k len : Nat} {v : Value} {a2 : Addr} {xs : List Value} (T : AppT P st xt e n) (hA : App σ n0 n v len cs) (hr : Row σ a2 xs) (hm : xs.length = m * n) (hp : 0 < m) (hroom : len + m ≤ 1073741824) (hc : xs.all cellB = true) (hn0 : n0 ≤ σ.y) :
  ∃ v' σ', zZ P st xt v (.slice (some a2) m k) σ = some (v', σ') ∧ App σ' n0 n v' (len + m) (cs ++ xs) ∧ Keep n0 σ σ' := by
 obtain ⟨xd, hxd, hxi⟩ := T.src
 obtain ⟨ei, z, hei, hz, hby, hrz, hzl⟩ := T.info
 have hrd := hr.rd
 rw [hm] at hrd
 have hsrc : vT σ n z xd (.slice (some a2) m k) = some (m, xs) := by
  unfold vT
  cases xd with
  | int _ => cases hxi
  | _ => simp only [xL, hrd, Option.map_some]
 have hcond : (uN (len + m) n ei.bytes && xs.all cellB && Nat.beq xs.length (m * n) && zQ RD z && Nat.beq z.cells.toList.length n) = true := by
  unfold uN
  rw [(zN _ _).2 hroom, (zN _ _).2 T.le, (zN _ _).2 hby, hc, hm, Nat.beq_refl, hrz, hzl]; rfl
 have hble : ∀ x : Nat, Nat.ble (x + m) x = false := fun x => by rw [Bool.eq_false_iff]; intro e; have := (zN _ _).1 e; omega
 cases hA with
 | nil =>
  refine ⟨.slice (some ⟨σ.y, 0, none⟩) (0 + m) (0 + m + vM), σ.add (.cells xs n [(0, xs.length)] 1 false), ?_, ?_, Keep.add hn0 _⟩
  ·have hc0 : yE 0 = 0 := by unfold yE; have := vA; rw [if_neg (by omega)]
   have hc1 : yM 0 = true := (yQ 0).2 vA
   unfold zZ
   simp only [T.el, hxd, hei, hz, hsrc, hcond, cond_true, wH, hc0, hble, cond_false, hc1, Nat.beq_refl, yF]
  ·have e1 : 0 + m = m := Nat.zero_add m
   rw [e1, List.nil_append]
   exact .more (b := σ.y) (s := 0) (nx := 1) (log := []) (by rw [St.add_get, if_pos rfl]) rfl hn0 (by simp) hm hp (by omega)
 | @more b s nx _ _ sp log h hs hb hlt hl hpp hsn =>
  have hex : wE ((s, cs.length) :: log) (zU ⟨b, 0, sp⟩) = some cs.length := by
   have : Nat.beq s (zU ⟨b, 0, sp⟩) = true := by unfold zU; simp only [hs]; exact Nat.beq_refl _
   simp only [wE, this, cond_true]
  have hlf : xO ((s, cs.length) :: log) (zU ⟨b, 0, sp⟩) = (s, cs.length) :: log := by
   have : Nat.beq s (zU ⟨b, 0, sp⟩) = true := by unfold zU; simp only [hs]; exact Nat.beq_refl _
   simp only [xO, this, cond_true]
  have hg : (Nat.beq len len && Nat.beq (0 + len * n) cs.length && Nat.beq n n && !false && Nat.blt 0 n) = true := by
   rw [Nat.beq_refl, Nat.zero_add, hl, Nat.beq_refl, Nat.beq_refl, (zAO 0 n).2 T.pos]; rfl
  refine ⟨.slice (some ⟨b, 0, some nx⟩) (len + m) (len + m + vM), σ.put b (.cells (cs.take cs.length ++ xs) n ((nx, cs.length + m * n) :: (s, cs.length) :: log) (nx + 1) false), ?_, ?_, Keep.put hb _⟩
  ·unfold zZ
   simp only [T.el, hxd, hei, hz, hsrc, hcond, cond_true, wH, zAW, hble, cond_false, zJK, zET, h, hex, hg, zBC, xQ, St.write_eq, hlf]
  ·refine .more (b := b) (s := nx) (nx := nx + 1) (log := (s, cs.length) :: log) ?_ rfl hb hlt ?_ (by omega) (by omega)
   ·rw [St.put_get, if_pos rfl, List.take_length]
    simp [hm]
   ·simp [hl, hm, Nat.add_mul]
theorem App.sl {v : Value} {n len : Nat} (h : App σ n0 n v len cs) : ∃ p cap, v = .slice p len cap ∧ SlP σ n p len cs := by
 cases h with
 | nil => exact ⟨none, 0, rfl, SlP.nil _ _⟩
 | @more b s nx _ _ sp log h hs hb hlt hl hp hsn =>
  refine ⟨_, _, rfl, hl, ?_, hlt⟩
  have hex : wE ((s, cs.length) :: log) (zU ⟨b, 0, sp⟩) = some cs.length := by
   have : Nat.beq s (zU ⟨b, 0, sp⟩) = true := by unfold zU; simp only [hs]; exact Nat.beq_refl _
   simp only [wE, this, cond_true]
  have h2 : Nat.ble (0 + cs.length) cs.length = true := (zN _ _).2 (by omega)
  unfold yH
  simp only [h, hex, h2, cond_true, List.drop_zero, List.take_length]
theorem App.keep {v : Value} {n len : Nat} (h : App σ n0 n v len cs) (hk : Le σ σ') : App σ' n0 n v len cs := by
 cases h with
 | nil => exact .nil
 | more h hs hb hlt hl hp hsn => exact .more (by rw [hk.get _ hlt]; exact h) hs hb (Nat.lt_of_lt_of_le hlt hk.y) hl hp hsn
def xS (vs : List Value) : List Value := vs.flatMap fun v => v.cells.toList
def zIQ (P : Program) (t : TypeId) (n : Nat) (v : Value) : Prop :=
 (wK P t = some false ∧ n = 1 ∧ v.cells.toList = [v]) ∨ (wK P t = some true ∧ yN P t = some n ∧ ∃ cs : List Value, v = .agg ⟨cs⟩ ∧ cs.length = n)
theorem zIQ.len {t n : Nat} {v : Value} (h : zIQ P t n v) : v.cells.toList.length = n := by
 rcases h with ⟨_, h1, h2⟩ | ⟨_, _, ds, rfl, h⟩
 ·rw [h2, h1]; rfl
 ·exact h
theorem zUM {t n : Nat} : ∀ {vs : List Value} {i : Nat} {v : Value}, (∀ v ∈ vs, zIQ P t n v) → vs[i]? = some v → ((xS vs).drop (i * n)).take n = v.cells.toList ∧ i * n + n ≤ (xS vs).length
 | [], i, v, _, h => by simp at h
 | x :: vs, 0, v, hv, h => by
  simp at h; subst h
  have h1 := (hv x (by simp)).len
  unfold xS
  rw [List.flatMap_cons, Nat.zero_mul, List.drop_zero, Nat.zero_add, List.length_append]
  exact ⟨by rw [← h1, List.take_left'  rfl], by omega⟩
 | x :: vs, i + 1, v, hv, h => by
  have h1 := (hv x (by simp)).len
  have ih := zUM (vs := vs) (i := i) (v := v) (fun x hx => hv x (by simp [hx])) (by simpa using h)
  unfold xS at ih ⊢
  rw [List.flatMap_cons, Nat.add_mul, Nat.one_mul, List.length_append]
  refine ⟨?_, by omega⟩
  rw [show i * n + n = x.cells.toList.length + i * n by omega, List.drop_append]
  simp only [Nat.add_sub_cancel_left]
  rw [List.drop_of_length_le (by omega), List.nil_append]
  exact ih.1
theorem Row.el {vs : List Value} {t n i : Nat} {v : Value} (h : Row σ a (xS vs)) (he : ∀ v ∈ vs, zIQ P t n v) (hv : vs[i]? = some v) : zB P σ t (zH a (i * n)) = some v := by
 obtain ⟨h1, h2⟩ := zUM he hv
 rcases he v (List.mem_of_getElem? hv) with ⟨g1, g2, g3⟩ | ⟨g1, g2, ds, rfl, g3⟩
 ·subst g2
  refine h.load1 g1 ?_
  rw [g3] at h1
  have := congrArg (fun l => l[0]?) h1
  simp only [List.getElem?_cons_zero] at this
  rw [List.getElem?_take_of_lt (by omega), List.getElem?_drop] at this
  simpa using this
 ·exact h.loadN g1 g2 h1 g3 h2
def SlV (P : Program) (σ : St) (t n : Nat) (p : Option Addr) (len : Nat) (vs : List Value) : Prop := SlP σ n p len (xS vs) ∧ vs.length = len ∧ ∀ v ∈ vs, zIQ P t n v
theorem SlV.le {t n len : Nat} {p : Option Addr} {vs : List Value} (h : SlV P σ t n p len vs) (k : Le σ σ') : SlV P σ' t n p len vs := ⟨h.1.le k, h.2⟩
theorem SlV.row {t n len : Nat} {p : Option Addr} {vs : List Value} (h : SlV P σ t n p len vs) {ds : List Value} {m : Nat} : SlV P (σ.row ds m) t n p len vs := ⟨h.1.row, h.2⟩
theorem SlV.re {t n len : Nat} {p : Option Addr} {vs : List Value} (h : SlV P σ t n p len vs) : SlV P σ.re t n p len vs := ⟨h.1.re, h.2⟩
theorem SlV.keep {t n len : Nat} {p : Option Addr} {vs : List Value} (h : SlV P σ t n p len vs) (k : Keep σ.y σ σ') : SlV P σ' t n p len vs := ⟨h.1.keep k, h.2⟩
theorem SlV.own {t n len : Nat} {p : Option Addr} {vs : List Value} (h : SlV P σ t n p len vs) {b m : Nat} {ds : List Value} (hb : σ.y ≤ b ∨ ∀ a, p = Option.some a → a.block ≠ b) : SlV P (σ.own b ds m) t n p len vs := ⟨h.1.own hb, h.2⟩
theorem SlV.some {t n len i : Nat} {p : Option Addr} {vs : List Value} (h : SlV P σ t n p len vs) (hi : i < len) : ∃ a, p = .some a ∧ Row σ a (xS vs) := h.1.some (by omega)
theorem SlV.at {t n len i : Nat} {p : Option Addr} {vs : List Value} {a : Addr} {v : Value} (h : SlV P σ t n p len vs) (hp : p = Option.some a) (hv : vs[i]? = Option.some v) : zB P σ t (zH a (Int.toNat (i : Int) * n)) = Option.some v := by
 subst hp
 have hr : Row σ a (xS vs) := h.1.2
 rw [Int.toNat_natCast]
 exact hr.el h.2.2 hv
theorem zDJ {t : Nat} (h : wK P t = some false) (k : IntKind) (n : Int) : zIQ P t 1 (.int k n) := .inl ⟨h, rfl, rfl⟩

end
end Go.Lay

namespace Go.Lay
open Go

def zFU (ι : Inj) (b c o z : Nat) : Inj := { ι with loc := fun b' s => if b' = b ∧ s = 0 then some ⟨c, 0, o, z⟩ else ι.loc b' s }
structure Ro (ι : Inj) (w : World) : Prop where
 own : ∀ c, ι.own c = none
 csz : ∀ (c : Nat) arr el fr, w.heap[c]? = some (.cells arr el fr) → ι.csz c = arr.size
def yED (w : World) : Inj := { loc := fun _ _ => none, own := fun _ => none, csz := fun c => match w.heap[c]? with | some (.cells arr _ _) => arr.size | _ => 0 }
theorem yYA (w : World) : Rep (yED w) xAC w ∧ Ro (yED w) w :=
 ⟨⟨fun b y h => by simp [xAC, yC, Tr.getP_leaf] at h, fun _ _ _ h => by simp [yED] at h, fun _ _ h => by simp [yED] at h, fun _ _ _ => rfl⟩, ⟨fun _ => rfl, fun c arr el fr h => by simp [yED, h]⟩⟩

section
variable {P : Program} {w : World} {ι : Inj} {σ σ' : St}

theorem zWR (hr : Rep ι σ w) (c o z : Nat) : Sub ι (zFU ι σ.y c o z) := by
 refine ⟨fun b s L h => ?_, fun _ _ _ _ => rfl⟩
 simp only [zFU]
 rw [if_neg]; exact h
 rintro ⟨rfl, rfl⟩
 rw [hr.fresh _ _ (Nat.le_refl _)] at h; cases h

theorem xIV (hr : Rep ι σ w) (ho : Ro ι w) {c o : Nat} {arr : Array Value} {el : TypeId} {fr : Nat × Nat} (hc : w.heap[c]? = some (.cells arr el fr)) {rs : List Value} (z : Nat) (hl : o + rs.length ≤ arr.size)
  (hv : ∀ (j : Nat) v, rs[j]? = some v → ∃ v', arr[o + j]? = some v' ∧ VR ι v v') :
  Rep (zFU ι σ.y c o z) (σ.add (.cells rs z [(0, rs.length)] 1 true)) w ∧ Ro (zFU ι σ.y c o z) w := by
 have hs := zWR hr c o z
 have hcw : c < w.heap.size := by
  have := (Array.getElem?_eq_some_iff.1 hc).1; exact this
 refine ⟨⟨fun b y hb => ?_, fun b s L h => ?_, fun c' b h => ?_, fun b s h => ?_⟩, ⟨ho.own, ho.csz⟩⟩
 ·rw [St.add_get] at hb
  by_cases hbn : b = σ.y
  ·rw [if_pos hbn] at hb; cases hb; subst hbn
   refine ⟨by simp, .cells (fun s e hm => ?_) (by simp) (fun s₁ e₁ s₂ e₂ L₁ L₂ h₁ h₂ l₁ l₂ _ => ?_) (fun s hs' => ?_)⟩
   ·simp at hm; obtain ⟨rfl, rfl⟩ := hm
    refine ⟨by omega, Nat.le_refl _, ⟨c, 0, o, z⟩, by simp [zFU], ⟨arr, el, fr, hc, (ho.csz _ _ _ _ hc).symm, by simp, by simpa using hl, fun j _ h2 => ?_⟩, rfl, Nat.zero_le _, by simpa [zFU] using ho.own c⟩
    obtain ⟨v', g1, g2⟩ := hv j rs[j] (by simp [h2])
    exact ⟨rs[j], v', by simp [h2], by simpa using g1, g2.sub hs⟩
   ·simp at h₁ h₂
    obtain ⟨rfl, _⟩ := h₁
    obtain ⟨rfl, _⟩ := h₂
    rw [l₁] at l₂; cases l₂; rfl
   ·simp only [zFU]
    rw [if_neg (by omega)]; exact hr.fresh _ _ (Nat.le_refl _)
  ·rw [if_neg hbn] at hb
   have h := hr.blk b y hb
   refine ⟨by simp; omega, h.2.keepS hs (fun s L _ => rfl) (fun _ _ _ _ => rfl) (fun cs esz log next ro hyy s hs' => ?_)⟩
   have := h.2; subst hyy
   cases this with
   | cells _ _ _ fresh =>
    simp only [zFU]
    rw [if_neg (fun e => hbn e.1)]; exact fresh s hs'
 ·simp only [zFU] at h
  split at h
  ·cases h; exact hcw
  ·exact hr.lt _ _ _ h
 ·have : ι.own c' = some b := h
  rw [ho.own c'] at this; cases this
 ·simp only [zFU]
  simp at h
  rw [if_neg (by omega)]; exact hr.fresh _ _ (by omega)

def zOA (P : Program) : List Field → Nat → Nat → Bool
 | [], o, tot => Nat.beq o tot
 | f :: fs, o, tot => Nat.beq f.offset o && zOA P fs (o + P.cellsOf f.type) tot
def zEB (P : Program) : Nat → TypeId → Bool
 | 0, _ => false
 | n + 1, t => match P.underlying t with
  | some .bool => true
  | some (.int _) => true
  | some .string => true
  | some (.slice e) => Nat.blt 0 (P.cellsOf e) && zEB P n e
  | some (.struct fs) => zOA P fs.toList 0 (P.cellsOf t) && fs.toList.all fun f => zEB P n f.type
  | _ => false
def WT (P : Program) (σ : St) : Nat → TypeId → List Value → Prop
 | 0, _, _ => False
 | n + 1, t, cs => match P.underlying t with
  | some .bool => ∃ b, cs = [.bool b]
  | some (.int k) => ∃ i, cs = [.int k i] ∧ k.min ≤ i ∧ i ≤ k.max
  | some .string => ∃ s : ByteArray, cs = [.string s] ∧ s.size ≤ maxLen
  | some (.slice e) => cs = [.slice none 0 0] ∨ ∃ b len cap rs, cs = [.slice (some ⟨b, 0, none⟩) len cap] ∧ len ≤ maxLen ∧ (len ≤ yE cap ∧ yM cap = true) ∧ rs.length = len * P.cellsOf e ∧
    yC σ.heap b = some (.cells rs (P.cellsOf e) [(0, rs.length)] 1 true) ∧ b < σ.y ∧ ∀ i, i < len → WT P σ n e ((rs.drop (i * P.cellsOf e)).take (P.cellsOf e))
  | some (.struct fs) => cs.length = P.cellsOf t ∧ ∀ f ∈ fs.toList, f.offset + P.cellsOf f.type ≤ cs.length ∧ WT P σ n f.type ((cs.drop f.offset).take (P.cellsOf f.type))
  | _ => False

theorem WT.le : ∀ {n : Nat} {t : TypeId} {cs : List Value}, WT P σ n t cs → Le σ σ' → WT P σ' n t cs := by
 intro n
 induction n with
 | zero => intro t cs h; exact h.elim
 | succ n ih =>
  intro t cs h k
  unfold WT at h ⊢
  split at h <;> rename_i hu
  ·exact h
  ·exact h
  ·exact h
  ·rcases h with h | ⟨b, len, cap, rs, h1, h2, h3, h4, h5, h6, h7⟩
   ·exact .inl h
   ·exact .inr ⟨b, len, cap, rs, h1, h2, h3, h4, by rw [k.get _ h6]; exact h5, Nat.lt_of_lt_of_le h6 k.y, fun i hi => ih (h7 i hi) k⟩
  ·exact ⟨h.1, fun f hf => ⟨(h.2 f hf).1, ih (h.2 f hf).2 k⟩⟩
  ·exact h.elim

theorem yHP {a : Addr} {arr : Array Value} {el : TypeId} {fr : Nat × Nat} (hc : w.heap[a.block]? = some (.cells arr el fr)) (hs : a.spot = none) (m i : Nat) : w.cell? ((a.add m).add i) = arr[a.off + m + i]? := by
 have key : ∀ (x : Addr) (j : Nat), x.spot = none → (x.add j).block = x.block ∧ (x.add j).off = x.off + j ∧ (x.add j).spot = none := by
  intro x j hx
  unfold Addr.add
  split
  ·rename_i e; subst e; exact ⟨rfl, rfl, hx⟩
  ·exact ⟨rfl, rfl, rfl⟩
 obtain ⟨k1, k2, k3⟩ := key a m hs
 obtain ⟨k4, k5, k6⟩ := key (a.add m) i k3
 simp only [World.cell?, k4, k1, hc, k6, k5, k2, Option.isSome_none]
 rfl

variable {H : Type} {enc : TypeId × Value → H} {held : Bool}

def zKY (w : World) (cs' : List Value) : Prop := ∀ A len cap, Value.slice (some A) len cap ∈ cs' → ∃ (c : Nat) (arr : Array Value) (el : TypeId) (fr : Nat × Nat), w.heap[c]? = some (.cells arr el fr)
def zZW (P : Program) (w : World) (ι : Inj) (σ : St) (cs' : List Value) (Q : St → List Value → Prop) : Prop :=
 ∃ ι' σ' cs, Rep ι' σ' w ∧ Ro ι' w ∧ Sub ι ι' ∧ Le σ σ' ∧ VRs ι' cs cs' ∧ Q σ' cs

theorem zZH : ∀ {fs : List Field} {o tot : Nat}, zOA P fs o tot = true → o ≤ tot
 | [], o, tot, h => by have := Nat.eq_of_beq_eq_true h; omega
 | f :: fs, o, tot, h => by
  simp only [zOA, Bool.and_eq_true] at h
  have := zZH h.2; omega

theorem yFR {n fuel : Nat}
  (ih : ∀ t, zEB P n t = true → ∀ fuel cs' x ι σ, DataW.trod enc P w 0 (fun _ => true) held fuel t cs' = some x → Rep ι σ w → Ro ι w → zKY w cs' → zZW P w ι σ cs' fun σ' cs => WT P σ' n t cs) {cs' : List Value} (hrow : zKY w cs') :
  ∀ (fs : List Field) (o : Nat) (ι : Inj) (σ : St), zOA P fs o cs'.length = true → (∀ f ∈ fs, zEB P n f.type = true) → (∀ f ∈ fs, ∃ x, DataW.trod enc P w 0 (fun _ => true) held fuel f.type ((cs'.drop f.offset).take (P.cellsOf f.type)) = some x) →
   Rep ι σ w → Ro ι w → zZW P w ι σ (cs'.drop o) fun σ' cs => ∀ f ∈ fs, o ≤ f.offset ∧ f.offset + P.cellsOf f.type ≤ cs'.length ∧ WT P σ' n f.type ((cs.drop (f.offset - o)).take (P.cellsOf f.type)) := by
 intro fs
 induction fs with
 | nil =>
  intro o ι σ hc _ _ hr ho
  have := Nat.eq_of_beq_eq_true hc
  refine ⟨ι, σ, [], hr, ho, Sub.refl _, Le.refl _, ?_, fun f hf => by cases hf⟩
  rw [List.drop_of_length_le (by omega)]; exact .nil
 | cons f fs ihf =>
  intro o ι σ hc hp ht hr ho
  simp only [zOA, Bool.and_eq_true] at hc
  have hoff := Nat.eq_of_beq_eq_true hc.1
  have hle := zZH hc.2
  obtain ⟨x, hx⟩ := ht f (by simp)
  obtain ⟨ι₁, σ₁, c1, r1, o1, s1, l1, v1, w1⟩ := ih f.type (hp f (by simp)) _ _ _ ι σ hx hr ho (fun A len cap hm => hrow A len cap (List.mem_of_mem_drop (List.mem_of_mem_take hm)))
  obtain ⟨ι₂, σ₂, c2, r2, o2, s2, l2, v2, w2⟩ := ihf (o + P.cellsOf f.type) ι₁ σ₁ hc.2 (fun g hg => hp g (by simp [hg])) (fun g hg => ht g (by simp [hg])) r1 o1
  have hlen : c1.length = P.cellsOf f.type := by rw [v1.length]; simp; omega
  refine ⟨ι₂, σ₂, c1 ++ c2, r2, o2, s1.trans s2, l1.trans l2, ?_, fun g hg => ?_⟩
  ·have e : cs'.drop o = (cs'.drop f.offset).take (P.cellsOf f.type) ++ cs'.drop (o + P.cellsOf f.type) := by
    rw [hoff, ← List.drop_drop, List.take_append_drop]
   rw [e]
   exact VRs.append (v1.sub s2) v2
  ·rcases List.mem_cons.1 hg with rfl | hg
   ·refine ⟨by omega, by omega, ?_⟩
    rw [hoff, Nat.sub_self, List.drop_zero, ← hlen, List.take_left']
    ·exact w1.le l2
    ·rfl
   ·obtain ⟨g1, g2, g3⟩ := w2 g hg
    refine ⟨by omega, g2, ?_⟩
    have e : (c1 ++ c2).drop (g.offset - o) = c2.drop (g.offset - (o + P.cellsOf f.type)) := by
     rw [List.drop_append, List.drop_of_length_le (by omega), List.nil_append]
     congr 1; omega
    rw [e]; exact g3

theorem zTH {n fuel : Nat} {e : TypeId} {a : Addr} {arr : Array Value} {el : TypeId} {fr : Nat × Nat} (hc : w.heap[a.block]? = some (.cells arr el fr)) (hs : a.spot = none)
  (ih : ∀ fuel cs' x ι σ, DataW.trod enc P w 0 (fun _ => true) held fuel e cs' = some x → Rep ι σ w → Ro ι w → zKY w cs' → zZW P w ι σ cs' fun σ' cs => WT P σ' n e cs) (hr : Rep ι σ w) (ho : Ro ι w) :
  ∀ (k : Nat), (∀ i, i < k → ∃ x, (w.cells? 0 (a.add (i * P.cellsOf e)) (P.cellsOf e)).bind (DataW.trod enc P w 0 (fun _ => true) held fuel e) = some x) →
   ∃ (ι' : Inj) (σ' : St) (rs : List Value), Rep ι' σ' w ∧ Ro ι' w ∧ Sub ι ι' ∧ Le σ σ' ∧ rs.length = k * P.cellsOf e ∧ (∀ i, i < k → WT P σ' n e ((rs.drop (i * P.cellsOf e)).take (P.cellsOf e))) ∧
    ∀ (j : Nat) v, rs[j]? = some v → ∃ v', arr[a.off + j]? = some v' ∧ VR ι' v v'
 | 0, _ => ⟨ι, σ, [], hr, ho, Sub.refl _, Le.refl _, by simp, fun i hi => by omega, fun j v h => by simp at h⟩
 | k + 1, ht => by
  obtain ⟨ι₁, σ₁, rs, r1, o1, s1, l1, n1, w1, v1⟩ := zTH hc hs ih hr ho k (fun i hi => ht i (by omega))
  obtain ⟨x, hx⟩ := ht k (by omega)
  simp only [Option.bind_eq_some_iff] at hx
  obtain ⟨chunk, hch, hx⟩ := hx
  obtain ⟨_, hlen, hcells⟩ := World.cells?_some hch
  obtain ⟨ι₂, σ₂, c, r2, o2, s2, l2, v2, w2⟩ := ih _ _ _ ι₁ σ₁ hx r1 o1 (fun _ _ _ _ => ⟨_, _, _, _, hc⟩)
  have hcl : c.length = P.cellsOf e := by rw [v2.length]; exact hlen
  refine ⟨ι₂, σ₂, rs ++ c, r2, o2, s1.trans s2, l1.trans l2, by rw [List.length_append, n1, hcl, Nat.add_mul]; omega, fun i hi => ?_, fun j v hj => ?_⟩
  ·by_cases hik : i < k
   ·have h1 : i * P.cellsOf e + P.cellsOf e ≤ rs.length := by
     rw [n1, show i * P.cellsOf e + P.cellsOf e = (i + 1) * P.cellsOf e by rw [Nat.add_mul, Nat.one_mul]]
     exact Nat.mul_le_mul_right _ hik
    have e1 : ((rs ++ c).drop (i * P.cellsOf e)).take (P.cellsOf e) = (rs.drop (i * P.cellsOf e)).take (P.cellsOf e) := by
     rw [List.drop_append_of_le_length (by omega), List.take_append_of_le_length (by simp; omega)]
    rw [e1]; exact (w1 i hik).le l2
   ·have : i = k := by omega
    subst this
    rw [← n1, List.drop_left' rfl, List.take_of_length_le (by omega)]; exact w2
  ·by_cases hjr : j < rs.length
   ·rw [List.getElem?_append_left hjr] at hj
    obtain ⟨v', g1, g2⟩ := v1 j v hj
    exact ⟨v', g1, g2.sub s2⟩
   ·rw [List.getElem?_append_right (by omega)] at hj
    obtain ⟨v', g1, g2⟩ := v2.get_some hj
    have hjc : j - rs.length < P.cellsOf e := by rw [← hcl]; exact (List.getElem?_eq_some_iff.1 hj).1
    refine ⟨v', ?_, g2⟩
    have := hcells (j - rs.length) hjc
    rw [yHP hc hs, g1] at this
    rw [← this, ← n1]; congr 1; omega

theorem yMG : ∀ (n : Nat) (t : TypeId), zEB P n t = true → ∀ (fuel : Nat) (cs' : List Value) (x : DataW H × List MemPlace) (ι : Inj) (σ : St), DataW.trod enc P w 0 (fun _ => true) held fuel t cs' = some x → Rep ι σ w → Ro ι w → zKY w cs' →
  zZW P w ι σ cs' fun σ' cs => WT P σ' n t cs := by
 intro n
 induction n with
 | zero => intro t h; simp [zEB] at h
 | succ n ih =>
  intro t hp fuel cs' x ι σ h hr ho hrow
  have one : ∀ (v : Value), zQ RD v = true → cs' = [v] → WT P σ (n + 1) t [v] → zZW P w ι σ cs' fun σ' cs => WT P σ' (n + 1) t cs :=
   fun v hv e hw => ⟨ι, σ, [v], hr, ho, Sub.refl _, Le.refl _, by rw [e]; exact .cons (.refl_rigid _ hv) .nil, hw⟩
  unfold zEB at hp
  split at hp <;> rename_i hu
  ·obtain ⟨b, e, _⟩ := DataW.trod_bool hu h
   exact one _ rfl e (by unfold WT; rw [hu]; exact ⟨b, rfl⟩)
  ·obtain ⟨i, e, _, hw⟩ := DataW.trod_int hu h
   exact one _ rfl e (by unfold WT; rw [hu]; exact ⟨i, rfl, by simpa [Lit.wf] using hw⟩)
  ·obtain ⟨s, e, _, hw⟩ := DataW.trod_string hu h
   exact one _ rfl e (by unfold WT; rw [hu]; exact ⟨s, rfl, hw⟩)
  ·rename_i e
   simp only [Bool.and_eq_true] at hp
   have hpos : 0 < P.cellsOf e := (zAO _ _).1 hp.1
   rcases DataW.trod_slice hu h with ⟨hcs, _⟩ | ⟨a, len, cap, elems, rest, m, rfl, hcs, _, _, hle, hmax, hel, hget, hrest, _⟩
   ·exact one _ rfl hcs (by unfold WT; rw [hu]; exact .inl rfl)
   ·
    have hx : yM cap = true := (yQ cap).2 (by unfold vM; unfold maxLen at hmax; omega)
    obtain ⟨capA, hcapR, hcl, hc0⟩ : ∃ capA, zHA capA cap ∧ (len ≤ yE capA ∧ yM capA = true) ∧ (cap = 0 → capA = 0) :=
     ⟨cap, by unfold zHA; rw [if_pos hx], ⟨by have := (yQ cap).1 hx; unfold yE; rw [if_neg (by omega)]; exact hle, hx⟩, fun e => e⟩
    have fin : ∀ {ι₁ : Inj} {σ₁ : St} {rs : List Value} {c o : Nat} {arr : Array Value} {el : TypeId} {fr : Nat × Nat}, Rep ι₁ σ₁ w → Ro ι₁ w → Sub ι ι₁ → Le σ σ₁ → w.heap[c]? = some (.cells arr el fr) → rs.length = len * P.cellsOf e →
      (∀ i, i < len → WT P σ₁ n e ((rs.drop (i * P.cellsOf e)).take (P.cellsOf e))) → (∀ (j : Nat) v, rs[j]? = some v → ∃ v', arr[o + j]? = some v' ∧ VR ι₁ v v') → o + cap * P.cellsOf e ≤ arr.size →
      (a = ⟨c, o, none⟩ ∨ (len = 0 ∧ capA = 0 ∧ cap = 0)) → zZW P w ι σ cs' fun σ' cs => WT P σ' (n + 1) t cs := by
     intro ι₁ σ₁ rs c o arr el fr hr1 ho1 hs1 hl1 hc hlen hw hv hsz hA
     have hlo : len * P.cellsOf e ≤ cap * P.cellsOf e := Nat.mul_le_mul_right _ hle
     obtain ⟨g1, g2⟩ := xIV hr1 ho1 hc (P.cellsOf e) (by omega) hv
     have hsub := zWR hr1 c o (P.cellsOf e)
     refine ⟨_, _, [.slice (some ⟨σ₁.y, 0, none⟩) len capA], g1, g2, hs1.trans hsub, hl1.trans (Le.add _ _), ?_, ?_⟩
     ·rw [hcs]
      refine .cons (.slice (L := ⟨c, 0, o, P.cellsOf e⟩) (by simp [zFU, zU]) (Nat.zero_le _) ?_ hcapR ?_) .nil
      ·rcases hA with rfl | hA
       ·exact .inl (by simp [Loc.at])
       ·exact .inr ⟨hA.1, by rw [hA.2.1]; unfold yE; split <;> omega, hA.2.2⟩
      ·show o + (0 - 0) + cap * P.cellsOf e ≤ ι₁.csz c
       rw [ho1.csz _ _ _ _ hc]; omega
     ·unfold WT; rw [hu]
      refine .inr ⟨σ₁.y, len, capA, rs, rfl, by omega, hcl, hlen, by rw [St.add_get, if_pos rfl], by simp, fun i hi => (hw i hi).le (Le.add _ _)⟩
    by_cases hcap : cap = 0
    ·
     subst hcap
     have hl0 : len = 0 := by omega
     have hca : capA = 0 := hc0 rfl
     obtain ⟨c, arr, el, fr, hc⟩ := hrow a len 0 (by rw [hcs]; simp)
     exact fin (rs := []) (o := 0) hr ho (Sub.refl _) (Le.refl _) hc (by rw [hl0]; simp) (fun i hi => by omega) (fun j v hj => by simp at hj) (by omega) (.inr ⟨hl0, hca, rfl⟩)
    ·
     have hall : ∀ i, i < cap → ∃ x, (w.cells? 0 (a.add (i * P.cellsOf e)) (P.cellsOf e)).bind (DataW.trod enc P w 0 (fun _ => true) held m e) = some x := by
      intro i hi
      by_cases hil : i < len
      ·exact ⟨elems[i]'(by omega), by rw [hget i hil]; simp⟩
      ·obtain ⟨r1, r2⟩ := hrest rfl
       have := r2 (i - len) (by omega)
       rw [show len + (i - len) = i by omega] at this
       exact ⟨rest[i - len]'(by omega), by rw [this]; simp⟩
     obtain ⟨x0, hx0⟩ := hall 0 (by omega)
     simp only [Option.bind_eq_some_iff] at hx0
     obtain ⟨ch0, hc0, _⟩ := hx0
     obtain ⟨_, hl0, hcell0⟩ := World.cells?_some hc0
     have h00 := hcell0 0 hpos
     have ha0 : (a.add (0 * P.cellsOf e)).add 0 = a := by simp [Addr.add]
     rw [ha0] at h00
     have hsome : ∃ v, w.cell? a = some v := ⟨ch0[0]'(by omega), by rw [h00]; simp⟩
     obtain ⟨v0, hv0⟩ := hsome
     obtain ⟨arr, el, fr, hc, hsp⟩ : ∃ arr el fr, w.heap[a.block]? = some (.cells arr el fr) ∧ a.spot = none := by
      unfold World.cell? at hv0
      split at hv0
      ·rename_i arr el fr hc
       refine ⟨arr, el, fr, hc, ?_⟩
       cases hs : a.spot with
       | none => rfl
       | some s => rw [hs] at hv0; simp at hv0
      ·cases hv0
     obtain ⟨ι₁, σ₁, rs, r1, o1, s1, l1, n1, w1, v1⟩ := zTH hc hsp (fun fuel cs' x ι σ => ih e hp.2 fuel cs' x ι σ) hr ho len (fun i hi => hall i (by omega))
     refine fin r1 o1 s1 l1 hc n1 w1 v1 ?_ (.inl ?_)
     ·obtain ⟨x1, hx1⟩ := hall (cap - 1) (by omega)
      simp only [Option.bind_eq_some_iff] at hx1
      obtain ⟨ch1, hc1, _⟩ := hx1
      obtain ⟨_, hl1, hcell1⟩ := World.cells?_some hc1
      have h1 := hcell1 (P.cellsOf e - 1) (by omega)
      rw [yHP hc hsp] at h1
      have hb : a.off + (cap - 1) * P.cellsOf e + (P.cellsOf e - 1) < arr.size := by
       rcases Nat.lt_or_ge (a.off + (cap - 1) * P.cellsOf e + (P.cellsOf e - 1)) arr.size with hlt | hge
       ·exact hlt
       ·rw [Array.getElem?_eq_none hge] at h1
        have : ch1[P.cellsOf e - 1]? = some (ch1[P.cellsOf e - 1]'(by omega)) := by simp
        rw [this] at h1; cases h1
      have e1 : (cap - 1) * P.cellsOf e + P.cellsOf e = cap * P.cellsOf e := by
       rw [show cap * P.cellsOf e = (cap - 1 + 1) * P.cellsOf e by rw [Nat.sub_add_cancel (by omega)], Nat.add_mul, Nat.one_mul]
      omega
     ·cases a with | mk b o s => simp at hsp; subst hsp; rfl
  ·rename_i fs
   simp only [Bool.and_eq_true] at hp
   obtain ⟨xs, m, rfl, _, hl, hxl, hget⟩ := DataW.trod_struct hu h
   obtain ⟨ι₁, σ₁, c, r1, o1, s1, l1, v1, w1⟩ := yFR (fuel := m) ih hrow fs.toList 0 ι σ (by rw [hl]; exact hp.1) (fun f hf => List.all_eq_true.1 hp.2 f hf) (fun f hf => by
    obtain ⟨i, hi⟩ := List.getElem?_of_mem hf
    have hi2 : fs[i]? = some f := by simpa using hi
    have hlt : i < xs.length := by rw [hxl]; exact (Array.getElem?_eq_some_iff.1 hi2).1
    exact ⟨xs[i], by rw [hget i f hi2]; simp [hlt]⟩) hr ho
   refine ⟨ι₁, σ₁, c, r1, o1, s1, l1, by simpa using v1, ?_⟩
   unfold WT; rw [hu]
   have hcl : c.length = cs'.length := by have := v1.length; simpa using this
   refine ⟨by rw [hcl, hl], fun f hf => ?_⟩
   obtain ⟨_, g2, g3⟩ := w1 f hf
   exact ⟨by omega, by simpa using g3⟩
  ·cases hp
end
end Go.Lay

namespace Go.Lay
open Go

def uO (P : Program) (R : Nat → Rec) (rd : Option Nat) (c : Code) (fr : Fr) (σ : St) (e : Exit) (fr' : Fr) (σ' : St) : Prop := ∃ N0, ∀ N, N0 ≤ N → yI P (R N) N rd c fr σ = some (e, fr', σ')
def zQH (P : Program) (R : Nat → Rec) (rd : Option Nat) (c : Code) (fr : Fr) (σ : St) (e : Exit) (fr' : Fr) (σ' : St) : Prop :=
 ∃ N0, ∀ N m, N0 ≤ N → N0 ≤ m → zBS (yI P (R N) N rd c) m fr σ = some (e, fr', σ')
section
variable {P : Program} {R : Nat → Rec} {rd : Option Nat} {c : Code} {fr fr' fr₁ : Fr} {σ σ' σ₁ : St} {e : Exit}
theorem zQH.step (h : uO P R rd c fr σ .normal fr₁ σ₁) (k : zQH P R rd c fr₁ σ₁ e fr' σ') : zQH P R rd c fr σ e fr' σ' := by
 obtain ⟨N1, h1⟩ := h
 obtain ⟨N2, h2⟩ := k
 refine ⟨N1 + N2 + 1, fun N m hN hm => ?_⟩
 obtain ⟨m, rfl⟩ : ∃ m', m = m' + 1 := ⟨m - 1, by omega⟩
 simp only [zBS, h1 N (by omega)]
 exact h2 N m (by omega) (by omega)
theorem zQH.exit (h : uO P R rd c fr σ e fr' σ') (he : e ≠ .normal) : zQH P R rd c fr σ e fr' σ' := by
 obtain ⟨N1, h1⟩ := h
 refine ⟨N1 + 1, fun N m hN hm => ?_⟩
 obtain ⟨m, rfl⟩ : ∃ m', m = m' + 1 := ⟨m - 1, by omega⟩
 simp only [zBS, h1 N (by omega)]
 split
 ·rename_i heq; cases heq; exact absurd rfl he
 ·rfl
end

section
variable {P : Program} {σ σ' : St}
theorem Own.ld {b n k : Nat} {cs : List Value} {s : Option Nat} (h : Own σ b cs n) (hs : s = none) {t : TypeId} (ht : wK P t = some false) {v : Value} (hv : cs[k]? = some v) : zB P σ t ⟨b, k, s⟩ = some v := by subst hs; exact h.rw.ld ht hv
theorem Own.ldN {b n k m : Nat} {cs ds : List Value} (h : Own σ b cs n) {t : TypeId} (ht : wK P t = some true) (hs : yN P t = some m) (hd : (cs.drop k).take m = ds) (hl : ds.length = m) (hk : k + m ≤ cs.length) : zB P σ t ⟨b, k, none⟩ = some (.agg ⟨ds⟩) :=
 h.rw.ldN ht hs hd hl hk

theorem Row.ld1 {a : Addr} {v : Value} (h : Row σ a [v]) {t : TypeId} (ht : wK P t = some false) : zB P σ t a = some v := by
 have := h.load1 (P := P) ht (k := 0) (v := v) rfl
 simpa [zH] using this
theorem zAJ {n : Nat} {v : Value} (h : zQ RD v = true) : yU RD n v = true := by
 have key : ∀ (d : Nat) (v : Value), zQ d v = true → yU d n v = true := by
  intro d
  induction d with
  | zero => intro v h; simp [zQ] at h
  | succ d ih =>
   intro v h
   have lists : ∀ (l : List Value), l.all (zQ d) = true → l.all (yU d n) = true := fun l hl => List.all_eq_true.2 (fun x hx => ih x (List.all_eq_true.1 hl x hx))
   cases v with
   | agg cs => simp only [zQ] at h; simp only [yU]; exact lists _ h
   | tuple cs => simp only [zQ] at h; simp only [yU]; exact lists _ h
   | iface t x => simp only [zQ] at h; simp only [yU]; exact ih x h
   | pointer a => cases a with | none => rfl | some _ => simp [zQ, vF] at h
   | slice a l c => cases a with | none => rfl | some _ => simp [zQ, vF] at h
   | map a => cases a with | none => rfl | some _ => simp [zQ, vF] at h
   | func fn f c =>
    cases fn with
    | func g => simp only [zQ, Bool.and_eq_true] at h; simp only [yU, Bool.and_eq_true]; exact ⟨⟨trivial, lists _ h.1⟩, lists _ h.2⟩
    | _ => simp [zQ, vF] at h
   | _ => rfl
 exact key RD v h
theorem yG {n : Nat} {a : Addr} (h : a.block < n) : yU RD n (.pointer (some a)) = true := (zAO _ _).2 h
theorem zVF {n l c : Nat} {a : Addr} (h : a.block < n) : yU RD n (.slice (some a) l c) = true := (zAO _ _).2 h
theorem zAI {n l c : Nat} {p : Option Addr} (h : ∀ a, p = some a → a.block < n) : yU RD n (.slice p l c) = true := by
 cases p with
 | none => rfl
 | some a => exact zVF (h a rfl)
theorem zV {n : Nat} : yA n [] := rfl
theorem zR {n : Nat} {v : Value} {vs : List Value} (h : yU RD n v = true) (t : yA n vs) : yA n (v :: vs) := by
 unfold yA at t ⊢
 rw [List.all_cons, h, t]; rfl
theorem Le.own {b n : Nat} {ds : List Value} (h : Le σ σ') (hb : σ.y ≤ b) : Le σ (σ'.own b ds n) := ⟨h.y, fun c hc => by
 show yC (σ'.put _ _).heap c = _
 rw [St.put_get, if_neg (by omega)]; exact h.get c hc⟩
theorem zFP {t n len : Nat} {vs : List Value} (h : SlV P σ t n none len vs) : SlV P σ' t n none len vs := ⟨⟨h.1.1, h.1.2⟩, h.2⟩
theorem vN {t n len : Nat} {p : Option Addr} {vs : List Value} (h : SlV P σ t n p len vs) : ∀ a, p = some a → a.block < σ.y := by
 intro a e; subst e
 exact (show Row σ a (xS vs) from h.1.2).lt
theorem zGT (xs ys : List Value) : xS (xs ++ ys) = xS xs ++ xS ys := by simp [xS]
theorem zAD (xs : List Int) (k : IntKind) : xS (xs.map fun x => .int k x) = xs.map fun x => .int k x := by
 induction xs with
 | nil => rfl
 | cons x xs ih =>
  rw [List.map_cons, show (Value.int k x :: xs.map fun x => Value.int k x) = [Value.int k x] ++ xs.map fun x => Value.int k x from rfl, zGT, ih]
  rfl
theorem App.ge {n0 n len : Nat} {p : Option Addr} {c : Nat} {cs : List Value} (h : App σ n0 n (.slice p len c) len cs) : ∀ a, p = some a → n0 ≤ a.block := by
 intro a e
 subst e
 cases h with
 | more h hs hb hlt hl hp hsn => exact hb
theorem xCL {st xt e n m k len n0 : Nat} {a2 : Addr} {p : Option Addr} {c : Nat} {cs xs : List Value} (T : AppT P st xt e n) (hA : App σ n0 n (.slice p len c) len cs) (hr : Row σ a2 xs) (hm : xs.length = m * n) (hp : 0 < m) (hroom : len + m ≤ 1073741824)
  (hc : xs.all cellB = true) (hn0 : n0 ≤ σ.y) : ∃ p' c' σ', zZ P st xt (.slice p len c) (.slice (some a2) m k) σ = some (.slice p' (len + m) c', σ') ∧ App σ' n0 n (.slice p' (len + m) c') (len + m) (cs ++ xs) ∧ Keep n0 σ σ' := by
 obtain ⟨v', σ', h1, h2, h3⟩ := yOP (k := k) T hA hr hm hp hroom hc hn0
 obtain ⟨p', c', rfl, _⟩ := h2.sl
 exact ⟨p', c', σ', h1, h2, h3⟩
theorem App.slv {n0 n len t : Nat} {p : Option Addr} {c : Nat} {vs : List Value} (h : App σ n0 n (.slice p len c) len (xS vs)) (hl : vs.length = len) (he : ∀ v ∈ vs, zIQ P t n v) : SlV P σ t n p len vs := by
 obtain ⟨p', c', e, hs⟩ := h.sl
 cases e
 exact ⟨hs, hl, he⟩
theorem App.lt {n0 n len : Nat} {p : Option Addr} {c : Nat} {cs : List Value} (h : App σ n0 n (.slice p len c) len cs) : ∀ a, p = some a → a.block < σ.y := by
 intro a e
 subst e
 cases h with
 | more h hs hb hlt hl hp hsn => exact hlt
theorem zNB {f : FuncId} {args : List Value} {v : Value} (h : xIX P f args σ.re v σ') (hl : σ.y ≤ σ'.low) (hv : zQ RD v = true) : zD P f args σ v σ := by
 obtain ⟨N0, hN⟩ := h
 refine ⟨N0, fun N hNN => ?_⟩
 have h1 := hN N hNN
 unfold vD
 rw [show (⟨σ.heap, σ.y, σ.y⟩ : St) = σ.re from rfl, h1]
 show vQ σ v σ' = _
 unfold vQ
 rw [(zN _ _).2 hl, hv]; rfl
structure New (σ σ' : St) : Prop where
 le : Le σ σ'
 low : ∀ m, m ≤ σ.low → m ≤ σ.y → m ≤ σ'.low
theorem New.refl (σ : St) : New σ σ := ⟨Le.refl _, fun _ h _ => h⟩
theorem New.trans {σ₁ σ₂ σ₃ : St} (h : New σ₁ σ₂) (k : New σ₂ σ₃) : New σ₁ σ₃ := ⟨h.le.trans k.le, fun m h1 h2 => k.low m (h.low m h1 h2) (Nat.le_trans h2 h.le.y)⟩
theorem New.row (σ : St) (cs : List Value) (n : Nat) : New σ (σ.row cs n) := ⟨Le.row _ _ _, fun _ h _ => h⟩
theorem New.add (σ : St) (y : Blk) : New σ (σ.add y) := ⟨Le.add _ _, fun _ h _ => h⟩
theorem xJI {f : FuncId} {args : List Value} {v : Value} {Q : Value → St → Prop} (h : xIX P f args σ.re v σ') (hn : New σ.re σ') (hq : Q v σ') (hQ : ∀ s s', Q v s → Le s s' → Q v s') (hr : zQ RD v = true → Q v σ) :
  ∃ v σ'', zD P f args σ v σ'' ∧ New σ σ'' ∧ Q v σ'' := by
 obtain ⟨N0, hN⟩ := h
 have h2 : σ.y ≤ σ'.low := hn.low _ (Nat.le_refl _) (Nat.le_refl _)
 have h3 : σ.y ≤ σ'.y := hn.le.y
 cases hrv : zQ RD v with
 | true =>
  refine ⟨v, σ, ⟨N0, fun N hNN => ?_⟩, New.refl _, hr hrv⟩
  have h1 := hN N hNN
  unfold vD
  rw [show (⟨σ.heap, σ.y, σ.y⟩ : St) = σ.re from rfl, h1]
  show vQ σ v σ' = _
  unfold vQ
  rw [(zN _ _).2 h2, hrv]; rfl
 | false =>
  refine ⟨v, ⟨σ'.heap, σ'.y, min σ.low σ'.low⟩, ⟨N0, fun N hNN => ?_⟩, ⟨⟨h3, fun b hb => hn.le.get b hb⟩, fun m h4 h5 => ?_⟩, hQ _ _ hq ⟨Nat.le_refl _, fun _ _ => rfl⟩⟩
  ·have h1 := hN N hNN
   unfold vD
   rw [show (⟨σ.heap, σ.y, σ.y⟩ : St) = σ.re from rfl, h1]
   show vQ σ v σ' = _
   unfold vQ
   rw [hrv, Bool.and_false, cond_false, (zN _ _).2 h3, cond_true, xQ, zAV]
  ·show m ≤ min σ.low σ'.low
   omega
theorem zX {a b : Int} (h : a ≤ b) : leI a b = true := (uG a b).2 h
theorem yB {a b : Int} (h : ¬ a ≤ b) : leI a b = false := by rw [yBQ]; simp; omega
theorem zJ {a b : Int} (h : a < b) : ltI a b = true := (zEG a b).2 h
theorem zM {a b : Int} (h : ¬ a < b) : ltI a b = false := by rw [yBO]; simp; omega
theorem wJ {a b : Int} (h : a = b) : eqI a b = true := (yRA a b).2 h
theorem xB {a b : Int} (h : ¬ a = b) : eqI a b = false := by rw [Bool.eq_false_iff]; exact fun e => h ((yRA a b).1 e)
theorem zEE {a b : Int} (h : ¬ a = b) : (!eqI a b) = true := by rw [xB h]; rfl
theorem uF {a b : Int} (h : a = b) : (!eqI a b) = false := by rw [wJ h]; rfl
end
end Go.Lay

namespace Go.Lay
open Go
section
variable {P : Program} {rec : Rec} {ι : Inj} {σ σ' : St} {w : World}

def yYX (aw : FuncId) (rec : Rec) : Rec := fun r args σ => match r with
 | .func f => match args with
  | [] => bif Nat.beq f aw then some (.bool true, σ) else rec (.func f) [] σ
  | a :: l => rec (.func f) (a :: l) σ
 | .yield l => rec (.yield l) args σ
def zDW (P : Program) (aw : FuncId) (N : Nat) : Rec := yYX aw (zS P N)
structure ShutF (P : Program) (aw : FuncId) : Prop where
 ok : ∀ (ι : Inj) (σ : St) (w : World), Rep ι σ w → (∃ fn, P.funcs[aw]? = some fn ∧ fn.body.isSome = true ∧ fn.name ≠ "runtime.NumGoroutine") ∧ ∀ n, CallsIn (Fw none) n P aw ⟨[]⟩ w (zHP ι σ w (.bool true) σ)
theorem yEX {aw : FuncId} (h : RecSound P rec) (hc : ShutF P aw) : RecSound P (yYX aw rec) := by
 refine ⟨fun f args σ v σ' hr ι w args' hrep ha => ?_, fun l args σ v σ' hr => h.yield l args σ v σ' hr⟩
 cases args with
 | cons a l => exact h.func f (a :: l) σ v σ' hr ι w args' hrep ha
 | nil =>
  have hr : (bif Nat.beq f aw then some (.bool true, σ) else rec (.func f) [] σ) = some (v, σ') := hr
  rcases zAH hr with ⟨hf, hr⟩ | ⟨_, hr⟩
  ·have hf := Nat.eq_of_beq_eq_true hf
   simp at hr; obtain ⟨rfl, rfl⟩ := hr
   subst hf
   cases ha
   exact hc.ok ι σ w hrep
  ·exact h.func f [] σ v σ' hr ι w args' hrep ha
theorem yJM (hP : ProgOk P) {aw : FuncId} (hc : ShutF P aw) (N : Nat) : RecSound P (zDW P aw N) := yEX (zDY hP N) hc
theorem yVS (hP : ProgOk P) {l : List Ent} (hl : zHN P l) {N : Nat} {f : FuncId} (h : okB (zFC P (yFZ l (zS P N)) N f [] xAC) = true) : ShutF P f := by
 refine ⟨fun ι σ w hr => ?_⟩
 obtain ⟨σ', hb⟩ := xAA h
 obtain ⟨h1, h2⟩ := zCF hP (zKD hP hl N) hb (xHQ w) .nil
 refine ⟨h1, fun n => CallsIn.mono (h2 n) (fun e w' hR => ?_)⟩
 cases e with
 | returned v' =>
  obtain ⟨ι', hv, hg⟩ := hR
  have hs : ∀ c, c < w.heap.size → w'.heap[c]? = w.heap[c]? := fun c hc => hg.pres.same c hc (fun b hb => by simp [yQH] at hb)
  have hv := hv.bool_inv; subst hv
  exact ⟨ι, .bool true, Ext.refl _ _ _, hr.grown hg.pres.size hs, ⟨hg.pres.size, fun c hc _ => hs c hc, hg.pres.tape, hg.pres.os, hg.pres.output, hg.pres.fr⟩, Nat.le_refl _, Nat.le_refl _⟩
 | panicked _ => exact hR.elim
 | outgrown => exact hR.elim
theorem yRV {aw : FuncId} {N : Nat} : vD (zDW P aw N) (.func aw) [] σ = some (.bool true, σ) := by
 unfold vD
 have e : zDW P aw N (.func aw) [] ⟨σ.heap, σ.y, σ.y⟩ = some (.bool true, ⟨σ.heap, σ.y, σ.y⟩) := by
  show (bif Nat.beq aw aw then _ else _) = _
  rw [Nat.beq_refl]; rfl
 rw [e]
 show vQ σ _ _ = _
 unfold vQ
 rw [(zN _ _).2 (Nat.le_refl _)]; rfl

variable {H : Type} {enc : TypeId × Value → H} {held : Bool}
def WTs (P : Program) (σ : St) (n : Nat) : List TypeId → List Value → Prop
 | [], [] => True
 | t :: ts, v :: vs => WT P σ n t v.cells.toList ∧ WTs P σ n ts vs
 | _, _ => False
theorem yMF {n : Nat} {t : TypeId} {v : Value} {d : DataW H} {ps : List MemPlace} (hp : zEB P n t = true) (h : DataW.Trod enc P w 0 (fun _ => true) held t v d ps) (hr : Rep ι σ w) (ho : Ro ι w) (hrow : zKY w v.cells.toList) :
  ∃ ι' σ' av, Rep ι' σ' w ∧ Ro ι' w ∧ Sub ι ι' ∧ Le σ σ' ∧ VR ι' av v ∧ WT P σ' n t av.cells.toList := by
 obtain ⟨fuel, h⟩ := h
 obtain ⟨ι', σ', cs, r1, o1, s1, l1, v1, w1⟩ := yMG n t hp fuel _ _ ι σ h hr ho hrow
 have one : (∀ c, v ≠ .agg c) → v.cells.toList = [v] → ∃ ι' σ' av, Rep ι' σ' w ∧ Ro ι' w ∧ Sub ι ι' ∧ Le σ σ' ∧ VR ι' av v ∧ WT P σ' n t av.cells.toList := by
  intro hna e
  rw [e] at v1
  cases v1 with
  | cons hx hn =>
   cases hn
   rename_i x
   refine ⟨ι', σ', x, r1, o1, s1, l1, hx, ?_⟩
   have hc := hx.cells
   rw [e] at hc
   have : x.cells.toList = [x] := by
    cases x with
    | agg cs =>
     exfalso
     cases hx with
     | atom hat => exact absurd hat (by simp [vF])
     | agg _ _ => exact hna _ rfl
    | _ => rfl
   rw [this]; exact w1
 cases v with
 | agg c =>
  refine ⟨ι', σ', .agg ⟨cs⟩, r1, o1, s1, l1, ?_, w1⟩
  cases c with | mk l => exact VR.agg' v1
 | _ => exact one (by simp) rfl
theorem yFS {n : Nat} : ∀ {ts : List TypeId} {vs : List Value} {ds : List (DataW H)} {ps : List MemPlace} {ι : Inj} {σ : St}, DataW.TrodAll enc P w 0 (fun _ => true) held ts vs ds ps → (∀ t ∈ ts, zEB P n t = true) → Rep ι σ w → Ro ι w → (∀ v ∈ vs, zKY w v.cells.toList) →
  ∃ ι' σ' avs, Rep ι' σ' w ∧ Ro ι' w ∧ Le σ σ' ∧ Sub ι ι' ∧ VRs ι' avs vs ∧ WTs P σ' n ts avs
 | [], [], [], ps, ι, σ, h, _, hr, ho, _ => ⟨ι, σ, [], hr, ho, Le.refl _, Sub.refl _, .nil, trivial⟩
 | t :: ts, v :: vs, d :: ds, ps, ι, σ, h, hp, hr, ho, hrow => by
  obtain ⟨p, q, h1, h2, _⟩ := h
  obtain ⟨ι1, σ1, av, r1, o1, s1, l1, v1, w1⟩ := yMF (hp t (by simp)) h1 hr ho (hrow v (by simp))
  obtain ⟨ι2, σ2, avs, r2, o2, l2, s2, v2, w2⟩ := yFS h2 (fun t ht => hp t (by simp [ht])) r1 o1 (fun v hv => hrow v (by simp [hv]))
  exact ⟨ι2, σ2, av :: avs, r2, o2, l1.trans l2, s1.trans s2, .cons (v1.sub s2) v2, w1.le l2, w2⟩
 | [], _ :: _, _, _, _, _, h, _, _, _, _ => h.elim
 | _ :: _, [], _, _, _, _, h, _, _, _, _ => h.elim
 | [], [], _ :: _, _, _, _, h, _, _, _, _ => h.elim
 | _ :: _, _ :: _, [], _, _, _, h, _, _, _, _ => h.elim

theorem zIH {t : TypeId} {v : Value} (h : Value.okWide P w .any 0 t v) : zKY w v.cells.toList := by
  have cell : ∀ {u : TypeId} {A : Addr} {len cap : Nat}, Cell.okWide P w .any 0 u (.slice (some A) len cap) → ∃ (c : Nat) (arr : Array Value) (el : TypeId) (fr : Nat × Nat), w.heap[c]? = some (.cells arr el fr) := by
    intro u A len cap hc
    have hok : Cell.ok P w .any 0 u (.slice (some A) len cap) := by
      unfold Cell.okWide at hc
      split at hc <;> first | exact hc | (rename_i heq; cases heq)
    unfold Cell.ok at hok
    split at hok <;> first | (rename_i heq; cases heq; done) | skip
    all_goals first
      | (rename_i heq; cases heq; obtain ⟨_, _, _, _, row, cells, hs, _⟩ := hok
         unfold World.shape? at hs
         split at hs
         · rename_i c elem hh; exact ⟨_, _, _, _, hh⟩
         · cases hs)
      | exact hok.elim
      | skip
  intro A len cap hm
  unfold Value.okWide at h
  split at h
  · obtain ⟨cs, rfl, _, ts, _, _, hc⟩ := h
    obtain ⟨i, hi⟩ := List.getElem?_of_mem hm
    obtain ⟨u, _, hu⟩ := hc i _ (by simpa [Value.cells] using hi)
    exact cell hu
  · obtain ⟨cs, rfl, _, ts, _, _, hc⟩ := h
    obtain ⟨i, hi⟩ := List.getElem?_of_mem hm
    obtain ⟨u, _, hu⟩ := hc i _ (by simpa [Value.cells] using hi)
    exact cell hu
  · cases v with
    | slice a l c =>
      simp [Value.cells] at hm
      obtain ⟨rfl, rfl, rfl⟩ := hm
      exact cell h
    | agg cs =>
      exfalso
      unfold Cell.okWide at h
      split at h <;> first | (rename_i heq; cases heq; done) | skip
      unfold Cell.ok at h
      split at h <;> first | (rename_i heq; cases heq; done) | exact h.elim | skip
    | _ => simp [Value.cells] at hm
end
end Go.Lay

namespace Go.Lay
open Go Go.RowKit
theorem zJF {W W' : World} (h : Grown W W') {b : Nat} (hb : b < W.heap.size) : W'.heap[b]? = W.heap[b]? := by
 have := h.1.2.2 b hb
 split at this
 ·rename_i c t fr c' t' fr' h1 h2
  obtain ⟨rfl, rfl, hs, hj⟩ := this
  rw [h1, h2]
  have : c' = c := Array.ext_getElem? (fun j => hj j (fun f => f))
  rw [this]
 ·rename_i h1 h2
  rcases this with f | ⟨rfl, rfl⟩
  ·exact f.elim
  ·rw [h1, h2]
 ·exact this
theorem zWD {W W' : World} (h : Grown W W') {p : MemPlace} (hp : p.block < W.heap.size) : W.sameAt W' p := by
 cases p with
 | cell b o => exact World.cell?_of_block (w := W) (zJF h hp)
 | map b => exact zJF h hp
section
variable {H : Type} {enc : TypeId × Value → H} {P : Program} {w w' : World} {b : Nat} {sp : Nat → Bool} {held : Bool}
theorem zIU : ∀ {ts : List TypeId} {vs : List Value} {ds : List (DataW H)} {ps : List MemPlace}, DataW.TrodAll enc P w b sp held ts vs ds ps → (∀ p ∈ ps, w.sameAt w' p) → DataW.TrodAll enc P w' b sp held ts vs ds ps
 | [], [], [], _, h, _ => h
 | _ :: _, _ :: _, _ :: _, _, ⟨p, q, ⟨n, h1⟩, h2, e⟩, hs => ⟨p, q, ⟨n, DataW.trod_carry _ _ _ _ h1 (fun x hx => hs x (by rw [e]; exact List.mem_append_left _ hx))⟩, zIU h2 (fun x hx => hs x (by rw [e]; exact List.mem_append_right _ hx)), e⟩
theorem yWF (K : Kids P (· < P.types.size)) (hz : ∀ (t : Nat) (e : TypeId), t < P.types.size → P.underlying t = some (.slice e) → 0 < P.cellsOf e) {ts : List TypeId} {vs : List Value} {ds : List (DataW H)} {ps : List MemPlace}
  (hT : ∀ t ∈ ts, t < P.types.size) (h : DataW.TrodAll enc P w 0 (fun _ => true) true ts vs ds ps) (hg : Grown w w') (hlt : ∀ p ∈ ps, p.block < w.heap.size) (hs : ∀ p ∈ ps, sp p.block = true) : DataW.TrodAll enc P w' 0 sp true ts vs ds ps :=
 zIU (DataW.TrodAll.respare K hz hT h hs) (fun p hp => zWD hg (hlt p hp))
end
end Go.Lay

namespace Go.Lay
open Go
section
variable {P : Program} {R : Nat → Rec} {rd : Option Nat} {c : Code} {fr fr' : Fr} {σ σ' : St} {e : Exit} {aw : FuncId}
def yPD (P : Program) (l : Nat) (args : List Value) (σ : St) (v : Value) (σ' : St) : Prop := ∃ N0, ∀ N, N0 ≤ N → vD (zS P N) (.yield l) args σ = some (v, σ')
end
end Go.Lay

namespace Go.Lay
open Go
section
variable {P : Program} {σ σ' : St} {cs : List Value}
end
end Go.Lay

namespace Go.Lay
open Go
structure Only (S : Nat → Prop) (σ σ' : St) : Prop where
 y : σ.y ≤ σ'.y
 get : ∀ b, b < σ.y → ¬ S b → yC σ'.heap b = yC σ.heap b
 low : ∀ m, m ≤ σ.low → m ≤ σ.y → (∀ b, b < σ.y → S b → m ≤ b) → m ≤ σ'.low
section
variable {P : Program} {S T : Nat → Prop} {σ σ' σ₁ σ₂ σ₃ : St} {cs : List Value} {n b : Nat}
theorem Only.refl (S : Nat → Prop) (σ : St) : Only S σ σ := ⟨Nat.le_refl _, fun _ _ _ => rfl, fun _ h _ _ => h⟩
theorem Only.trans (h : Only S σ₁ σ₂) (k : Only T σ₂ σ₃) (hT : ∀ b, b < σ₁.y → T b → S b) (hT2 : ∀ m, m ≤ σ₁.y → (∀ b, b < σ₁.y → S b → m ≤ b) → ∀ b, b < σ₂.y → T b → m ≤ b := by intro m h1 h2 b h3 h4; (first | exact h4.elim | omega)) : Only S σ₁ σ₃ :=
 ⟨Nat.le_trans h.y k.y, fun b hb hs => (k.get b (Nat.lt_of_lt_of_le hb h.y) (fun ht => hs (hT b hb ht))).trans (h.get b hb hs), fun m h1 h2 h3 => k.low m (h.low m h1 h2 h3) (Nat.le_trans h2 h.y) (hT2 m h2 h3)⟩
theorem Only.trans' (h : Only S σ₁ σ₂) (k : Only T σ₂ σ₃) (hT : ∀ b, b < σ₂.y → T b → S b ∨ σ₁.y ≤ b) : Only S σ₁ σ₃ :=
 ⟨Nat.le_trans h.y k.y, fun b hb hs => (k.get b (Nat.lt_of_lt_of_le hb h.y) (fun ht => (hT b (Nat.lt_of_lt_of_le hb h.y) ht).elim hs (fun h => by omega))).trans (h.get b hb hs), fun m h1 h2 h3 => k.low m (h.low m h1 h2 h3) (Nat.le_trans h2 h.y) (fun b hb ht => by
  rcases hT b hb ht with h4 | h4
  ·by_cases hb' : b < σ₁.y
   ·exact h3 b hb' h4
   ·omega
  ·omega)⟩
theorem Only.mono (h : Only S σ σ') (hT : ∀ b, b < σ.y → S b → T b) : Only T σ σ' := ⟨h.y, fun b hb hs => h.get b hb (fun k => hs (hT b hb k)), fun m h1 h2 h3 => h.low m h1 h2 (fun b hb k => h3 b hb (hT b hb k))⟩
theorem New.only (h : New σ σ') : Only S σ σ' := ⟨h.le.y, fun b hb _ => h.le.get b hb, fun m h1 h2 _ => h.low m h1 h2⟩
theorem Only.add (σ : St) (y : Blk) : Only S σ (σ.add y) := (New.add σ y).only
theorem Only.row (σ : St) (cs : List Value) (n : Nat) : Only S σ (σ.row cs n) := (New.row σ cs n).only
theorem Only.put {y : Blk} (hs : σ.y ≤ b ∨ S b) : Only S σ (σ.put b y) := ⟨Nat.le_refl _, fun c hc hs' => by rw [St.put_get, if_neg (by rintro rfl; rcases hs with h | h; omega; exact hs' h)], fun m h1 h2 h3 => by
 simp only [St.put_low]
 rcases hs with h | h
 ·omega
 ·by_cases hb : b < σ.y
  ·have := h3 b hb h; omega
  ·omega⟩
theorem Only.own (hs : σ.y ≤ b ∨ S b) : Only S σ (σ.own b cs n) := Only.put hs
theorem Only.own' (h : Only S σ σ') (k : Own σ b cs n) (hs : ¬ S b) : Own σ' b cs n := ⟨by rw [h.get b k.lt hs]; exact k.get, Nat.lt_of_lt_of_le k.lt h.y⟩
theorem Only.rw' {a : Addr} (h : Only S σ σ') (k : Row σ a cs) (hs : ¬ S a.block) : Row σ' a cs := ⟨by
 have := k.rd
 unfold yH at this ⊢
 rw [h.get _ k.lt hs]; exact this, Nat.lt_of_lt_of_le k.lt h.y⟩
theorem Only.slp' {len : Nat} {p : Option Addr} (h : Only S σ σ') (k : SlP σ n p len cs) (hs : ∀ a, p = some a → ¬ S a.block) : SlP σ' n p len cs := by
 refine ⟨k.1, ?_⟩
 cases p with
 | none => exact k.2
 | some a => exact h.rw' (show Row σ a cs from k.2) (hs a rfl)
theorem Only.slv' {t len : Nat} {p : Option Addr} {vs : List Value} (h : Only S σ σ') (k : SlV P σ t n p len vs) (hs : ∀ a, p = some a → ¬ S a.block) : SlV P σ' t n p len vs := ⟨h.slp' k.1 hs, k.2⟩
theorem Only.app' {n0 len : Nat} {v : Value} (h : Only S σ σ') (k : App σ n0 n v len cs) (hs : ∀ a l c, v = .slice (some a) l c → ¬ S a.block) : App σ' n0 n v len cs := by
 cases k with
 | nil => exact .nil
 | more g1 g2 g3 g4 g5 g6 g7 => exact .more (by rw [h.get _ g4 (hs _ _ _ rfl)]; exact g1) g2 g3 (Nat.lt_of_lt_of_le g4 h.y) g5 g6 g7
theorem Own.low {m : Nat} (h : Own σ b cs n) : Own ⟨σ.heap, σ.y, m⟩ b cs n := ⟨h.get, h.lt⟩
def xIY (P : Program) (R : Nat → Rec) (g : Operand) (ps : Array Tmp) (as bo : Code) (fr : Fr) (σ : St) (e : Exit) (fr' : Fr) (σ' : St) : Prop := ∃ N0, ∀ N, N0 ≤ N → zJW (R N) none g ps as bo fr σ = some (e, fr', σ')
def xDK (ms : List Nat) (σ σ' : St) : Prop := zLB ms σ fun s => s = σ'
theorem zRO : ∀ {ms : List Nat} {σ : St} {K : St → Prop}, xDK ms σ σ' → K σ' → zLB ms σ K
 | [], _, _, h, k => by cases h; exact k
 | _ :: _, _, _, h, k => ⟨h.1, zRO h.2 k⟩
theorem zSA : ∀ {ms : List Nat} {σ : St}, (∀ d ∈ ms, yC σ.heap d = some .defd) → ms.Nodup → ∃ σ', xDK ms σ σ' ∧ σ'.y = σ.y ∧ (∀ b, b ∉ ms → yC σ'.heap b = yC σ.heap b) ∧ ∀ m, m ≤ σ.low → (∀ d ∈ ms, m ≤ d) → m ≤ σ'.low
 | [], σ, _, _ => ⟨σ, rfl, rfl, fun _ _ => rfl, fun _ h _ => h⟩
 | d :: ms, σ, h, hn => by
  have hn := List.nodup_cons.1 hn
  obtain ⟨σ', h1, h2, h3, h4⟩ := zSA (ms := ms) (σ := σ.shut d) (fun c hc => by
   rw [St.shut_get, if_neg (by rintro rfl; exact hn.1 hc)]; exact h c (by simp [hc])) hn.2
  refine ⟨σ', ⟨h d (by simp), h1⟩, h2, fun b hb => ?_, fun m hm hd => h4 m ?_ (fun c hc => hd c (by simp [hc]))⟩
  ·simp at hb
   rw [h3 b hb.2, St.shut_get, if_neg hb.1]
  ·have := hd d (by simp)
   simp; omega
end
end Go.Lay

namespace Go.Lay
open Go
section
variable {P : Program} {σ σ' : St} {cs : List Value}
def AtP (p : Option Addr) (b : Nat) : Prop := ∃ a, p = some a ∧ a.block = b
theorem AtP.none {b : Nat} : ¬ AtP none b := by rintro ⟨a, h, _⟩; cases h
theorem zOL {st xt e n m k len n0 : Nat} {a2 : Addr} {p : Option Addr} {c : Nat} {xs : List Value} (T : AppT P st xt e n) (hA : App σ n0 n (.slice p len c) len cs) (hr : Row σ a2 xs) (hm : xs.length = m * n) (hp : 0 < m) (hroom : len + m ≤ 1073741824)
  (hc : xs.all cellB = true) (hn0 : n0 ≤ σ.y) : ∃ p' c' σ', zZ P st xt (.slice p len c) (.slice (some a2) m k) σ = some (.slice p' (len + m) c', σ') ∧ App σ' n0 n (.slice p' (len + m) c') (len + m) (cs ++ xs) ∧ Only (AtP p) σ σ' ∧ (∀ b, AtP p' b → AtP p b ∨ σ.y ≤ b) := by
 obtain ⟨p', c', σ', h1, h2, h3⟩ := xCL (k := k) T hA hr hm hp hroom hc hn0
 refine ⟨p', c', σ', h1, h2, ?_⟩
 obtain ⟨xd, hxd, hxi⟩ := T.src
 obtain ⟨ei, z, hei, hz, hby, hrz, hzl⟩ := T.info
 have hrd := hr.rd
 rw [hm] at hrd
 have hsrc : vT σ n z xd (.slice (some a2) m k) = some (m, xs) := by
  unfold vT
  cases xd with
  | int _ => cases hxi
  | _ => simp only [xL, hrd, Option.map_some]
 have hcond : (uN (len + m) n ei.bytes && xs.all cellB && Nat.beq xs.length (m * n) && zQ RD z && Nat.beq z.cells.toList.length n) = true := by
  unfold uN
  rw [(zN _ _).2 hroom, (zN _ _).2 T.le, (zN _ _).2 hby, hc, hm, Nat.beq_refl, hrz, hzl]; rfl
 have hble : ∀ x : Nat, Nat.ble (x + m) x = false := fun x => by rw [Bool.eq_false_iff]; intro e; have := (zN _ _).1 e; omega
 cases hA with
 | nil =>
  have hc0 : yE 0 = 0 := by unfold yE; have := vA; rw [if_neg (by omega)]
  have hc1 : yM 0 = true := (yQ 0).2 vA
  unfold zZ at h1
  simp only [T.el, hxd, hei, hz, hsrc, hcond, cond_true, wH, hc0, hble, cond_false, hc1, Nat.beq_refl, yF, Option.some.injEq, Prod.mk.injEq, Value.slice.injEq] at h1
  obtain ⟨⟨rfl, _, _⟩, rfl⟩ := h1
  exact ⟨Only.add _ _, fun b' hb => .inr (by obtain ⟨a, e, rfl⟩ := hb; cases e; exact Nat.le_refl _)⟩
 | @more b' s nx _ _ sp log h hs hb hlt hl hpp hsn =>
  have hex : wE ((s, cs.length) :: log) (zU ⟨b', 0, sp⟩) = some cs.length := by
   have : Nat.beq s (zU ⟨b', 0, sp⟩) = true := by unfold zU; simp only [hs]; exact Nat.beq_refl _
   simp only [wE, this, cond_true]
  have hlf : xO ((s, cs.length) :: log) (zU ⟨b', 0, sp⟩) = (s, cs.length) :: log := by
   have : Nat.beq s (zU ⟨b', 0, sp⟩) = true := by unfold zU; simp only [hs]; exact Nat.beq_refl _
   simp only [xO, this, cond_true]
  have hg : (Nat.beq len len && Nat.beq (0 + len * n) cs.length && Nat.beq n n && !false && Nat.blt 0 n) = true := by
   rw [Nat.beq_refl, Nat.zero_add, hl, Nat.beq_refl, Nat.beq_refl, (zAO 0 n).2 T.pos]; rfl
  unfold zZ at h1
  simp only [T.el, hxd, hei, hz, hsrc, hcond, cond_true, wH, zAW, hble, cond_false, zJK, zET, h, hex, hg, zBC, xQ, St.write_eq, hlf, Option.some.injEq, Prod.mk.injEq, Value.slice.injEq] at h1
  obtain ⟨⟨rfl, _, _⟩, rfl⟩ := h1
  exact ⟨Only.put (.inr ⟨_, rfl, rfl⟩), fun b'' hb => .inl (by obtain ⟨a, e, rfl⟩ := hb; cases e; exact ⟨_, rfl, rfl⟩)⟩
theorem Own.ldI {b n i : Nat} {t : TypeId} {v : Value} (h : Own σ b cs n) (ht : wK P t = some false) (hi : cs[i]? = some v) : zB P σ t (zH ⟨b, 0, none⟩ (Int.toNat (i : Int) * 1)) = some v := by
 rw [Int.toNat_natCast, Nat.mul_one]
 have := h.rw.load1 (P := P) ht (k := i) hi
 exact this
end
end Go.Lay

namespace Go.Lay
open Go
def yBR : Value → Bool
 | .tuple ⟨[]⟩ => true
 | _ => false
theorem yMK {v : Value} (h : yBR v = true) : v = undef := by
 unfold yBR at h
 split at h
 ·rfl
 ·cases h
def shp : Nat → Bool → Tr Value → Bool
 | 0, _, .leaf => true
 | d + 1, c, .node (some v) l r => (c || yBR v) && (shp d false l && shp d true r)
 | _, _, _ => false
def zBL : List Bool → Nat
 | [] => 0
 | b :: p => (bif b then 1 else 0) + 2 * zBL p
def xCC : Bool → List Bool → Prop
 | c, [] => c = true
 | _, b :: p => xCC b p
theorem yJR {g : Nat → Value} : ∀ (d : Nat) (c : Bool) (t : Tr Value) (w a : Nat), shp d c t = true → (∀ p v, xCC c p → Tr.getP p t = some v → g (a + w * zBL p) = v) → t = trF g d w a c
 | 0, c, .leaf, w, a, _, _ => rfl
 | 0, c, .node _ _ _, w, a, h, _ => by simp [shp] at h
 | d + 1, c, .leaf, w, a, h, _ => by simp [shp] at h
 | d + 1, c, .node none l r, w, a, h, _ => by simp [shp] at h
 | d + 1, c, .node (some v) l r, w, a, h, hg => by
  simp only [shp, Bool.and_eq_true] at h
  obtain ⟨h1, h2, h3⟩ := h
  have e1 : v = bif c then g a else undef := by
   cases c with
   | true =>
    have := hg [] v rfl rfl
    simp [zBL] at this
    simp [this]
   | false => simpa using yMK (by simpa using h1)
  have e2 := yJR d false l (w * 2) a h2 (fun p x hp hx => by
   have := hg (false :: p) x (by cases p <;> exact hp) hx
   simp [zBL] at this
   rw [← this]
   congr 1
   rw [Nat.mul_assoc])
  have e3 := yJR d true r (w * 2) (a + w) h3 (fun p x hp hx => by
   have := hg (true :: p) x (by cases p <;> exact hp) hx
   simp only [zBL, cond_true] at this
   rw [← this]
   congr 1
   rw [Nat.mul_add, Nat.mul_one, Nat.mul_assoc, Nat.add_assoc])
  rw [e2, e3, e1]; rfl
theorem yHT : ∀ (p : List Bool), xCC true p → ∀ f, zBL p ≤ f → bits f (zBL p) = p
 | [], _, f, _ => by
  cases f with
  | zero => rfl
  | succ f => simp [bits, zBL]
 | b :: p, hp, f, hf => by
  have hp : xCC b p := hp
  have hpos : 0 < (bif b then 1 else 0) + 2 * zBL p := by
   cases p with
   | nil =>
    have : b = true := hp
    subst this; simp [zBL]
   | cons b2 q =>
    have key : ∀ (q : List Bool) (b : Bool), xCC b q → b = true ∨ 0 < zBL q := by
     intro q
     induction q with
     | nil => intro b h; exact .inl h
     | cons c q ih =>
      intro b h
      rcases ih c h with h1 | h1
      ·right; simp [zBL, h1]; omega
      ·right; simp only [zBL]; omega
    rcases key q b2 hp with h1 | h1
    ·simp [zBL, h1]; omega
    ·simp only [zBL]; omega
  simp only [zBL] at hf ⊢
  match f with
  | 0 => omega
  | f + 1 =>
   have ih : bits f (zBL p) = p := by
    cases p with
    | nil => cases f <;> simp [bits, zBL]
    | cons b2 q => exact yHT (b2 :: q) hp f (by cases b <;> simp at hf <;> omega)
   have hb : Nat.beq ((bif b then 1 else 0) + 2 * zBL p) 0 = false := by
    rw [Bool.eq_false_iff]; intro e; have := Nat.eq_of_beq_eq_true e; omega
   have h2 : ((bif b then 1 else 0) + 2 * zBL p) / 2 = zBL p := by cases b <;> simp <;> omega
   have h3 : Nat.beq (((bif b then 1 else 0) + 2 * zBL p) % 2) 1 = b := by
    cases b
    ·rw [Bool.eq_false_iff]; intro e; have := Nat.eq_of_beq_eq_true e; simp at this
    ·have : ((bif true then 1 else 0) + 2 * zBL p) % 2 = 1 := by simp
     rw [this]; rfl
   simp only [bits, hb, cond_false, h3, h2, ih]
def yBW (n : Nat) (f : Tm) : Bool := Nat.beq f.n n && shp ((way n).length + 1) true f.t
def AG (f : Tm) : List (Nat × Value) → Prop
 | [] => True
 | (i, v) :: l => f.nth i = v ∧ AG f l
def ARf : List (Nat × Value) → Prop
 | [] => True
 | (_, v) :: l => v = v ∧ ARf l
theorem arf : ∀ l : List (Nat × Value), ARf l
 | [] => trivial
 | (_, _) :: l => ⟨rfl, arf l⟩
theorem xGQ {f : Tm} : ∀ {l : List (Nat × Value)}, AG f l → ov l f.nth = f.nth
 | [], _ => rfl
 | (i, v) :: l, h => by
  have ih := xGQ h.2
  funext j
  unfold ov
  cases hb : Nat.beq i j with
  | false => rw [cond_false, ih]
  | true => rw [cond_true, ← Nat.eq_of_beq_eq_true hb, h.1]
theorem yHA {n : Nat} {f : Tm} {l : List (Nat × Value)} (h : yBW n f = true) (hl : AG f l) : f = Fm n (ov l f.nth) := by
 unfold yBW at h
 simp only [Bool.and_eq_true] at h
 obtain ⟨h1, h2⟩ := h
 have h1 := Nat.eq_of_beq_eq_true h1
 subst h1
 rw [xGQ hl]
 have := yJR (g := f.nth) ((way f.n).length + 1) true f.t 1 0 h2 (fun p v hp hv => by
  rw [Nat.zero_add, Nat.one_mul]
  unfold Tm.nth way
  rw [yHT p hp _ (Nat.le_refl _), hv])
 cases f with
 | mk n t => unfold Fm; exact congrArg (Tm.mk n) this

def zEX (R : Nat → Rec) : zMT := fun r args σ v σ' => ∃ N0, ∀ N, N0 ≤ N → vD (R N) r args σ = some (v, σ')
def yIO (n : Nat) : List Alt → Exit → Fr → St → Prop
 | [], _, _, _ => False
 | a :: as, e, fr, σ => (e = a.e ∧ ∃ t g, fr = ⟨Fm n (ov (a.l t) g), a.ms t⟩ ∧ a.Q t σ) ∨ yIO n as e fr σ
def yIN : List (Exit × (St → Prop)) → Exit → St → Prop
 | [], _, _ => False
 | a :: as, e, σ => (e = a.1 ∧ a.2 σ) ∨ yIN as e σ
def zZY (n : Nat) : List Alt → (Exit → Fr → St → Prop) → Prop
 | [], _ => True
 | a :: as, K => (∀ (t : a.T) (g : Nat → Value) (σ : St), a.Q t σ → K a.e ⟨Fm n (ov (a.l t) g), a.ms t⟩ σ) ∧ zZY n as K
def yPC (n : Nat) (l : List (Nat × Value)) (ms : List Nat) : List (Exit × (St → Prop)) → (Exit → Fr → St → Prop) → Prop
 | [], _ => True
 | a :: as, K => (∀ (g : Nat → Value) (σ : St), a.2 σ → K a.1 ⟨Fm n (ov l g), ms⟩ σ) ∧ yPC n l ms as K
theorem zNZ {n : Nat} {K : Exit → Fr → St → Prop} {e : Exit} {fr : Fr} {σ : St} : ∀ {l : List Alt}, zZY n l K → yIO n l e fr σ → K e fr σ
 | [], _, h => h.elim
 | a :: as, hc, h => by
  rcases h with ⟨rfl, t, g, rfl, hq⟩ | h
  ·exact hc.1 t g σ hq
  ·exact zNZ hc.2 h
theorem zUT {n : Nat} {l0 : List (Nat × Value)} {ms : List Nat} {K : Exit → Fr → St → Prop} {e : Exit} {g : Nat → Value} {σ : St} : ∀ {l : List (Exit × (St → Prop))}, yPC n l0 ms l K → yIN l e σ → K e ⟨Fm n (ov l0 g), ms⟩ σ
 | [], _, h => h.elim
 | a :: as, hc, h => by
  rcases h with ⟨rfl, hq⟩ | h
  ·exact hc.1 g σ hq
  ·exact zUT hc.2 h
section
variable (P : Program) (R : Nat → Rec)
def yJ (rd : Option Nat) (c : Code) (n : Nat) (l : List (Nat × Value)) (ms : List Nat) (alts : List Alt) (σ : St) : Prop :=
 ∀ g : Nat → Value, ∃ e fr' σ', uO P R rd c ⟨Fm n (ov l g), ms⟩ σ e fr' σ' ∧ yIO n alts e fr' σ'
def yR (rd : Option Nat) (c : Code) (n : Nat) (l : List (Nat × Value)) (ms : List Nat) (alts : List Alt) (σ : St) : Prop :=
 ∀ g : Nat → Value, ∃ e fr' σ', zQH P R rd c ⟨Fm n (ov l g), ms⟩ σ e fr' σ' ∧ yIO n alts e fr' σ'
def zVS (gx : Operand) (ps : Array Tmp) (a b : Code) (n : Nat) (l : List (Nat × Value)) (alts : List (Exit × (St → Prop))) (σ : St) : Prop :=
 ∀ (g : Nat → Value) (ms : List Nat), ∃ e σ', xIY P R gx ps a b ⟨Fm n (ov l g), ms⟩ σ e ⟨Fm n (ov l g), σ.y :: ms⟩ σ' ∧ yIN alts e σ'
def wpE (rd : Option Nat) : Code → List Ans → Fr → St → (Exit → Fr → St → List Ans → Prop) → Prop
 | .skip, as, fr, σ, K => K .normal fr σ as
 | .label _, as, fr, σ, K => K .normal fr σ as
 | .ret, as, fr, σ, K => K .ret fr σ as
 | .exit id, as, fr, σ, K => K (.exit id) fr σ as
 | .seq x y, as, fr, σ, K => wpE rd x as fr σ fun e fr σ as => match e with
  | .normal => wpE rd y as fr σ K
  | e => K e fr σ as
 | .cond c x y, as, fr, σ, K => match as with
  | .cut n l alts :: _ => (yBW n fr.f = true ∧ AG fr.f l ∧ yJ P R rd (.cond c x y) n l fr.marks alts σ) ∧ zZY n alts fun e fr σ => ∃ as, K e fr σ as
  | as => match zW fr.f c with
   | .bool true => wpE rd x as fr σ K
   | .bool false => wpE rd y as fr σ K
   | _ => False
 | .block id c, as, fr, σ, K => match as with
  | .cut n l alts :: _ => (yBW n fr.f = true ∧ AG fr.f l ∧ yJ P R rd (.block id c) n l fr.marks alts σ) ∧ zZY n alts fun e fr σ => ∃ as, K e fr σ as
  | as => wpE rd c as fr σ fun e fr σ as => match e with
   | .exit i => match Nat.beq i id with
    | true => K .normal fr σ as
    | false => K (.exit i) fr σ as
   | e => K e fr σ as
 | .scope c, as, fr, σ, K => wpE rd c as fr σ K
 | .region _ ops d, as, fr, σ, K => zEY P (zEX R) ops d as fr σ K
 | .loop c, as, fr, σ, K => match as with
  | .lf n l alts :: _ => (yBW n fr.f = true ∧ AG fr.f l ∧ yR P R rd c n l fr.marks alts σ) ∧ zZY n alts fun e fr σ => ∃ as, K e fr σ as
  | _ => False
 | .rangeFunc g ps a b, as, fr, σ, K => match as, rd with
  | .rf n l alts :: _, none => (yBW n fr.f = true ∧ AG fr.f l ∧ zVS P R g ps a b n l alts σ) ∧ yPC n l (σ.y :: fr.marks) alts fun e fr σ => ∃ as, K e fr σ as
  | _, _ => False
 | .goto _, _, _, _, _ => False
 | .refuse _, _, _, _, _ => False
end
section
variable {P : Program} {R : Nat → Rec} {rd : Option Nat}
theorem zHU {C : zMT} {f : Tm} {σ : St} {o : Op} {as : List Ans} {K K' : Value → St → List Ans → Prop} (h : zRN P C f σ o as K) (hk : ∀ v s a, K v s a → K' v s a) : zRN P C f σ o as K' := by
 unfold zRN at h ⊢
 repeat' split at h
 all_goals first
  | exact h.elim
  | (simp only [*]; exact ⟨h.1, hk _ _ _ h.2⟩)
  | (simp only [*]; exact hk _ _ _ h)
  | exact ⟨h.1, hk _ _ _ h.2⟩
  | exact hk _ _ _ h
abbrev At3 (v : Value) (σ' : St) (as' : List Ans) : Value → St → List Ans → Prop := fun v2 s2 a2 => v2 = v ∧ s2 = σ' ∧ a2 = as'
theorem zWN {f : Tm} {σ : St} {o : Op} {as : List Ans} {K : Value → St → List Ans → Prop} (h : zRN P (zEX R) f σ o as K) : ∃ v σ' as', K v σ' as' ∧ ∃ N0, ∀ N, N0 ≤ N → zRN P (zMK (R N)) f σ o as (At3 v σ' as') := by
 unfold zRN at h
 unfold zRN
 repeat' split at h
 all_goals first
  | exact h.elim
  | (obtain ⟨⟨N0, hN⟩, hk⟩ := h; exact ⟨_, _, _, hk, N0, fun N hl => ⟨hN N hl, rfl, rfl, rfl⟩⟩)
  | exact ⟨_, _, _, h, 0, fun N _ => ⟨rfl, rfl, rfl⟩⟩
  | exact ⟨_, _, _, h.2, 0, fun N _ => by simp only [*]; exact ⟨h.1, rfl, rfl, rfl⟩⟩
  | exact ⟨_, _, _, h, 0, fun N _ => by simp only [*]; exact ⟨rfl, rfl, rfl⟩⟩
  | exact ⟨_, _, _, h.2, 0, fun N _ => ⟨h.1, rfl, rfl, rfl⟩⟩
theorem zDS {ops : Array Oper} : ∀ (rest : List Oper) (as : List Ans) (f : Tm) (σ : St) (l : List Seen) (K : Tm → St → List Seen → List Ans → Prop), zCP P (zEX R) ops rest as f σ l K →
  ∃ f' σ' l' as', K f' σ' l' as' ∧ ∃ N0, ∀ N, N0 ≤ N → zCP P (zMK (R N)) ops rest as f σ l fun f2 s2 l2 a2 => f2 = f' ∧ s2 = σ' ∧ l2 = l' ∧ a2 = as'
 | [], as, f, σ, l, K, h => ⟨f, σ, l, as, h, 0, fun _ _ => ⟨rfl, rfl, rfl, rfl⟩⟩
 | o :: rest, as, f, σ, l, K, h => by
  unfold zCP at h
  unfold zCP
  split at h
  ·rename_i hg
   obtain ⟨v, σ1, as1, h1, N1, k1⟩ := zWN h
   obtain ⟨f', σ', l', as', h2, N2, k2⟩ := zDS rest _ _ _ _ _ h1
   refine ⟨f', σ', l', as', h2, N1 + N2, fun N hN => ?_⟩
   try simp only [hg]
   refine zHU (k1 N (by omega)) ?_
   rintro _ _ _ ⟨rfl, rfl, rfl⟩
   exact k2 N (by omega)
  ·rename_i hg
   obtain ⟨f', σ', l', as', h2, N2, k2⟩ := zDS rest _ _ _ _ _ h
   exact ⟨f', σ', l', as', h2, N2, fun N hN => by (try simp only [hg]); exact k2 N hN⟩
  ·exact h.elim
theorem zFK {ops : Array Oper} : ∀ (rest : List Oper) (as : List Ans) (f : Tm) (σ : St) (l : List Lk) (K : Tm → St → List Lk → List Ans → Prop), zAZ P (zEX R) ops rest as f σ l K →
  ∃ f' σ' l' as', K f' σ' l' as' ∧ ∃ N0, ∀ N, N0 ≤ N → zAZ P (zMK (R N)) ops rest as f σ l fun f2 s2 l2 a2 => f2 = f' ∧ s2 = σ' ∧ l2 = l' ∧ a2 = as'
 | [], as, f, σ, l, K, h => ⟨f, σ, l, as, h, 0, fun _ _ => ⟨rfl, rfl, rfl, rfl⟩⟩
 | o :: rest, as, f, σ, l, K, h => by
  unfold zAZ at h
  unfold zAZ
  split at h
  ·rename_i hg
   obtain ⟨v, σ1, as1, h1, N1, k1⟩ := zWN h
   obtain ⟨f', σ', l', as', h2, N2, k2⟩ := zFK rest _ _ _ _ _ h1
   refine ⟨f', σ', l', as', h2, N1 + N2, fun N hN => ?_⟩
   try simp only [hg]
   refine zHU (k1 N (by omega)) ?_
   rintro _ _ _ ⟨rfl, rfl, rfl⟩
   exact k2 N (by omega)
  ·rename_i hg
   obtain ⟨f', σ', l', as', h2, N2, k2⟩ := zFK rest _ _ _ _ _ h
   exact ⟨f', σ', l', as', h2, N2, fun N hN => by (try simp only [hg]); exact k2 N hN⟩
  ·exact h.elim
theorem zDR {C : zMT} {ops : Array Oper} : ∀ (rest : List Oper) (as : List Ans) (f : Tm) (σ : St) (l : List Seen) {K K' : Tm → St → List Seen → List Ans → Prop}, zCP P C ops rest as f σ l K → (∀ f s l a, K f s l a → K' f s l a) → zCP P C ops rest as f σ l K'
 | [], as, f, σ, l, K, K', h, hk => hk _ _ _ _ h
 | o :: rest, as, f, σ, l, K, K', h, hk => by
  unfold zCP at h ⊢
  split at h
  ·rename_i hg
   try simp only [hg]
   exact zHU h fun v s a hh => zDR rest _ _ _ _ hh hk
  ·rename_i hg
   try simp only [hg]
   exact zDR rest _ _ _ _ h hk
  ·exact h.elim
theorem zFJ {C : zMT} {ops : Array Oper} : ∀ (rest : List Oper) (as : List Ans) (f : Tm) (σ : St) (l : List Lk) {K K' : Tm → St → List Lk → List Ans → Prop}, zAZ P C ops rest as f σ l K → (∀ f s l a, K f s l a → K' f s l a) → zAZ P C ops rest as f σ l K'
 | [], as, f, σ, l, K, K', h, hk => hk _ _ _ _ h
 | o :: rest, as, f, σ, l, K, K', h, hk => by
  unfold zAZ at h ⊢
  split at h
  ·rename_i hg
   try simp only [hg]
   exact zHU h fun v s a hh => zFJ rest _ _ _ _ hh hk
  ·rename_i hg
   try simp only [hg]
   exact zFJ rest _ _ _ _ h hk
  ·exact h.elim
theorem zHG {K K' : Prop} : ∀ {l : List Lk}, zBX l K → (K → K') → zBX l K'
 | [], h, hk => hk h
 | s :: ss, h, hk => by
  unfold zBX at h ⊢
  split
  ·rename_i hs; (try simp only [hs] at h); exact ⟨h.1, zHG h.2 hk⟩
  ·rename_i hs; (try simp only [hs] at h); exact zHG h hk
theorem zKV {K : Prop} : ∀ {l : List Lk}, zBX l K → K
 | [], h => h
 | s :: ss, h => by
  unfold zBX at h
  split at h
  ·exact zKV h.2
  ·exact zKV h
theorem zCI {K K' : Prop} {l : List Lk} : ∀ {ps : List (Nat × Nat)}, wX l ps K → (K → K') → wX l ps K'
 | [], h, hk => hk h
 | p :: ps, h, hk => by
  unfold wX at h ⊢
  split at h
  ·rename_i sj sk h1 h2
   try simp only [h1, h2]
   split at h
   ·rename_i hw; exact ⟨h.1, h.2.1, zCI h.2.2 hk⟩
   ·rename_i hw; exact zCI h hk
  ·exact h.elim
theorem zDX {K : Prop} {l : List Lk} : ∀ {ps : List (Nat × Nat)}, wX l ps K → K
 | [], h => h
 | p :: ps, h => by
  unfold wX at h
  split at h
  ·split at h
   ·exact zDX h.2.2
   ·exact zDX h
  ·exact h.elim
theorem yDI {id : Nat} {ops : Array Oper} {d : Bool} {as : List Ans} {fr : Fr} {σ : St} {K : Exit → Fr → St → List Ans → Prop} (h : zEY P (zEX R) ops d as fr σ K) :
  ∃ e fr' σ' as', uO P R rd (.region id ops d) fr σ e fr' σ' ∧ K e fr' σ' as' := by
 have fin : ∀ (f' : Tm) (σ' : St) (as' : List Ans), K .normal ⟨f', fr.marks⟩ σ' as' → (∃ N0, ∀ N, N0 ≤ N → zEY P (zMK (R N)) ops d as fr σ fun e f2 s2 a2 => e = .normal ∧ f2 = ⟨f', fr.marks⟩ ∧ s2 = σ') → ∃ e fr' σ' as', uO P R rd (.region id ops d) fr σ e fr' σ' ∧ K e fr' σ' as' := by
  rintro f' σ' as' hk ⟨N0, hN⟩
  refine ⟨.normal, ⟨f', fr.marks⟩, σ', as', ⟨N0, fun N hl => ?_⟩, hk⟩
  obtain ⟨e₂, f₂, s₂, _, h1, rfl, rfl, rfl⟩ := yJC (id := id) (rec := R N) N rd (K := fun e f2 s2 _ => e = .normal ∧ f2 = ⟨f', fr.marks⟩ ∧ s2 = σ') (hN N hl)
  exact h1
 cases d with
 | false =>
  simp only [zEY] at h
  obtain ⟨f', σ', l', as', h1, N0, hN⟩ := zDS _ _ _ _ _ _ h
  refine fin f' σ' as' h1 ⟨N0, fun N hl => ?_⟩
  simp only [zEY]
  exact zDR _ _ _ _ _ (hN N hl) (by rintro _ _ _ _ ⟨rfl, rfl, rfl, rfl⟩; refine ⟨?_, ?_, ?_⟩ <;> first | rfl | trivial)
 | true =>
  simp only [zEY] at h
  split at h
  ·rename_i h0 hp hf
   obtain ⟨f', σ', l', as', h1, N0, hN⟩ := zDS _ _ _ _ _ _ h
   refine fin f' σ' as' h1 ⟨N0, fun N hl => ?_⟩
   unfold zEY; simp only []
   rw [h0, hp, hf]
   exact zDR _ _ _ _ _ (hN N hl) (by rintro _ _ _ _ ⟨rfl, rfl, rfl, rfl⟩; refine ⟨?_, ?_, ?_⟩ <;> first | rfl | trivial)
  ·rename_i ps fb h0 hno
   obtain ⟨f', σ', l', as', h1, N0, hN⟩ := zFK _ _ _ _ _ _ h
   refine fin f' σ' as' (zDX (zKV h1)) ⟨N0, fun N hl => ?_⟩
   unfold zEY; dsimp only
   have key := zFJ (K' := fun f2 s2 l2 a2 => zBX l2 (wX l2 (zTF ops (CheckFast.beforeF ops)) (Exit.normal = Exit.normal ∧ (⟨f2, fr.marks⟩ : Fr) = ⟨f', fr.marks⟩ ∧ s2 = σ'))) _ _ _ _ _ (hN N hl) (by
    rintro _ _ _ _ ⟨rfl, rfl, rfl, rfl⟩
    exact zHG h1 (fun x => zCI x (fun _ => ⟨rfl, rfl, rfl⟩)))
   split
   ·rename_i g0 gp gf; exact absurd gf (hno gp)
   ·exact key
   ·rename_i g0; rw [h0] at g0; cases g0
  ·exact h.elim
theorem uO.seqN {x y : Code} {fr fr1 fr2 : Fr} {σ σ1 σ2 : St} {e : Exit} (h1 : uO P R rd x fr σ .normal fr1 σ1) (h2 : uO P R rd y fr1 σ1 e fr2 σ2) : uO P R rd (.seq x y) fr σ e fr2 σ2 := by
 obtain ⟨N1, k1⟩ := h1
 obtain ⟨N2, k2⟩ := h2
 refine ⟨N1 + N2, fun N hN => ?_⟩
 simp only [yI, yXY, k1 N (by omega)]
 exact k2 N (by omega)
theorem uO.seqX {x y : Code} {fr fr1 : Fr} {σ σ1 : St} {e : Exit} (h1 : uO P R rd x fr σ e fr1 σ1) (he : e ≠ .normal) : uO P R rd (.seq x y) fr σ e fr1 σ1 := by
 obtain ⟨N1, k1⟩ := h1
 refine ⟨N1, fun N hN => ?_⟩
 simp only [yI, yXY, k1 N hN]
 cases e <;> first | rfl | exact absurd rfl he
theorem uO.mapD {x y : Code} {fr fr1 : Fr} {σ σ1 : St} {e : Exit} (h1 : uO P R rd x fr σ e fr1 σ1) (h : ∀ N, yI P (R N) N rd y fr σ = yI P (R N) N rd x fr σ) : uO P R rd y fr σ e fr1 σ1 := by
 obtain ⟨N1, k1⟩ := h1
 exact ⟨N1, fun N hN => by rw [h]; exact k1 N hN⟩
theorem zQH.code {c : Code} {fr fr' : Fr} {σ σ' : St} {e : Exit} (h : zQH P R rd c fr σ e fr' σ') : uO P R rd (.loop c) fr σ e fr' σ' := by
 obtain ⟨N0, hN⟩ := h
 exact ⟨N0, fun N hl => by simp only [yI]; exact hN N N hl hl⟩
theorem zZG {c : Code} {n : Nat} {l : List (Nat × Value)} {alts : List Alt} {fr : Fr} {σ : St} {K : Exit → Fr → St → List Ans → Prop}
  (h : (yBW n fr.f = true ∧ AG fr.f l ∧ yJ P R rd c n l fr.marks alts σ) ∧ zZY n alts fun e fr σ => ∃ as, K e fr σ as) : ∃ e fr' σ' as', uO P R rd c fr σ e fr' σ' ∧ K e fr' σ' as' := by
 obtain ⟨⟨h1, h2, h3⟩, h4⟩ := h
 obtain ⟨e, fr', σ', h5, h6⟩ := h3 fr.f.nth
 rw [← yHA h1 h2] at h5
 obtain ⟨as, hk⟩ := zNZ h4 h6
 exact ⟨e, fr', σ', as, h5, hk⟩
theorem zHV : ∀ (c : Code) (as : List Ans) (fr : Fr) (σ : St) (K : Exit → Fr → St → List Ans → Prop), wpE P R rd c as fr σ K →
  ∃ e fr' σ' as', uO P R rd c fr σ e fr' σ' ∧ K e fr' σ' as' := by
 intro c
 induction c with
 | skip => intro as fr σ K h; exact ⟨_, _, _, _, ⟨0, fun _ _ => rfl⟩, h⟩
 | label _ => intro as fr σ K h; exact ⟨_, _, _, _, ⟨0, fun _ _ => rfl⟩, h⟩
 | ret => intro as fr σ K h; exact ⟨_, _, _, _, ⟨0, fun _ _ => rfl⟩, h⟩
 | exit _ => intro as fr σ K h; exact ⟨_, _, _, _, ⟨0, fun _ _ => rfl⟩, h⟩
 | goto _ => intro as fr σ K h; simp [wpE] at h
 | refuse _ => intro as fr σ K h; simp [wpE] at h
 | seq x y ihx ihy =>
  intro as fr σ K h
  simp only [wpE] at h
  obtain ⟨e, fr1, σ1, as1, h1, h2⟩ := ihx _ _ _ _ h
  cases e with
  | normal =>
   obtain ⟨e, fr2, σ2, as2, h3, h4⟩ := ihy _ _ _ _ h2
   exact ⟨e, fr2, σ2, as2, h1.seqN h3, h4⟩
  | _ => exact ⟨_, fr1, σ1, as1, h1.seqX (by simp), h2⟩
 | cond c x y ihx ihy =>
  intro as fr σ K h
  unfold wpE at h
  split at h
  ·exact zZG h
  ·split at h
   ·rename_i hc
    obtain ⟨e, fr1, σ1, as1, h1, h2⟩ := ihx _ _ _ _ h
    exact ⟨e, fr1, σ1, as1, h1.mapD (fun N => by simp only [yI, yHJ, hc]), h2⟩
   ·rename_i hc
    obtain ⟨e, fr1, σ1, as1, h1, h2⟩ := ihy _ _ _ _ h
    exact ⟨e, fr1, σ1, as1, h1.mapD (fun N => by simp only [yI, yHJ, hc]), h2⟩
   ·exact h.elim
 | block id c ih =>
  intro as fr σ K h
  unfold wpE at h
  split at h
  ·exact zZG h
  ·obtain ⟨e, fr1, σ1, as1, ⟨N1, h1⟩, h2⟩ := ih _ _ _ _ h
   cases e with
   | exit i =>
    simp only at h2
    cases hb : Nat.beq i id with
    | true =>
     rw [hb] at h2
     exact ⟨_, fr1, σ1, as1, ⟨N1, fun N hN => by simp only [yI, zOK, h1 N hN, hb, cond_true]⟩, h2⟩
    | false =>
     rw [hb] at h2
     exact ⟨_, fr1, σ1, as1, ⟨N1, fun N hN => by simp only [yI, zOK, h1 N hN, hb, cond_false]⟩, h2⟩
   | _ => exact ⟨_, fr1, σ1, as1, ⟨N1, fun N hN => by simp only [yI, zOK, h1 N hN]⟩, h2⟩
 | scope c ih =>
  intro as fr σ K h
  simp only [wpE] at h
  obtain ⟨e, fr1, σ1, as1, h1, h2⟩ := ih _ _ _ _ h
  exact ⟨e, fr1, σ1, as1, h1.mapD (fun N => by simp only [yI]), h2⟩
 | region id ops d =>
  intro as fr σ K h
  simp only [wpE] at h
  exact yDI h
 | loop c _ =>
  intro as fr σ K h
  unfold wpE at h
  split at h
  rotate_left
  ·exact h.elim
  obtain ⟨⟨h1, h2, h3⟩, h4⟩ := h
  obtain ⟨e, fr', σ', h5, h6⟩ := h3 fr.f.nth
  rw [← yHA h1 h2] at h5
  obtain ⟨as, hk⟩ := zNZ h4 h6
  exact ⟨e, fr', σ', as, h5.code, hk⟩
 | rangeFunc g ps a b _ _ =>
  intro as fr σ K h
  unfold wpE at h
  split at h
  rotate_left
  ·exact h.elim
  obtain ⟨⟨h1, h2, h3⟩, h4⟩ := h
  obtain ⟨e, σ', ⟨N0, h5⟩, h6⟩ := h3 fr.f.nth fr.marks
  rw [← yHA h1 h2] at h5
  obtain ⟨as, hk⟩ := zUT (g := fr.f.nth) h4 h6
  rw [← yHA h1 h2] at hk
  exact ⟨e, _, σ', as, ⟨N0, fun N hN => by simp only [yI]; exact h5 N hN⟩, hk⟩
end
end Go.Lay

namespace Go.Lay
open Go
@[simp] theorem xKJ (a : Addr) (n : Nat) : (zH a n).block = a.block := rfl
@[simp] theorem xKZ (σ : St) : σ.re.y = σ.y := rfl
@[simp] theorem xLA (σ : St) : σ.re.low = σ.y := rfl
theorem tt : true = true := rfl
@[irreducible] def Hid (p : Prop) : Prop := p
theorem hid {p : Prop} (h : Hid p) : p := by unfold Hid at h; exact h
theorem kc {a b : Prop} (h : a = b) (x : b) : a := h.mpr x
def In (a : Alt) : List Alt → Prop
 | [] => False
 | b :: l => a = b ∨ In a l
theorem in0 {a : Alt} {l : List Alt} : In a (a :: l) := .inl rfl
theorem inS {a b : Alt} {l : List Alt} (h : In a l) : In a (b :: l) := .inr h
def zDP (n : Nat) (alts : List Alt) : Exit → Fr → St → List Ans → Prop := fun e fr σ as => match as with
 | [.fin a t] => (e = a.e ∧ yBW n fr.f = true ∧ AG fr.f (a.l t) ∧ fr.marks = a.ms t) ∧ (a.Q t σ ∧ In a alts)
 | _ => False
def FIN (alts : List Alt) (a : Alt) (t : a.T) (σ : St) : Prop := (a.e = a.e ∧ true = true ∧ ARf (a.l t) ∧ a.ms t = a.ms t) ∧ (a.Q t σ ∧ In a alts)
theorem fin {alts : List Alt} (a : Alt) (t : a.T) {σ : St} (h : a.Q t σ) (hi : In a alts) : FIN alts a t σ := ⟨⟨rfl, rfl, arf _, rfl⟩, h, hi⟩
section
variable {P : Program} {R : Nat → Rec} {rd : Option Nat} {c : Code} {n : Nat} {l : List (Nat × Value)} {ms : List Nat} {alts : List Alt} {σ σ' : St}
theorem yEP {a : Alt} {t : a.T} {fr : Fr} (h1 : yBW n fr.f = true) (h2 : AG fr.f (a.l t)) (h3 : fr.marks = a.ms t) (h4 : a.Q t σ) : ∀ {alts : List Alt}, In a alts → yIO n alts a.e fr σ
 | [], h => h.elim
 | b :: as, h => by
  rcases h with rfl | h
  ·refine .inl ⟨rfl, t, fr.f.nth, ?_, h4⟩
   rw [← yHA h1 h2, ← h3]
  ·exact .inr (yEP h1 h2 h3 h4 h)
theorem zBG (as : List Ans) (h : ∀ g : Nat → Value, Hid (wpE P R rd c as ⟨Fm n (ov l g), ms⟩ σ (zDP n alts))) : yJ P R rd c n l ms alts σ := by
 intro g
 obtain ⟨e, fr', σ', as', h1, h2⟩ := zHV _ _ _ _ _ (hid (h g))
 refine ⟨e, fr', σ', h1, ?_⟩
 unfold zDP at h2
 split at h2
 ·obtain ⟨⟨rfl, k1, k2, k3⟩, k4, k5⟩ := h2
  exact yEP k1 k2 k3 k4 k5
 ·exact h2.elim
theorem wA (i : Nat) : Exit.exit i ≠ .normal := fun h => by cases h
theorem zAQ : Exit.ret ≠ .normal := fun h => by cases h
def zQG : List Alt → Prop
 | [] => True
 | a :: l => a.e ≠ .normal ∧ zQG l
theorem zQG.get : ∀ {l : List Alt} {a : Alt}, zQG l → In a l → a.e ≠ .normal
 | [], _, _, h => h.elim
 | b :: l, a, h, k => by
  rcases k with rfl | k
  ·exact h.1
  ·exact h.2.get k
theorem zIF {T : Type} {lf : T → List (Nat × Value)} {mf : T → List Nat} {Inv : Nat → T → St → Prop} (hne : zQG alts)
  (hb : ∀ k t σ, Inv k t σ → yJ P R rd c n (lf t) (mf t) (⟨T, .normal, lf, mf, fun t' σ' => ∃ k', k' < k ∧ Inv k' t' σ'⟩ :: alts) σ) : ∀ k t σ, Inv k t σ → yR P R rd c n (lf t) (mf t) alts σ := by
 intro k
 induction k using Nat.strongRecOn with
 | ind k ih =>
  intro t σ hi g
  obtain ⟨e, fr', σ', h1, h2⟩ := hb k t σ hi g
  rcases h2 with ⟨rfl, t', g', rfl, k', hk, hi'⟩ | h2
  ·obtain ⟨e2, fr2, σ2, h3, h4⟩ := ih k' hk t' σ' hi' g'
   exact ⟨e2, fr2, σ2, .step h1 h3, h4⟩
  ·have he : e ≠ .normal := by
    clear h1 ih hb hi
    induction alts with
    | nil => exact h2.elim
    | cons a as ih2 =>
     rcases h2 with ⟨rfl, _⟩ | h2
     ·exact hne.1
     ·exact ih2 hne.2 h2
   exact ⟨e, fr', σ', .exit h1 he, h2⟩
def kAt (P : Program) (R : Nat → Rec) (rd : Option Nat) : Code → List Nat → (Exit → Fr → St → List Ans → Prop) → Exit → Fr → St → List Ans → Prop
 | .seq x y, 0 :: p, K => kAt P R rd x p fun e fr σ as => match e with
  | .normal => wpE P R rd y as fr σ K
  | e => K e fr σ as
 | .seq _ y, 1 :: p, K => kAt P R rd y p K
 | .cond _ x _, 0 :: p, K => kAt P R rd x p K
 | .cond _ _ y, 1 :: p, K => kAt P R rd y p K
 | .block id c, 0 :: p, K => kAt P R rd c p fun e fr σ as => match e with
  | .exit i => match Nat.beq i id with
   | true => K .normal fr σ as
   | false => K (.exit i) fr σ as
  | e => K e fr σ as
 | .scope c, 0 :: p, K => kAt P R rd c p K
 | _, _, K => K
def kFn (P : Program) (f : FuncId) (Q : Value → St → Prop) : Exit → Fr → St → List Ans → Prop := fun e fr σ as =>
 match P.funcs[f]? with
 | some fn => match e with
  | .normal => zFL P fn fr σ as Q
  | .ret => zFL P fn fr σ as Q
  | _ => False
 | none => False
theorem zD.top {aw f : FuncId} {a : Value} {as : List Value} {v : Value} (h : zD P f (a :: as) σ v σ') : zEX (zDW P aw) (.func f) (a :: as) σ v σ' := h
def yPF (P : Program) (R : Nat → Rec) (f : FuncId) (args : List Value) (as : List Ans) (σ : St) (K : Value → St → Prop) : Prop :=
 match P.funcs[f]? with
 | some fn => match fn.body with
  | some c => wpE P R none c as ⟨(Tm.args 0 args).foldl (fun f p => f.set p.1 p.2) (fresh (args.length + (fn.ntmps - args.length))), []⟩ σ fun e fr σ as => match e with
   | .normal => zFL P fn fr σ as K
   | .ret => zFL P fn fr σ as K
   | _ => False
  | none => False
 | none => False
theorem zOV {f : FuncId} {args : List Value} {as : List Ans} {K : Value → St → Prop} (h : yPF P R f args as σ K) : ∃ v σ', (∃ N0, ∀ N, N0 ≤ N → zFC P (R N) N f args σ = some (v, σ')) ∧ K v σ' := by
 unfold yPF at h
 split at h
 ·rename_i fn hfn
  split at h
  ·rename_i c hc
   obtain ⟨e, fr, σ₁, as', ⟨N0, h1⟩, h2⟩ := zHV _ _ _ _ _ h
   have fin : ∀ (h2 : zFL P fn fr σ₁ as' K) (he : e = .normal ∨ e = .ret), ∃ v σ', (∃ N0, ∀ N, N0 ≤ N → zFC P (R N) N f args σ = some (v, σ')) ∧ K v σ' := by
    intro h2 he
    obtain ⟨v, σ', h3, h4⟩ := yAE h2
    refine ⟨v, σ', ⟨N0, fun N hN => ?_⟩, h4⟩
    have key : xBU P fn (yI P (R N) N none c ⟨(Tm.args 0 args).foldl (fun f p => f.set p.1 p.2) (fresh (args.length + (fn.ntmps - args.length))), []⟩ σ) = zFC P (R N) N f args σ := by
     simp only [zFC, hfn, hc, Tm.puts_eq]
    rw [← key, h1 N hN]
    rcases he with rfl | rfl <;> exact h3
   cases e with
   | normal => exact fin h2 (.inl rfl)
   | ret => exact fin h2 (.inr rfl)
   | _ => exact h2.elim
  ·exact h.elim
 ·exact h.elim
def zI (P : Program) (f : FuncId) (args : List Value) (σ : St) (Q : Value → St → Prop) : Prop := ∃ v σ', xIX P f args σ v σ' ∧ Q v σ'
theorem yWA {N : Nat} {f : FuncId} {args : List Value} : zS P (N + 1) (.func f) args σ = zFC P (zS P N) N f args σ := by
 simp only [zS, zFC]
 rfl
theorem zF {f : FuncId} {args : List Value} {Q : Value → St → Prop} (as : List Ans) (h : Hid (yPF P (zS P) f args as σ Q)) : zI P f args σ Q := by
 obtain ⟨v, σ', ⟨N0, hN⟩, hq⟩ := zOV (hid h)
 refine ⟨v, σ', ⟨N0 + 1, fun N hN' => ?_⟩, hq⟩
 obtain ⟨N, rfl⟩ : ∃ M, N = M + 1 := ⟨N - 1, by omega⟩
 rw [yWA]
 exact hN N (by omega)
def yOW (P : Program) (aw : FuncId) (f : FuncId) (args : List Value) (σ : St) (Q : Value → St → Prop) : Prop := ∃ N v σ', zFC P (zDW P aw N) N f args σ = some (v, σ') ∧ Q v σ'
theorem yPJ {aw f : FuncId} {args : List Value} {Q : Value → St → Prop} (as : List Ans) (h : Hid (yPF P (zDW P aw) f args as σ Q)) : yOW P aw f args σ Q := by
 obtain ⟨v, σ', ⟨N0, hN⟩, hq⟩ := zOV (hid h)
 exact ⟨N0, v, σ', hN N0 (Nat.le_refl _), hq⟩
theorem xJB {aw : FuncId} : zEX (zDW P aw) (.func aw) [] σ (.bool true) σ := ⟨0, fun N _ => yRV⟩
theorem yOW.walk {W : World} {ι : Inj} {aw : FuncId} (hP : ProgOk P) (hc : ShutF P aw) {f : FuncId} {avs args : List Value} (h : yOW P aw f avs σ fun v _ => v = .bool true) (hr : Rep ι σ W) (ho : Ro ι W) (ha : VRs ι avs args) :
  Calls P f ⟨args⟩ W fun e w' => e = .returned (.bool true) ∧ RowKit.Grown W w' := by
 obtain ⟨N, v, σ', hb, rfl⟩ := h
 obtain ⟨_, h2⟩ := zCF hP (yJM hP hc N) hb hr ha
 refine Calls.mono (callsIn_wide.1 (h2 0)) (fun e w' hR => ?_)
 cases e with
 | returned v' =>
  obtain ⟨ι', hv, hg⟩ := hR
  exact ⟨by rw [hv.bool_inv], xBJ hg ho.own⟩
 | panicked _ => exact hR.elim
 | outgrown => exact hR.elim
theorem zI.pure {f : FuncId} {args : List Value} {v : Value} (h : zI P f args σ.re fun v' s => v' = v ∧ σ.y ≤ s.low) (hv : zQ RD v = true := by rfl) : zD P f args σ v σ := by
 obtain ⟨_, σ', h1, rfl, h2⟩ := h
 exact zNB h1 h2 hv
theorem zI.new {f : FuncId} {args : List Value} {Q : Value → St → Prop} (h : zI P f args σ.re fun v s => New σ.re s ∧ Q v s) (hQ : ∀ v s s', Q v s → Le s s' → Q v s') (hQ2 : ∀ v s, zQ RD v = true → Q v s → Q v σ) : ∃ v σ', zD P f args σ v σ' ∧ New σ σ' ∧ Q v σ' := by
 obtain ⟨v, σ', h1, h2, h3⟩ := h
 obtain ⟨v, σ'', k1, k2, k3⟩ := xJI (Q := Q) h1 h2 h3 (fun s s' a b => hQ _ s s' a b) (fun hr => hQ2 _ _ hr h3)
 exact ⟨v, σ'', k1, k2, k3⟩
def xIM (tm : Tm) (ps : List Tmp) (a b : Code) (db : Nat) : Exit → Blk
 | .ret => .loop tm ps a b .done (some .ret) db
 | .exit id => .loop tm ps a b .done (some (.exit id)) db
 | _ => .loop tm ps a b .ready none db
def yMX : Exit → Bool
 | .normal => true
 | _ => false
def xKK (alts : List Alt) (e : Exit) (s : St) : Prop := ∃ a, In a alts ∧ e = a.e ∧ ∃ t, a.Q t s
def xDL (alts : List Alt) : Exit → Fr → St → List Ans → Prop := fun e _ σ as => match as with
 | [.fin a t] => e = a.e ∧ (a.Q t σ ∧ In a alts)
 | _ => False
def xKW (alts : List Alt) (a : Alt) (t : a.T) (σ : St) : Prop := a.e = a.e ∧ (a.Q t σ ∧ In a alts)
theorem xJL {alts : List Alt} (a : Alt) (t : a.T) {σ : St} (h : a.Q t σ) (hi : In a alts) : xKW alts a t σ := ⟨rfl, h, hi⟩
def KAs (P : Program) (R : Nat → Rec) (lo : Nat) (b : Code) (τ τ' : St) (K : Exit → Fr → St → List Ans → Prop) : Exit → Fr → St → List Ans → Prop := fun e fr s an => (e = .normal ∧ s = τ) ∧ wpE P R (some lo) b an fr τ' K
def zHO (P : Program) (lo : Nat) (args : List Value) (τ : St) (tm : Tm) (ps : List Tmp) (a b : Code) (db : Nat) (alts : List Alt) : Prop :=
 ∃ e s, xKK alts e s ∧ (e = .normal ∨ e = .ret ∨ (∃ i, e = .exit i) → lo < τ.y → yC s.heap lo = some (.loop tm ps a b .busy none db) → τ.y ≤ s.y → yPD P lo args τ (.bool (yMX e)) ⟨(s.put lo (xIM tm ps a b db e)).heap, s.y, min τ.low (min s.low lo)⟩)
def xBP : Option Code → Exit
 | some .ret => .ret
 | some (.exit id) => .exit id
 | _ => .normal
theorem ySP {gx : Operand} {ps : Array Tmp} {a b : Code} {xs : List (Exit × (St → Prop))} {f : FuncId} {fs : List Value} (hg : ∀ g, zW (Fm n (ov l g)) gx = .func (.func f) ⟨[]⟩ ⟨fs⟩)
  (h : ∀ g, ∃ v s st pend, zD P f (.func (.yield (σ.y + 1)) ⟨[]⟩ ⟨[]⟩ :: fs) ((σ.add .defd).add (.loop (Fm n (ov l g)) ps.toList a b .ready none σ.y)) v s ∧ yC s.heap (σ.y + 1) = some (.loop (Fm n (ov l g)) ps.toList a b st pend σ.y) ∧
   ((st = .ready ∧ pend = none) ∨ (st = .done ∧ (pend = some .ret ∨ ∃ i, pend = some (.exit i)))) ∧ yIN xs (xBP pend) (s.put (σ.y + 1) (.loop (Fm n (ov l g)) ps.toList a b .exhausted pend σ.y))) : zVS P (zS P) gx ps a b n l xs σ := by
 intro g ms
 obtain ⟨v, s, st, pend, ⟨N0, hN⟩, hb, hst, hq⟩ := h g
 refine ⟨xBP pend, _, ⟨N0, fun N hl => ?_⟩, hq⟩
 have h1 := hN N hl
 simp only [zJW, zDZ, St.new_eq, hg, zIZ, List.nil_append, List.singleton_append, St.add_next]
 simp only [h1, zBR, hb, St.write_eq]
 rcases hst with ⟨rfl, rfl⟩ | ⟨rfl, rfl | ⟨i, rfl⟩⟩ <;> rfl
end
end Go.Lay

namespace Go.Lay
open Go
section
variable {P : Program} {σ τ τ' : St} {S : Nat → Prop}
theorem New.of_only (h : New σ τ) (k : Only S τ τ') (hs : ∀ b, S b → σ.y ≤ b) : New σ τ' :=
  ⟨⟨Nat.le_trans h.le.y k.y, fun b hb => (k.get b (Nat.lt_of_lt_of_le hb h.le.y) (fun hS => by have := hs b hS; omega)).trans (h.le.get b hb)⟩,
   fun m h1 h2 => k.low m (h.low m h1 h2) (Nat.le_trans h2 h.le.y) (fun b _ hS => Nat.le_trans h2 (hs b hS))⟩
theorem New.own {b n : Nat} {cs : List Value} (h : New σ τ) (hb : σ.y ≤ b) : New σ (τ.own b cs n) := h.of_only (S := (· = b)) (Only.own (.inr rfl)) (by rintro _ rfl; exact hb)
theorem New.row' {cs : List Value} {n : Nat} (h : New σ τ) : New σ (τ.row cs n) := h.trans (New.row _ _ _)
theorem New.nx (h : New σ τ) : σ.y ≤ τ.y := h.le.y
theorem New.lw (h : New σ.re τ) : σ.y ≤ τ.low := h.low _ (Nat.le_refl _) (Nat.le_refl _)
structure Gr (P : Program) (σ : St) (n0 t n : Nat) (p : Option Addr) (len c : Nat) (vs : List Value) : Prop where
 app : App σ n0 n (.slice p len c) len (xS vs)
 len_eq : vs.length = len
 el : ∀ v ∈ vs, zIQ P t n v
theorem Gr.nil {n0 t n : Nat} : Gr P σ n0 t n none 0 0 [] := ⟨App.nil, rfl, by simp⟩
theorem Gr.le {n0 t n len c : Nat} {p : Option Addr} {vs : List Value} (h : Gr P σ n0 t n p len c vs) (k : Le σ τ) : Gr P τ n0 t n p len c vs := ⟨h.app.keep k, h.len_eq, h.el⟩
theorem Gr.only {n0 t n len c : Nat} {p : Option Addr} {vs : List Value} (h : Gr P σ n0 t n p len c vs) (k : Only S σ τ) (hs : ∀ b, AtP p b → ¬ S b) : Gr P τ n0 t n p len c vs :=
 ⟨k.app' h.app (by rintro a l c ⟨⟩; exact hs _ ⟨a, rfl, rfl⟩), h.len_eq, h.el⟩
theorem Gr.slv {n0 t n len c : Nat} {p : Option Addr} {vs : List Value} (h : Gr P σ n0 t n p len c vs) : SlV P σ t n p len vs := h.app.slv h.len_eq h.el
theorem Gr.bd {n0 t n len c b : Nat} {p : Option Addr} {vs : List Value} (h : Gr P σ n0 t n p len c vs) (hb : AtP p b) : n0 ≤ b ∧ b < σ.y := by
 obtain ⟨a, e, rfl⟩ := hb; exact ⟨h.app.ge a e, h.app.lt a e⟩
theorem yQX {st xt t n n0 len c : Nat} {p : Option Addr} {vs : List Value} (v : Value) {cs : List Value} (T : AppT P st xt t n) (h : Gr P σ n0 t n p len c vs) (hle : Le σ τ) (hv : zIQ P t n v) (hroom : len + 1 ≤ 1073741824) (hn : n0 ≤ σ.y) (e : v.cells.toList = cs := by rfl) (hc : cs.all cellB = true := by first | rfl | simp) :
  ∃ p' c' τ', zZ P st xt (.slice p len c) (.slice (some ⟨τ.y, 0, none⟩) 1 1) (τ.row cs n) = some (.slice p' (len + 1) c', τ') ∧ Gr P τ' n0 t n p' (len + 1) c' (vs ++ [v]) ∧ Only (AtP p) (τ.row cs n) τ' ∧ (∀ b, AtP p' b → AtP p b ∨ τ.y ≤ b) := by
 subst e
 have hl := hv.len
 obtain ⟨p', c', τ', h1, h2, h3, h4⟩ := zOL (k := 1) (m := 1) T ((h.le hle).app.keep (Le.row _ _ _)) (xC τ v.cells.toList n) (by omega) (by omega) hroom hc (by have := hle.y; simp; omega)
 refine ⟨p', c', τ', h1, ⟨by rw [zGT]; simpa [xS] using h2, by simp [h.len_eq], ?_⟩, h3, fun b hb => ?_⟩
 ·intro x hx
  simp at hx
  rcases hx with hx | rfl
  ·exact h.el x hx
  ·exact hv
 ·rcases h4 b hb with h5 | h5
  ·exact .inl h5
  ·right; simp at h5; omega
theorem xKT {σ0 : St} {st xt t n len c : Nat} {p : Option Addr} {vs : List Value} (v : Value) {cs : List Value} (T : AppT P st xt t n) (h : Gr P σ σ0.y t n p len c vs) (hN : New σ0 σ) (hle : New σ τ) (hv : zIQ P t n v) (hroom : len + 1 ≤ 1073741824) (e : v.cells.toList = cs := by rfl) (hc : cs.all cellB = true := by first | rfl | simp) :
  ∃ p' c' τ', zZ P st xt (.slice p len c) (.slice (some ⟨τ.y, 0, none⟩) 1 1) (τ.row cs n) = some (.slice p' (len + 1) c', τ') ∧ Gr P τ' σ0.y t n p' (len + 1) c' (vs ++ [v]) ∧ New σ0 τ' ∧ Only (AtP p) (τ.row cs n) τ' ∧ (∀ b, AtP p' b → AtP p b ∨ τ.y ≤ b) := by
 obtain ⟨p', c', τ', h1, h2, h3, h4⟩ := yQX v T h hle.le hv hroom hN.nx e hc
 exact ⟨p', c', τ', h1, h2, ((hN.trans hle).row').of_only h3 (fun b hb => (h.bd hb).1), h3, h4⟩
theorem zI.newSl {f : FuncId} {args : List Value} {t n len : Nat} {vs : List Value} (h : zI P f args σ.re fun v s => New σ.re s ∧ ∃ p c, v = .slice p len c ∧ SlV P s t n p len vs ∧ ∀ b, AtP p b → σ.y ≤ b) :
  ∃ p c σ', zD P f args σ (.slice p len c) σ' ∧ New σ σ' ∧ SlV P σ' t n p len vs ∧ ∀ b, AtP p b → σ.y ≤ b := by
 obtain ⟨v, σ', h1, h2, p, c, rfl, h3, h4⟩ := zI.new (Q := fun v s => ∃ p c, v = .slice p len c ∧ SlV P s t n p len vs ∧ ∀ b, AtP p b → σ.y ≤ b) h (by
  rintro v s s' ⟨p, c, rfl, g1, g2⟩ hle; exact ⟨p, c, rfl, g1.le hle, g2⟩) (by
  rintro v s hr ⟨p, c, rfl, g1, g2⟩
  cases p with
  | none => exact ⟨none, c, rfl, zFP g1, fun b hb => (AtP.none hb).elim⟩
  | some a => exact Bool.noConfusion (show false = true from hr))
 exact ⟨p, c, σ', h1, h2, h3, h4⟩
theorem Only.lower {m : Nat} (h : Only S σ.re τ) : Only S σ ⟨τ.heap, τ.y, min σ.low τ.low⟩ :=
 ⟨h.y, h.get, fun k h1 h2 h3 => by have := h.low k h2 h2 h3; show k ≤ min _ _; omega⟩
theorem zI.mut {f : FuncId} {args : List Value} {Q : Value → St → Prop} (h : zI P f args σ.re fun v s => Only S σ.re s ∧ (s.low < σ.y ∨ zQ RD v = false) ∧ Q v s) (hQ : ∀ v s m, Q v s → Q v ⟨s.heap, s.y, m⟩) : ∃ v σ', zD P f args σ v σ' ∧ Only S σ σ' ∧ Q v σ' := by
 obtain ⟨v, s, ⟨N0, hN⟩, h1, h2, h3⟩ := h
 refine ⟨v, ⟨s.heap, s.y, min σ.low s.low⟩, ⟨N0, fun N hl => ?_⟩, h1.lower (m := 0), hQ _ _ _ h3⟩
 unfold vD
 rw [show (⟨σ.heap, σ.y, σ.y⟩ : St) = σ.re from rfl, hN N hl]
 show vQ σ v s = _
 unfold vQ
 have e1 : (Nat.ble σ.y s.low && zQ RD v) = false := by
  rcases h2 with h2 | h2
  ·rw [Bool.and_eq_false_iff]; left
   rw [Bool.eq_false_iff]; intro e; have := (zN _ _).1 e; omega
  ·rw [h2, Bool.and_false]
 have e2 : Nat.ble σ.y s.y = true := (zN _ _).2 h1.y
 rw [e1, cond_false, e2, cond_true, xQ, zAV]
theorem Own.at_ {b n : Nat} {cs : List Value} (h : Own σ b cs n) (k : yC τ.heap b = yC σ.heap b) (hn : σ.y ≤ τ.y) : Own τ b cs n := ⟨by rw [k]; exact h.get, Nat.lt_of_lt_of_le h.lt hn⟩
end
end Go.Lay

namespace Go.Lay
open Go
section
variable {P : Program} {σ τ : St}
def zOQ (σ : St) (n : Nat) (p : Option Addr) (len c : Nat) : Prop :=
 (p = none ∧ len = 0 ∧ c = 0) ∨ ∃ b rs nx ro, p = some ⟨b, 0, none⟩ ∧ len ≤ c ∧ yM c = true ∧ yC σ.heap b = some (.cells rs n [(0, rs.length)] nx ro) ∧ rs.length = len * n ∧ b < σ.y
theorem zOD {c : Nat} (h : yM c = true) : yE c = c := by
 have := (yQ c).1 h
 unfold yE; rw [if_neg (by omega)]
def Ap (σ : St) (n0 n : Nat) (p : Option Addr) (len c : Nat) (cs : List Value) : Prop :=
 App σ n0 n (.slice p len c) len cs ∨ ∃ b, p = some ⟨b, 0, none⟩ ∧ len = 0 ∧ c = 0 ∧ cs = [] ∧ Own σ b [] n ∧ n0 ≤ b
theorem Ap.append {st xt e n m k len n0 c : Nat} {p q : Option Addr} {cs xs : List Value} (T : AppT P st xt e n) (hA : Ap σ n0 n p len c cs) (hs : SlP σ n q m xs) (hroom : len + m ≤ 1073741824) (hc : xs.all cellB = true) (hn0 : n0 ≤ σ.y) :
  ∃ p' c' σ', zZ P st xt (.slice p len c) (.slice q m k) σ = some (.slice p' (len + m) c', σ') ∧ Ap σ' n0 n p' (len + m) c' (cs ++ xs) ∧ Only (AtP p) σ σ' ∧ (∀ b, AtP p' b → AtP p b ∨ σ.y ≤ b) := by
 obtain ⟨xd, hxd, hxi⟩ := T.src
 obtain ⟨ei, z, hei, hz, hby, hrz, hzl⟩ := T.info
 have hsrc : vT σ n z xd (.slice q m k) = some (m, xs) := by
  have : xL σ n (.slice q m k) = some (m, xs) := by
   cases q with
   | none =>
    obtain ⟨h1, h2⟩ := hs
    have h2 : m = 0 := h2
    subst h2
    have : xs = [] := List.eq_nil_of_length_eq_zero (by omega)
    subst this
    simp [xL]
   | some a =>
    have hrd := hs.2.rd
    rw [hs.1] at hrd
    simp [xL, hrd]
  unfold vT
  cases xd with
  | int _ => cases hxi
  | _ => simp only [this]
 have hcond : (uN (len + m) n ei.bytes && xs.all cellB && Nat.beq xs.length (m * n) && zQ RD z && Nat.beq z.cells.toList.length n) = true := by
  unfold uN
  rw [(zN _ _).2 hroom, (zN _ _).2 T.le, (zN _ _).2 hby, hc, hs.1, Nat.beq_refl, hrz, hzl]; rfl
 have hc0 : yE 0 = 0 := by unfold yE; have := vA; rw [if_neg (by omega)]
 have hc1 : yM 0 = true := (yQ 0).2 vA
 rcases Nat.eq_zero_or_pos m with h0 | h0
 ·subst h0
  have hx : xs = [] := List.eq_nil_of_length_eq_zero (by have := hs.1; omega)
  subst hx
  have hlc : Nat.ble (len + 0) (yE c) = true := by
   rcases hA with h | ⟨b, _, rfl, rfl, _⟩
   ·cases h with
    | nil => rw [hc0]; rfl
    | more _ _ _ _ _ _ _ => rw [zAW]; exact (zN _ _).2 (Nat.le_refl _)
   ·rw [hc0]; rfl
  refine ⟨p, c, σ, ?_, by simpa using hA, Only.refl _ _, fun b hb => .inl hb⟩
  unfold zZ
  simp only [T.el, hxd, hei, hz, hsrc, hcond, cond_true, wH, hlc]
  cases p <;> simp
 ·rcases hA with h | ⟨b, rfl, rfl, rfl, rfl, h5, h6⟩
  ·obtain ⟨a, rfl, hr⟩ := hs.some h0
   obtain ⟨p', c', σ', h1, h2, h3, h4⟩ := zOL (k := k) T h hr hs.1 h0 hroom hc hn0
   exact ⟨p', c', σ', h1, .inl h2, h3, h4⟩
  ·have hble : Nat.ble (0 + m) 0 = false := by rw [Bool.eq_false_iff]; intro e; have := (zN _ _).1 e; omega
   have hrd := h5.rw.rd
   have hrd : yH σ ⟨b, 0, none⟩ (0 * n) = some [] := by rw [Nat.zero_mul]; exact hrd
   refine ⟨some ⟨σ.y, 0, none⟩, 0 + m + vM, σ.add (.cells xs n [(0, xs.length)] 1 false), ?_, .inl ?_, Only.add _ _, fun b hb => .inr (by obtain ⟨a, e, rfl⟩ := hb; cases e; exact Nat.le_refl _)⟩
   ·unfold zZ
    simp only [T.el, hxd, hei, hz, hsrc, hcond, cond_true, wH, hc0, hble, cond_false, hc1, hrd, List.nil_append, yF]
   ·have e1 : 0 + m = m := Nat.zero_add m
    rw [e1, List.nil_append]
    exact .more (b := σ.y) (s := 0) (nx := 1) (log := []) (by rw [St.add_get, if_pos rfl]) rfl hn0 (by simp) hs.1 h0 (by omega)
end
end Go.Lay

namespace Go.Lay
open Go
section
variable {P : Program}
theorem xN {α β : Type} (x : Sem α) (f : α → Sem β) : zY P (x >>= f) = (zY P x).bind fun a => zY P (f a) := by
 induction x with
 | pure a => rfl
 | program k ih => exact ih P
 | _ => rfl
theorem yPR {α : Type} (a : α) : zY P (pure a : Sem α) = some a := rfl
theorem yPS : zY P program = some P := rfl
theorem yEO {t : TypeId} {d : TypeDesc} (h : P.underlying t = some d) : zY P (underlying t) = some d := by
 unfold underlying
 rw [xN, yPS]
 simp only [Option.bind_some, h]
 rfl
theorem zEA {d : Nat} {t : TypeId} {k : IntKind} (h : P.underlying t = some (.int k)) (q : IntKind) (a b : Int) : zY P (Op.equalIn (d + 1) t (.int q a) (.int q b)) = some (a == b) := by
 unfold Op.equalIn
 rw [xN, yEO h]
 simp only [Option.bind_some, if_true]
 rfl
section
variable {κ α : Type} [DecidableEq κ] {σ τ : St} {b kt et mt : Nat} {enc : κ → Value} {vf : α → Value} {F : κ → Option α}
end
end
end Go.Lay

namespace Go.Lay
open Go
def Keys : List (Nat × Nat) → Nat → Prop
 | [], _ => True
 | (k, _) :: l, nx => k < nx ∧ Keys l k
theorem Keys.mono : ∀ {l : List (Nat × Nat)} {m n : Nat}, Keys l m → m ≤ n → Keys l n
 | [], _, _, _, _ => trivial
 | (_, _) :: _, _, _, h, hm => ⟨Nat.lt_of_lt_of_le h.1 hm, h.2⟩
theorem Keys.tail : ∀ {l : List (Nat × Nat)} {a : Nat × Nat} {m : Nat}, Keys (a :: l) m → Keys l m
 | _, (_, _), _, h => h.2.mono (Nat.le_of_lt h.1)
theorem Keys.lt : ∀ {l r : List (Nat × Nat)} {k e m : Nat}, Keys (l ++ (k, e) :: r) m → k < m
 | [], _, _, _, _, h => h.1
 | (_, _) :: l, _, _, _, _, h => Nat.lt_trans (Keys.lt h.2) h.1
theorem Keys.drop : ∀ {l r : List (Nat × Nat)} {m : Nat}, Keys (l ++ r) m → Keys r m
 | [], _, _, h => h
 | (_, _) :: l, _, _, h => (Keys.drop h.2).mono (Nat.le_of_lt h.1)
theorem Keys.find : ∀ {l r : List (Nat × Nat)} {k e m : Nat}, Keys (l ++ (k, e) :: r) m → wE (l ++ (k, e) :: r) k = some e ∧ xO (l ++ (k, e) :: r) k = (k, e) :: r
 | [], r, k, e, _, _ => by simp [wE, xO]
 | (k', e') :: l, r, k, e, _, h => by
  have h1 : k < k' := Keys.lt h.2
  have h2 : Nat.beq k' k = false := by rw [Bool.eq_false_iff]; intro e; have := Nat.eq_of_beq_eq_true e; omega
  obtain ⟨h3, h4⟩ := Keys.find h.2
  exact ⟨by rw [List.cons_append, wE, h2, cond_false]; exact h3, by rw [List.cons_append, xO, h2, cond_false]; exact h4⟩
def Stk (z : St) (n0 : Nat) (p : Option Addr) (len c : Nat) (xs : List Value) (sf : List (Nat × Nat)) : Prop :=
 (p = none ∧ len = 0 ∧ c = 0 ∧ xs = [] ∧ sf = []) ∨ ∃ b s bc pre r nx, p = some ⟨b, 0, s⟩ ∧ c = len + vM ∧ xs.length = len ∧ 0 < len ∧ sf = (s.getD 0, len) :: r ∧ n0 ≤ b ∧ b < z.y ∧ yC z.heap b = some (.cells bc 1 (pre ++ sf) nx false) ∧ bc.take len = xs ∧ Keys (pre ++ sf) nx
def Kid (n0 : Nat) (p : Option Addr) (len c : Nat) (xs : List Value) (sf : List (Nat × Nat)) (p' : Option Addr) (xs' : List Value) (sf' : List (Nat × Nat)) : Prop :=
 (p = none ∧ len = 0 ∧ c = 0 ∧ xs = [] ∧ sf = []) ∨ ∃ b s s' e r, p = some ⟨b, 0, s⟩ ∧ p' = some ⟨b, 0, s'⟩ ∧ sf' = e :: sf ∧ sf = (s.getD 0, len) :: r ∧ c = len + vM ∧ xs.length = len ∧ 0 < len ∧ xs'.take len = xs ∧ n0 ≤ b
section
variable {P : Program} {S : Nat → Prop} {z z' : St} {n0 len c len' c' : Nat} {p p' : Option Addr} {xs xs' : List Value} {sf sf' : List (Nat × Nat)}
theorem Stk.push {st xt e : Nat} {v : Value} (T : AppT P st xt e 1) (h : Stk z n0 p len c xs sf) (hc : cellB v = true) (hroom : len + 1 ≤ 1073741824) (hn : n0 ≤ z.y) :
  ∃ p' c' sf' z', zZ P st xt (.slice p len c) (.slice (some ⟨z.y, 0, none⟩) 1 1) (z.row [v] 1) = some (.slice p' (len + 1) c', z') ∧ Stk z' n0 p' (len + 1) c' (xs ++ [v]) sf' ∧ Kid n0 p len c xs sf p' (xs ++ [v]) sf' ∧ Only (AtP p) z z' ∧ z'.low ≤ z.low ∧ ∀ b, AtP p' b → AtP p b ∨ z.y ≤ b := by
 obtain ⟨xd, hxd, hxi⟩ := T.src
 obtain ⟨ei, zv, hei, hz, hby, hrz, hzl⟩ := T.info
 have hrow := xC z [v] 1
 have hsrc : vT (z.row [v] 1) 1 zv xd (.slice (some ⟨z.y, 0, none⟩) 1 1) = some (1, [v]) := by
  have : xL (z.row [v] 1) 1 (.slice (some ⟨z.y, 0, none⟩) 1 1) = some (1, [v]) := by
   have hrd := hrow.rd
   have hrd : yH (z.row [v] 1) ⟨z.y, 0, none⟩ (1 * 1) = some [v] := hrd
   simp [xL, hrd]
  unfold vT
  cases xd with
  | int _ => cases hxi
  | _ => simp only [this]
 have hcond : (uN (len + 1) 1 ei.bytes && [v].all cellB && Nat.beq [v].length (1 * 1) && zQ RD zv && Nat.beq zv.cells.toList.length 1) = true := by
  unfold uN
  have : Nat.beq [v].length (1 * 1) = true := rfl
  rw [(zN _ _).2 hroom, (zN _ _).2 T.le, (zN _ _).2 hby, this, hrz, hzl]
  simp [hc]
 have hc0 : yE 0 = 0 := by unfold yE; have := vA; rw [if_neg (by omega)]
 have hc1 : yM 0 = true := (yQ 0).2 vA
 rcases h with ⟨rfl, rfl, rfl, rfl, rfl⟩ | ⟨b, s, bc, pre, r, nx, rfl, rfl, h3, h4, rfl, h6, h7, h8, h9, h10⟩
 ·refine ⟨some ⟨(z.row [v] 1).y, 0, none⟩, 0 + 1 + vM, [(0, 1)], (z.row [v] 1).add (.cells [v] 1 [(0, 1)] 1 false), ?_, ?_, .inl ⟨rfl, rfl, rfl, rfl, rfl⟩, ?_, Nat.le_refl _, fun b hb => .inr (by obtain ⟨a, e, rfl⟩ := hb; cases e; simp)⟩
  ·have hble : Nat.ble (0 + 1) 0 = false := rfl
   unfold zZ
   simp only [T.el, hxd, hei, hz, hsrc, hcond, cond_true, wH, hc0, hble, cond_false, hc1, yF]
   rfl
  ·refine .inr ⟨(z.row [v] 1).y, none, [v], [], [], 1, rfl, rfl, rfl, by omega, rfl, by simp; omega, by simp, ?_, rfl, ⟨by simp, trivial⟩⟩
   rw [St.add_get, if_pos rfl]; rfl
  ·exact (Only.row _ _ _).trans' (Only.add _ _ : Only (AtP none) _ _) (fun b _ h => .inl h)
 ·obtain ⟨f1, f2⟩ := Keys.find h10
  have hcx : yM (len + vM) = false := by unfold yM; rw [(zN _ _).2 (by omega)]; rfl
  have hcl : yE (len + vM) = len := zAW _
  have hble : Nat.ble (len + 1) len = false := by rw [Bool.eq_false_iff]; intro e; have := (zN _ _).1 e; omega
  have hgb : yC (z.row [v] 1).heap b = some (.cells bc 1 (pre ++ (s.getD 0, len) :: r) nx false) := by
   rw [(Le.row z [v] 1).get b h7]; exact h8
  have hg : (Nat.beq len len && Nat.beq (0 + len * 1) len && Nat.beq 1 1 && !false && Nat.blt 0 1) = true := by
   rw [Nat.beq_refl, show 0 + len * 1 = len by omega, Nat.beq_refl]; rfl
  have hbl : (bc.take len).length = len := by rw [h9]; exact h3
  refine ⟨some ⟨b, 0, some nx⟩, len + 1 + vM, (nx, len + 1) :: (s.getD 0, len) :: r, (z.row [v] 1).put b (.cells (bc.take len ++ [v]) 1 ((nx, len + 1) :: (s.getD 0, len) :: r) (nx + 1) false), ?_, ?_, ?_, ?_, ?_, fun b' hb => .inl (by obtain ⟨a, e, rfl⟩ := hb; cases e; exact ⟨_, rfl, rfl⟩)⟩
  ·unfold zZ
   simp only [T.el, hxd, hei, hz, hsrc, hcond, cond_true, wH, hcl, hble, cond_false, hcx]
   unfold zET
   simp only [hgb, zU, f1, f2, hg, cond_true, zBC, xQ, St.write_eq]
  ·refine .inr ⟨b, some nx, bc.take len ++ [v], [], (s.getD 0, len) :: r, nx + 1, rfl, rfl, by simp [h3], by omega, rfl, h6, by simp; omega, ?_, ?_, ⟨by omega, ?_⟩⟩
   ·rw [St.put_get, if_pos rfl]; rfl
   ·rw [List.take_of_length_le (by simp [hbl]), h9]
   ·have := h10.drop
    exact ⟨Keys.lt h10, this.2⟩
  ·exact .inr ⟨b, s, some nx, (nx, len + 1), r, rfl, rfl, rfl, rfl, rfl, h3, h4, by rw [List.take_append_of_le_length (by omega), List.take_of_length_le (by omega)], h6⟩
  ·exact (Only.row _ _ _).trans' (Only.put (S := AtP (some ⟨b, 0, s⟩)) (.inr ⟨_, rfl, rfl⟩)) (fun b _ h => .inl h)
  ·simp; omega
end
end Go.Lay
