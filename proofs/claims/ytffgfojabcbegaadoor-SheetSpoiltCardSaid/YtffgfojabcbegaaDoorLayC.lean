
import Derived.ChangeArms
import Derived.ReadAgain
import Derived.ChangeBears
import Derived.Below
import Derived.Test.YtffgfojabcbegaaDoorLayB
set_option linter.unusedVariables false
set_option linter.unusedSimpArgs false
namespace Go.Lay
open Go

def ov : List (Nat × Value) → (Nat → Value) → Nat → Value
 | [], g, i => g i
 | (k, v) :: l, g, i => bif Nat.beq k i then v else ov l g i
def trF (g : Nat → Value) : Nat → Nat → Nat → Bool → Tr Value
 | 0, _, _, _ => .leaf
 | d + 1, w, a, c => .node (some (bif c then g a else undef)) (trF g d (w * 2) a false) (trF g d (w * 2) (a + w) true)
def Fm (n : Nat) (g : Nat → Value) : Tm := ⟨n, trF g ((way n).length + 1) 1 0 true⟩
structure Alt where
 T : Type
 e : Exit
 l : T → List (Nat × Value)
 ms : T → List Nat
 Q : T → St → Prop

inductive Ans
 | g
 | b (t : Bool)
 | n (z : Int)
 | l (v : Value)
 | i
 | v (v : Value)
 | e (v : Value) (σ : St)
 | c (v : Value) (σ : St)
 | lp (e : Exit) (fr : Fr) (σ : St)
 | lf (n : Nat) (l : List (Nat × Value)) (alts : List Alt)
 | rf (n : Nat) (l : List (Nat × Value)) (alts : List (Exit × (St → Prop)))
 | fin (a : Alt) (t : a.T)
 | cut (n : Nat) (l : List (Nat × Value)) (alts : List Alt)
 | die
 | dx (v : Value) (σ : St)

def St.row (σ : St) (cs : List Value) (esz : Nat) : St := σ.add (.cells cs esz [(0, cs.length)] 1 false)

def autoOp (P : Program) (ev : Operand → Value) (σ : St) (o : Op) : Option (Value × St) :=
 match o with
 | .alloc t => match zeroT P t with
  | some z => some (.pointer (some ⟨σ.q, 0, none⟩), σ.row z.cells.toList (eszT P t z.cells.toList.length))
  | none => none
 | .box t x => some (.pointer (some ⟨σ.q, 0, none⟩), σ.row (ev x).cells.toList (eszT P t (ev x).cells.toList.length))
 | .buildSlice t len ps =>
  match elemOfSlice P t with
  | some (e, n) => match zeroT P e with
   | some z =>
    bif Nat.ble (len * n) 16777216 && Nat.beq z.cells.toList.length n then
     match fillA (fun i => some (i * n, n)) (zerosA z.cells.toList len) (ps.toList.map fun p => (p.1, ev p.2)) with
     | some cs => some (.slice (some ⟨σ.q, 0, none⟩) len len, σ.row cs n)
     | none => none
    else none
   | none => none
  | none => none
 | .makeMap t none => match mapOf P t with
  | some _ => some (.map (some σ.q), σ.add (.map []))
  | none => none
 | o => match valOp P ev o with
  | some v => some (v, σ)
  | none => none

def evL (l : List Value) : Operand → Value
 | .tmp i => l.getD i undef
 | _ => undef
def tmpsTo (n : Nat) : List Operand := (List.range n).map .tmp
def idxOk (i : Int) (len : Nat) : Prop := 0 ≤ i ∧ i < (len : Int)

def wpSee (P : Program) (f : Tm) (σ : St) (o : Op) (v : Value) : Prop :=
 match o with
 | .slice t x lo hi mx => sliceA P σ t (aeval f x) (lo.map (aeval f)) (hi.map (aeval f)) (mx.map (aeval f)) = some v
 | .lookup t m k ok => lookOp P (evL [aeval f m, aeval f k]) σ (.lookup t (.tmp 0) (.tmp 1) ok) = some v
 | .index t x k => indexA P t (aeval f x) (aeval f k) = some v
 | .binOp op t x y _ => binA P op t x y (aeval f x) (aeval f y) = some v
 | .convert s d x => seeOp P (evL [aeval f x]) σ (.convert s d (.tmp 0)) = some v
 | .call c => seeOp P (evL (c.args.toList.map (aeval f))) σ (.call { c with args := ⟨tmpsTo c.args.toList.length⟩ }) = some v
 | o => seeOp P (aeval f) σ o = some v
def wpEff (P : Program) (f : Tm) (σ : St) (o : Op) (v : Value) (σ' : St) : Prop :=
 match o with
 | .store t a x => effOp P (evL [aeval f a, aeval f x]) σ (.store t (.tmp 0) (.tmp 1)) = some (v, σ')
 | .mapUpdate t m k x => effOp P (evL [aeval f m, aeval f k, aeval f x]) σ (.mapUpdate t (.tmp 0) (.tmp 1) (.tmp 2)) = some (v, σ')
 | .insert t m k x => effOp P (evL [aeval f m, aeval f k, aeval f x]) σ (.insert t (.tmp 0) (.tmp 1) (.tmp 2)) = some (v, σ')
 | .makeSlice t l c => effOp P (evL [aeval f l, aeval f c]) σ (.makeSlice t (.tmp 0) (.tmp 1)) = some (v, σ')
 | .call c => match c.callee, c.argTypes.toList, c.args.toList.map (aeval f) with
  | .builtin .append, [st, xt], [s, x] => appendA P st xt s x σ = some (v, σ')
  | .value (.func g), _, as => extR P σ (.func g) as = some v ∧ σ' = σ
  | _, _, _ => effOp P (aeval f) σ (.call c) = some (v, σ')
 | o => effOp P (aeval f) σ o = some (v, σ')

abbrev CallP := FnRef → List Value → St → Value → St → Prop
abbrev callP (rec : Rec) : CallP := fun r args σ v σ' => callA rec r args σ = some (v, σ')
def wpOp (P : Program) (C : CallP) (f : Tm) (σ : St) (o : Op) : List Ans → (Value → St → List Ans → Prop) → Prop
 | .g :: as, K => match autoOp P (aeval f) σ o with
  | some (v, σ') => K v σ' as
  | none => False
 | .b t :: as, K => match valOp P (aeval f) o with
  | some (.bool e) => e = t ∧ K (.bool t) σ as
  | _ => False
 | .n z :: as, K => match valOp P (aeval f) o with
  | some (.int k e) => e = z ∧ K (.int k z) σ as
  | _ => False
 | .l v :: as, K => match o with
  | .load t x => match aeval f x with
   | .pointer (some a) => loadA P σ t a = some v ∧ K v σ as
   | _ => False
  | _ => False
 | .i :: as, K => match o with
  | .indexAddr t x k => match aeval f k, aeval f x, P.underlying t with
   | .int _ i, .pointer (some a), some (.array len elem) => match sizeT P elem with
    | some n => idxOk i len ∧ K (.pointer (some (aadd a (i.toNat * n)))) σ as
    | none => False
   | .int _ i, .slice (some a) len _, some (.slice elem) => match sizeT P elem with
    | some n => idxOk i len ∧ K (.pointer (some (aadd a (i.toNat * n)))) σ as
    | none => False
   | _, _, _ => False
  | _ => False
 | .v v :: as, K => wpSee P f σ o v ∧ K v σ as
 | .e v σ' :: as, K => wpEff P f σ o v σ' ∧ K v σ' as
 | .c v σ' :: as, K => match o with
  | .call c => match c.callee with
   | .value fx => match refOf (aeval f fx) (c.args.toList.map (aeval f)) with
    | some (r, args) => match extC P fx σ r args with
     | none => C r args σ v σ' ∧ K v σ' as
     | some _ => False
    | none => False
   | _ => False
  | _ => False
 | _, _ => False

def wpOps (P : Program) (C : CallP) (ops : Array Oper) : List Oper → List Ans → Tm → St → List Seen → (Tm → St → List Seen → List Ans → Prop) → Prop
 | [], as, f, σ, l, K => K f σ l as
 | o :: rest, as, f, σ, l, K =>
  match guardA ops f o with
  | some true => wpOp P C f σ o.op as fun v σ' as => wpOps P C ops rest as (setO f o.dst v) σ' (l ++ [⟨f, v, true, σ, σ'⟩]) K
  | some false => wpOps P C ops rest as (setO f o.dst undef) σ (l ++ [⟨f, undef, false, σ, σ⟩]) K
  | none => False

def goodB : Nat → Value → Bool
 | 0, _ => false
 | n + 1, .agg cs => cs.toList.all (goodB n)
 | n + 1, .tuple cs => cs.toList.all (goodB n)
 | n + 1, .iface _ v => goodB n v
 | n + 1, .func (.func _) f c => f.toList.all (goodB n) && c.toList.all (goodB n)
 | _ + 1, .int k _ => sameKind k k
 | _ + 1, .bool _ | _ + 1, .string _ | _ + 1, .pointer _ | _ + 1, .slice _ _ _ | _ + 1, .map _ | _ + 1, .nilFunc | _ + 1, .nilIface => true
 | _ + 1, _ => false
structure Lk where
 want : Bool
 need : Bool
 low : Prop
 look : St → Prop
 before : St
 after : St
def belowL (n : Nat) (vs : List Value) : Prop := vs.all (belowB RD n) = true
def optL (f : Tm) : Option Operand → List Value
 | some x => [aeval f x]
 | none => []
def lookP (P : Program) (f : Tm) (o : Op) (v : Value) (σ : St) : Prop :=
 match o with
 | .load t x => match aeval f x with
  | .pointer (some a) => (a.block < σ.q ∧ goodB RD v = true) ∧ loadA P σ t a = some v
  | _ => False
 | .slice t x lo hi mx => (belowL σ.q (aeval f x :: (optL f lo ++ (optL f hi ++ optL f mx))) ∧ goodB RD v = true) ∧ sliceA P σ t (aeval f x) (lo.map (aeval f)) (hi.map (aeval f)) (mx.map (aeval f)) = some v
 | .lookup t m k ok => (belowL σ.q [aeval f m, aeval f k] ∧ goodB RD v = true) ∧ lookOp P (evL [aeval f m, aeval f k]) σ (.lookup t (.tmp 0) (.tmp 1) ok) = some v
 | .convert s d x => (belowL σ.q [aeval f x] ∧ goodB RD v = true) ∧ seeOp P (evL [aeval f x]) σ (.convert s d (.tmp 0)) = some v
 | .call c => (belowL σ.q (c.args.toList.map (aeval f)) ∧ goodB RD v = true) ∧ c.callee = .builtin .len ∧ seeOp P (evL (c.args.toList.map (aeval f))) σ (.call { c with args := ⟨tmpsTo c.args.toList.length⟩ }) = some v
 | _ => False
def trivB : Value → Bool
 | .bool _ | .int .. | .string _ | .nilFunc | .nilIface => true
 | _ => false
def opsV (f : Tm) (o : Op) : List Value := (o.operands.toList.filter fun x => !isFn x).map (aeval f)
def lowB (f : Tm) (o : Op) : Bool := (actsB o || looksB o) && !(opsV f o).all trivB
def wpOpsD (P : Program) (C : CallP) (ops : Array Oper) : List Oper → List Ans → Tm → St → List Lk → (Tm → St → List Lk → List Ans → Prop) → Prop
 | [], as, f, σ, l, K => K f σ l as
 | o :: rest, as, f, σ, l, K =>
  match guardA ops f o with
  | some true => wpOp P C f σ o.op as fun v σ' as => wpOpsD P C ops rest as (setO f o.dst v) σ' (l ++ [⟨true, lowB f o.op, belowL σ.q (opsV f o.op), lookP P f o.op v, σ, σ'⟩]) K
  | some false => wpOpsD P C ops rest as (setO f o.dst undef) σ (l ++ [⟨false, false, True, fun _ => True, σ, σ⟩]) K
  | none => False
def steadies (l : List Lk) : List (Nat × Nat) → Prop → Prop
 | [], K => K
 | p :: ps, K => match l[p.1]?, l[p.2]? with
  | some sj, some sk => match sj.want with
   | true => sj.look sk.before ∧ sj.look sk.after ∧ steadies l ps K
   | false => steadies l ps K
  | _, _ => False
def belows : List Lk → Prop → Prop
 | [], K => K
 | s :: ss, K => match s.need with
  | true => s.low ∧ belows ss K
  | false => belows ss K

def wpReg (P : Program) (C : CallP) (ops : Array Oper) (draw : Bool) (as : List Ans) (fr : Fr) (σ : St) (K : Exit → Fr → St → List Ans → Prop) : Prop :=
 match draw with
 | false => wpOps P C ops ops.toList as fr.f σ [] fun f σ _ as => K .normal ⟨f, fr.marks⟩ σ as
 | true => match drawOk ops (CheckFast.beforeF ops), pairsA ops (CheckFast.beforeF ops), frees ops (CheckFast.beforeF ops) with
  | true, [], false => wpOps P C ops ops.toList as fr.f σ [] fun f σ _ as => K .normal ⟨f, fr.marks⟩ σ as
  | true, ps, _ => wpOpsD P C ops ops.toList as fr.f σ [] fun f σ l as => belows l (steadies l ps (K .normal ⟨f, fr.marks⟩ σ as))
  | false, _, _ => False

def wpC (P : Program) (rec : Rec) (N : Nat) (rd : Option Nat) : Code → List Ans → Fr → St → (Exit → Fr → St → List Ans → Prop) → Prop
 | .skip, as, fr, σ, K => K .normal fr σ as
 | .label _, as, fr, σ, K => K .normal fr σ as
 | .ret, as, fr, σ, K => K .ret fr σ as
 | .exit id, as, fr, σ, K => K (.exit id) fr σ as
 | .seq x y, as, fr, σ, K => wpC P rec N rd x as fr σ fun e fr σ as => match e with
  | .normal => wpC P rec N rd y as fr σ K
  | e => K e fr σ as
 | .cond c x y, as, fr, σ, K => match aeval fr.f c with
  | .bool true => wpC P rec N rd x as fr σ K
  | .bool false => wpC P rec N rd y as fr σ K
  | _ => False
 | .block id c, as, fr, σ, K => wpC P rec N rd c as fr σ fun e fr σ as => match e with
  | .exit i => match Nat.beq i id with
   | true => K .normal fr σ as
   | false => K (.exit i) fr σ as
  | e => K e fr σ as
 | .scope c, as, fr, σ, K => wpC P rec N rd c as fr σ K
 | .region _ ops d, as, fr, σ, K => wpReg P (callP rec) ops d as fr σ K
 | .loop c, .lp e fr' σ' :: as, fr, σ, K => loopA (codeA P rec N rd c) N fr σ = some (e, fr', σ') ∧ K e fr' σ' as
 | .rangeFunc g ps a bo, .lp e fr' σ' :: as, fr, σ, K => rangeA rec rd g ps a bo fr σ = some (e, fr', σ') ∧ K e fr' σ' as
 | _, _, _, _, _ => False

section
variable {P : Program} {rec : Rec}

theorem autoOp_sound {o : Op} {f : Tm} {σ : St} {r : Value × St} (h : autoOp P (aeval f) σ o = some r) : opA P rec (aeval f) σ o = some r := by
 unfold autoOp at h
 split at h
 ·split at h
  ·rename_i z hz
   simp [opA, isEffB, effOp, hz, newRow_eq, fN_eq] at h ⊢
   exact h
  ·cases h
 ·simp [opA, isEffB, effOp, newRow_eq, fN_eq] at h ⊢
  exact h
 ·split at h
  ·rename_i e n hes
   split at h
   ·rename_i z hz
    obtain ⟨hc, h⟩ := bif_some h
    split at h
    ·rename_i cs hf
     simp only [opA, isEffB, effOp, hes, hz, hc, cond_true, hf, newRow_eq]
     exact h
    ·cases h
   ·cases h
  ·cases h
 ·split at h
  ·rename_i ke hmo
   simp only [opA, isEffB, effOp, hmo, cond_true, St.new_eq]
   exact h
  ·cases h
 ·rename_i hn1 hn2 hn3 hn4
  split at h
  ·rename_i v hv
   cases h
   unfold opA
   split
   ·rename_i c
    unfold callOp
    split
    ·rename_i fx hc
     exfalso
     simp only [valOp] at hv
     split at hv <;> simp_all
    ·rename_i hc; exfalso; simp [valOp, hc] at hv
    ·rename_i hc; exfalso; simp [valOp, hc] at hv
    ·rename_i hc; rw [hv]
    ·rename_i hc; rw [hv]; rfl
    ·rename_i hc; exfalso; simp [valOp, hc] at hv
   ·simp [valOp] at hv
   ·simp [valOp] at hv
   ·simp [valOp] at hv
   ·rw [hv]
   ·have : isEffB o = false := by
     cases o <;> first | rfl | (simp [valOp] at hv; done) | (exfalso; rename_i hx _ _ _ _; exact hx _ rfl)
    rw [this, hv]; rfl
  ·cases h
end
end Go.Lay

namespace Go.Lay
open Go
section
variable {P : Program} {rec : Rec}

theorem valOp_opA {o : Op} {ev : Operand → Value} {σ : St} {v : Value} (hv : valOp P ev o = some v) : opA P rec ev σ o = some (v, σ) := by
 unfold opA
 split
 ·rename_i c
  unfold callOp
  split
  ·rename_i fx hc
   exfalso
   simp only [valOp] at hv
   split at hv <;> simp_all
  ·rename_i hc; exfalso; simp [valOp, hc] at hv
  ·rename_i hc; exfalso; simp [valOp, hc] at hv
  ·rename_i hc; rw [hv]
  ·rename_i hc; rw [hv]; rfl
  ·rename_i hc; exfalso; simp [valOp, hc] at hv
 ·simp [valOp] at hv
 ·simp [valOp] at hv
 ·simp [valOp] at hv
 ·rw [hv]
 ·have : isEffB o = false := by
   cases o <;> first | rfl | (simp [valOp] at hv; done) | (exfalso; rename_i hx _ _ _ _; exact hx _ rfl)
  rw [this, hv]; rfl

theorem lookOp_opA {o : Op} {ev : Operand → Value} {σ : St} {v : Value} (hv : valOp P ev o = none) (hl : lookOp P ev σ o = some v) : opA P rec ev σ o = some (v, σ) := by
 unfold opA
 split
 ·rename_i c
  unfold callOp
  split
  ·rename_i fx hc; exfalso; simp only [lookOp, hc] at hl; cases hl
  ·rename_i hc; exfalso; simp only [lookOp, hc] at hl; cases hl
  ·rename_i hc; exfalso; simp only [lookOp, hc] at hl; cases hl
  ·rename_i hc; rw [hv, hl]; rfl
  ·rename_i b _ _ hb hc
   exfalso
   simp only [lookOp, hc] at hl
   cases b <;> first | (simp at hl; done) | exact hb rfl
  ·rename_i hc; exfalso; simp only [lookOp, hc] at hl; cases hl
 ·rw [hl]; rfl
 ·rw [hl]; rfl
 ·rw [hl]; rfl
 ·rw [hv, hl]; rfl
 ·exfalso
  cases o <;> first | (simp [lookOp] at hl; done) | (rename_i h1 h2 h3 h4 h5; first | exact h1 _ rfl | exact h2 _ _ rfl | exact h3 _ _ _ _ rfl | exact h4 _ _ _ _ _ rfl | exact h5 _ _ _ rfl)

theorem effOp_opA {o : Op} {ev : Operand → Value} {σ σ' : St} {v : Value} (h : effOp P ev σ o = some (v, σ')) : opA P rec ev σ o = some (v, σ') := by
 unfold opA
 split
 ·rename_i c
  unfold callOp
  split
  ·rename_i fx hc
   simp only [effOp, hc] at h
   split at h
   ·rename_i r as href
    simp only [Option.map_eq_some_iff] at h
    obtain ⟨v0, h1, h2⟩ := h
    simp only [h1]; rw [h2]
   ·cases h
  ·exact h
  ·exact h
  ·rename_i hc; exfalso; simp only [effOp, hc] at h; cases h
  ·rename_i b ha hcp _ hc
   exfalso
   simp only [effOp, hc] at h
   cases b <;> first | (simp at h; done) | exact ha rfl | exact hcp rfl
  ·rename_i hc; exfalso; simp only [effOp, hc] at h; cases h
 ·simp [effOp] at h
 ·simp [effOp] at h
 ·simp [effOp] at h
 ·simp [effOp] at h
 ·have : isEffB o = true := by
   cases o <;> first | rfl | (simp [effOp] at h; done) | (exfalso; rename_i hx _ _ _ _; exact hx _ rfl)
  rw [this]; exact h

theorem evL_tmps (l : List Value) : (tmpsTo l.length).map (evL l) = l := by
 apply List.ext_getElem
 ·simp [tmpsTo]
 ·intro i h1 h2
  simp [tmpsTo, evL, List.getD, h2]
theorem seeOp_call {c : Call} {ev : Operand → Value} {σ : St} {v : Value} (h : seeOp P (evL (c.args.toList.map ev)) σ (.call { c with args := ⟨tmpsTo c.args.toList.length⟩ }) = some v) : seeOp P ev σ (.call c) = some v := by
 have e : (tmpsTo c.args.toList.length).map (evL (c.args.toList.map ev)) = c.args.toList.map ev := by
  have := evL_tmps (c.args.toList.map ev)
  rwa [List.length_map] at this
 simp only [seeOp, valOp, lookOp, e] at h ⊢
 exact h

theorem wpOp_sound {f : Tm} {σ : St} {o : Op} {as : List Ans} {K : Value → St → List Ans → Prop} (h : wpOp P (callP rec) f σ o as K) : ∃ v σ' as', opA P rec (aeval f) σ o = some (v, σ') ∧ K v σ' as' := by
 unfold wpOp at h
 split at h
 ·split at h
  ·rename_i v σ' ho; exact ⟨v, σ', _, autoOp_sound ho, h⟩
  ·exact h.elim
 ·split at h
  ·rename_i e he; obtain ⟨rfl, h⟩ := h; exact ⟨_, _, _, valOp_opA he, h⟩
  ·exact h.elim
 ·split at h
  ·rename_i k e he; obtain ⟨rfl, h⟩ := h; exact ⟨_, _, _, valOp_opA he, h⟩
  ·exact h.elim
 ·split at h
  ·split at h
   ·rename_i a ha
    exact ⟨_, _, _, lookOp_opA rfl (by simp only [lookOp, ha]; exact h.1), h.2⟩
   ·exact h.elim
  ·exact h.elim
 ·split at h
  ·rename_i t x k
   split at h
   ·rename_i kd i a len elem hk hx hd
    split at h
    ·rename_i n hn
     refine ⟨_, _, _, valOp_opA (v := .pointer (some (aadd a (i.toNat * n)))) ?_, h.2⟩
     have h1 : leI 0 i = true := (leI_iff 0 i).2 h.1.1
     have h2 : ltI i (.ofNat len) = true := (ltI_iff i _).2 h.1.2
     simp only [valOp, indexAddrA, hk, hx, hd, hn, h1, h2, Bool.and_self, cond_true]
    ·exact h.elim
   ·rename_i kd i a len cp elem hk hx hd
    split at h
    ·rename_i n hn
     refine ⟨_, _, _, valOp_opA (v := .pointer (some (aadd a (i.toNat * n)))) ?_, h.2⟩
     have h1 : leI 0 i = true := (leI_iff 0 i).2 h.1.1
     have h2 : ltI i (.ofNat len) = true := (ltI_iff i _).2 h.1.2
     simp only [valOp, indexAddrA, hk, hx, hd, hn, h1, h2, Bool.and_self, cond_true]
    ·exact h.elim
   ·exact h.elim
  ·exact h.elim
 ·obtain ⟨hs, h⟩ := h
  refine ⟨_, _, _, ?_, h⟩
  unfold wpSee at hs
  split at hs
  ·exact lookOp_opA rfl hs
  ·exact lookOp_opA rfl hs
  ·exact valOp_opA hs
  ·exact valOp_opA hs
  ·unfold seeOp at hs
   split at hs
   ·rename_i v0 hv; cases hs; exact valOp_opA hv
   ·rename_i hv; exact lookOp_opA hv hs
  ·have hs := seeOp_call hs
   unfold seeOp at hs
   split at hs
   ·rename_i v0 hv; cases hs; exact valOp_opA hv
   ·rename_i hv; exact lookOp_opA hv hs
  ·unfold seeOp at hs
   split at hs
   ·rename_i v0 hv; cases hs; exact valOp_opA hv
   ·rename_i hv; exact lookOp_opA hv hs
 ·obtain ⟨he, h⟩ := h
  refine ⟨_, _, _, effOp_opA ?_, h⟩
  unfold wpEff at he
  split at he
  ·exact he
  ·exact he
  ·exact he
  ·exact he
  ·split at he
   ·rename_i hc ht ha
    simp only [effOp, hc, ht, ha]; exact he
   ·rename_i hc
    obtain ⟨he, rfl⟩ := he
    simp only [effOp, hc, aeval, refOf, List.nil_append, List.append_nil, extC, isFn, cond_true, he, Option.map_some]
   ·exact he
  ·exact he
 ·split at h
  ·split at h
   ·rename_i fx hc
    split at h
    ·rename_i r args href
     split at h
     ·rename_i hx
      refine ⟨_, _, _, ?_, h.2⟩
      simp only [opA, callOp, hc, href, hx]; exact h.1
     ·exact h.elim
    ·exact h.elim
   ·exact h.elim
  ·exact h.elim
 ·exact h.elim

theorem wpOps_sound {ops : Array Oper} : ∀ (rest : List Oper) (as : List Ans) (f : Tm) (σ : St) (l : List Seen) (K : Tm → St → List Seen → List Ans → Prop), wpOps P (callP rec) ops rest as f σ l K →
  ∃ l' t τ as', seenA P rec ops rest f σ = some (l', t, τ) ∧ K t τ (l ++ l') as'
 | [], as, f, σ, l, K, h => ⟨[], f, σ, as, rfl, by rw [List.append_nil]; exact h⟩
 | o :: rest, as, f, σ, l, K, h => by
  unfold wpOps at h
  split at h
  ·rename_i hg
   obtain ⟨v, σ', as', h1, h2⟩ := wpOp_sound h
   obtain ⟨l', t, τ, as2, h3, h4⟩ := wpOps_sound rest _ _ _ _ _ h2
   exact ⟨⟨f, v, true, σ, σ'⟩ :: l', t, τ, as2, by simp [seenA, hg, h1, fV_eq, putA_eq, h3], by rw [List.append_assoc] at h4; exact h4⟩
  ·rename_i hg
   obtain ⟨l', t, τ, as2, h3, h4⟩ := wpOps_sound rest _ _ _ _ _ h
   exact ⟨⟨f, undef, false, σ, σ⟩ :: l', t, τ, as2, by simp [seenA, hg, putA_eq, h3], by rw [List.append_assoc] at h4; exact h4⟩
  ·exact h.elim

theorem seenA_opsA {ops : Array Oper} : ∀ (rest : List Oper) (f : Tm) (σ : St) (l : List Seen) (t : Tm) (τ : St), seenA P rec ops rest f σ = some (l, t, τ) → opsA P rec ops rest f σ = some (t, τ)
 | [], f, σ, l, t, τ, h => by simp [seenA] at h; simp [opsA, h.2.1, h.2.2]
 | o :: rest, f, σ, l, t, τ, h => by
  unfold seenA at h
  split at h
  ·rename_i hg
   split at h
   ·rename_i v σ' hop
    rw [fV_eq, putA_eq] at h
    split at h
    ·rename_i l' t' τ' hs
     simp at h; obtain ⟨_, rfl, rfl⟩ := h
     have := seenA_opsA rest _ _ _ _ _ hs
     simp [opsA, hg, hop, putA_eq, this]
    ·cases h
   ·cases h
  ·rename_i hg
   rw [putA_eq] at h
   split at h
   ·rename_i l' t' τ' hs
    simp at h; obtain ⟨_, rfl, rfl⟩ := h
    have := seenA_opsA rest _ _ _ _ _ hs
    simp [opsA, hg, putA_eq, this]
   ·cases h
  ·cases h

theorem veq_refl : ∀ (n : Nat) (v : Value), goodB n v = true → veq n v v = true := by
 intro n
 induction n with
 | zero => intro v h; simp [goodB] at h
 | succ n ih =>
  have lists : ∀ (l : List Value), l.all (goodB n) = true → veq.veqs n l l = true := by
   intro l
   induction l with
   | nil => intro _; rfl
   | cons x l ihl =>
    intro h
    simp only [List.all_cons, Bool.and_eq_true] at h
    simp only [veq.veqs, Bool.and_eq_true]
    exact ⟨ih x h.1, ihl h.2⟩
  intro v h
  cases v with
  | agg cs => simp only [goodB] at h; simp only [veq]; exact lists _ h
  | tuple cs => simp only [goodB] at h; simp only [veq]; exact lists _ h
  | iface t x => simp only [goodB] at h; simp only [veq, Bool.and_eq_true]; exact ⟨Nat.beq_refl _, ih x h⟩
  | func fn f c =>
   cases fn with
   | func g => simp only [goodB, Bool.and_eq_true] at h; simp only [veq, Bool.and_eq_true]; exact ⟨⟨Nat.beq_refl _, lists _ h.1⟩, lists _ h.2⟩
   | _ => simp [goodB] at h
  | bool b => simp [veq]
  | int k n => simp only [goodB] at h; simp only [veq, eqI_eq, Bool.and_eq_true]; exact ⟨h, by simp⟩
  | string s => simp [veq]
  | pointer a => simp [veq]
  | slice a l c => simp [veq]
  | map a => simp [veq]
  | nilFunc => rfl
  | nilIface => rfl
  | _ => simp [goodB] at h

structure LkOk (P : Program) (o : Oper) (k : Lk) (s : Seen) : Prop where
 want : k.want = s.want
 before : k.before = s.before
 after : k.after = s.after
 low : (k.need = true → k.low) → (!s.want || below s.before.q s.f o || !(actsB o.op || looksB o.op)) = true
 look : s.want = true → ∀ σ, k.look σ → steady P o s σ = true
inductive LkAll (P : Program) : List Oper → List Lk → List Seen → Prop
 | nil : LkAll P [] [] []
 | cons {o : Oper} {k : Lk} {s : Seen} {os : List Oper} {ks : List Lk} {ss : List Seen} (h : LkOk P o k s) (t : LkAll P os ks ss) : LkAll P (o :: os) (k :: ks) (s :: ss)
theorem LkAll.get {os : List Oper} {ks : List Lk} {ss : List Seen} (h : LkAll P os ks ss) : ∀ (i : Nat) (k : Lk), ks[i]? = some k → ∃ o s, os[i]? = some o ∧ ss[i]? = some s ∧ LkOk P o k s := by
 induction h with
 | nil => intro i k h; simp at h
 | cons h _ ih =>
  intro i k hk
  cases i with
  | zero => simp at hk; subst hk; exact ⟨_, _, rfl, rfl, h⟩
  | succ i => simpa using ih i k (by simpa using hk)

theorem belowL_map {n : Nat} {f : Tm} {o : Oper} (h : belowL n (o.op.operands.toList.map (aeval f))) : below n f o = true := by
 unfold belowL at h
 rw [List.all_map] at h
 exact h
theorem triv_below {n : Nat} {vs : List Value} (h : vs.all trivB = true) : belowL n vs := by
 refine List.all_eq_true.2 (fun v hv => ?_)
 have := List.all_eq_true.1 h v hv
 cases v <;> first | rfl | (simp [trivB] at this; done)
theorem below_opsV {n : Nat} {f : Tm} {o : Oper} (h : belowL n (opsV f o.op)) : below n f o = true := by
 refine List.all_eq_true.2 (fun x hx => ?_)
 cases hx2 : isFn x with
 | true => cases x <;> first | (simp [isFn] at hx2; done) | rfl
 | false =>
  have := List.all_eq_true.1 h (aeval f x) (List.mem_map_of_mem (List.mem_filter.2 ⟨hx, by rw [hx2]; rfl⟩))
  exact this
theorem steady_of {o : Oper} {s : Seen} {σ : St} (h1 : below σ.q s.f o = true) (h2 : goodB RD s.v = true) (h3 : seeOp P (aeval s.f) σ o.op = some s.v) : steady P o s σ = true := by
 unfold steady
 cases hw : s.want with
 | true => rw [cond_true, h1, Bool.true_and, h3]; exact veq_refl _ _ h2
 | false => rfl
theorem lookP_sound {o : Oper} {s : Seen} {σ : St} (h : lookP P s.f o.op s.v σ) : steady P o s σ = true := by
 unfold lookP at h
 split at h
 ·rename_i t x ho
  split at h
  ·rename_i a ha
   refine steady_of ?_ h.1.2 (by rw [ho]; simp only [seeOp, valOp, lookOp, ha]; exact h.2)
   refine belowL_map (n := σ.q) ?_
   unfold belowL
   rw [ho]
   simp only [Op.operands, List.map_cons, List.map_nil, ha, List.all_cons, List.all_nil, Bool.and_true]
   exact (blt_iff _ _).2 h.1.1
  ·exact h.elim
 ·rename_i t x lo hi mx ho
  refine steady_of ?_ h.1.2 (by rw [ho]; exact h.2)
  refine belowL_map (n := σ.q) ?_
  have h1 := h.1.1
  unfold belowL at h1 ⊢
  rw [ho]
  cases lo <;> cases hi <;> cases mx <;> simpa [Op.operands, optL] using h1
 ·rename_i t m k ok ho
  refine steady_of ?_ h.1.2 (by rw [ho]; exact h.2)
  refine belowL_map (n := σ.q) ?_
  have h1 := h.1.1
  unfold belowL at h1 ⊢
  rw [ho]
  simpa [Op.operands] using h1
 ·rename_i t m k ho
  refine steady_of ?_ h.1.2 (by rw [ho]; exact h.2)
  refine belowL_map (n := σ.q) ?_
  have h1 := h.1.1
  unfold belowL at h1 ⊢
  rw [ho]
  simpa [Op.operands] using h1
 ·rename_i c ho
  refine steady_of ?_ h.1.2 (by rw [ho]; exact seeOp_call h.2.2)
  refine belowL_map (n := σ.q) ?_
  have h1 := h.1.1
  unfold belowL at h1 ⊢
  rw [ho]
  simpa [Op.operands, Call.operands, h.2.1] using h1
 ·exact h.elim

theorem wpOpsD_sound {ops : Array Oper} : ∀ (rest : List Oper) (as : List Ans) (f : Tm) (σ : St) (l : List Lk) (K : Tm → St → List Lk → List Ans → Prop), wpOpsD P (callP rec) ops rest as f σ l K →
  ∃ l' t τ as' lk, seenA P rec ops rest f σ = some (l', t, τ) ∧ LkAll P rest lk l' ∧ K t τ (l ++ lk) as'
 | [], as, f, σ, l, K, h => ⟨[], f, σ, as, [], rfl, .nil, by rw [List.append_nil]; exact h⟩
 | o :: rest, as, f, σ, l, K, h => by
  unfold wpOpsD at h
  split at h
  ·rename_i hg
   obtain ⟨v, σ', as', h1, h2⟩ := wpOp_sound h
   obtain ⟨l', t, τ, as2, lk, h3, h4, h5⟩ := wpOpsD_sound rest _ _ _ _ _ h2
   refine ⟨⟨f, v, true, σ, σ'⟩ :: l', t, τ, as2, ⟨true, lowB f o.op, belowL σ.q (opsV f o.op), lookP P f o.op v, σ, σ'⟩ :: lk, by simp [seenA, hg, h1, fV_eq, putA_eq, h3], .cons ⟨rfl, rfl, rfl, fun hl => ?_, fun _ σ₁ hl => lookP_sound (s := ⟨f, v, true, σ, σ'⟩) hl⟩ h4, by rw [List.append_assoc] at h5; exact h5⟩
   simp only at hl
   cases ha : actsB o.op || looksB o.op with
   | false => simp
   | true =>
    have hb : below σ.q f o = true := by
     cases ht : (opsV f o.op).all trivB with
     | true => exact below_opsV (triv_below ht)
     | false => exact below_opsV (hl (by unfold lowB; rw [ha, ht]; rfl))
    simp only [hb]; simp
  ·rename_i hg
   obtain ⟨l', t, τ, as2, lk, h3, h4, h5⟩ := wpOpsD_sound rest _ _ _ _ _ h
   exact ⟨⟨f, undef, false, σ, σ⟩ :: l', t, τ, as2, ⟨false, false, True, fun _ => True, σ, σ⟩ :: lk, by simp [seenA, hg, putA_eq, h3], .cons ⟨rfl, rfl, rfl, fun _ => rfl, fun h => by cases h⟩ h4, by rw [List.append_assoc] at h5; exact h5⟩
  ·exact h.elim

theorem belows_sound : ∀ {os : List Oper} {ks : List Lk} {ss : List Seen} {K : Prop}, LkAll P os ks ss → belows ks K → belowAll os ss = true ∧ K
 | [], _, _, _, .nil, hb => ⟨rfl, hb⟩
 | _ :: _, k :: _, _ :: _, K, .cons h t, hb => by
  simp only [belows] at hb
  simp only [belowAll, Bool.and_eq_true]
  cases hn : k.need with
  | true =>
   rw [hn] at hb
   obtain ⟨h1, h2⟩ := belows_sound t hb.2
   exact ⟨⟨h.low (fun _ => hb.1), h1⟩, h2⟩
  | false =>
   rw [hn] at hb
   obtain ⟨h1, h2⟩ := belows_sound t hb
   exact ⟨⟨h.low (fun e => by rw [hn] at e; cases e), h1⟩, h2⟩
theorem steadies_sound {ops : Array Oper} {ks : List Lk} {l : List Seen} {K : Prop} (h : LkAll P ops.toList ks l) : ∀ (ps : List (Nat × Nat)), steadies ks ps K → ps.all (pairOk P ops l) = true ∧ K
 | [], hk => ⟨rfl, hk⟩
 | p :: ps, hs => by
  simp only [steadies] at hs
  rw [List.all_cons, Bool.and_eq_true]
  unfold pairOk
  split at hs
  ·rename_i sj sk e1 e2
   obtain ⟨oj, s1, a1, a2, a3⟩ := h.get _ _ e1
   obtain ⟨_, s2, _, b2, b3⟩ := h.get _ _ e2
   have a1 : ops[p.1]? = some oj := by simpa using a1
   rw [a1, a2, b2]
   simp only
   cases hw : s1.want with
   | true =>
    rw [a3.want, hw] at hs
    simp only at hs
    rw [b3.before, b3.after] at hs
    obtain ⟨g1, g2⟩ := steadies_sound h ps hs.2.2
    rw [a3.look hw _ hs.1, a3.look hw _ hs.2.1]
    exact ⟨⟨rfl, g1⟩, g2⟩
   | false =>
    rw [a3.want, hw] at hs
    obtain ⟨g1, g2⟩ := steadies_sound h ps hs
    exact ⟨⟨by simp [steady, hw], g1⟩, g2⟩
  ·exact hs.elim

theorem wpReg_code (N : Nat) (rd : Option Nat) {id : Nat} {ops : Array Oper} {draw : Bool} {as : List Ans} {fr : Fr} {σ : St} {K : Exit → Fr → St → List Ans → Prop} (h : wpReg P (callP rec) ops draw as fr σ K) :
  ∃ e fr' σ' as', codeA P rec N rd (.region id ops draw) fr σ = some (e, fr', σ') ∧ K e fr' σ' as' := by
 cases draw with
 | false =>
  simp only [wpReg] at h
  obtain ⟨l', t, τ, as', h1, h2⟩ := wpOps_sound _ _ _ _ _ _ h
  exact ⟨.normal, ⟨t, fr.marks⟩, τ, as', by simp only [codeA, regionA, seenA_opsA _ _ _ _ _ _ h1], h2⟩
 | true =>
  simp only [wpReg] at h
  split at h
  ·rename_i h0 hp hf
   obtain ⟨l', t, τ, as', h1, h2⟩ := wpOps_sound _ _ _ _ _ _ h
   refine ⟨.normal, ⟨t, fr.marks⟩, τ, as', ?_, h2⟩
   simp only [codeA, regionA, drawA, h0, hp, hf, cond_true, seenA_opsA _ _ _ _ _ _ h1]
  ·rename_i ps _ h0 hno
   obtain ⟨l', t, τ, as', lk, h1, hlk, h2⟩ := wpOpsD_sound _ _ _ _ _ _ h
   rw [List.nil_append] at h2
   obtain ⟨h3, h2⟩ := belows_sound hlk h2
   obtain ⟨h4, h2⟩ := steadies_sound hlk _ h2
   refine ⟨.normal, ⟨t, fr.marks⟩, τ, as', ?_, h2⟩
   have hd : drawA P rec ops fr.f σ = some (t, τ) := by
    unfold drawA
    rw [h0, cond_true]
    split
    ·exact seenA_opsA _ _ _ _ _ _ h1
    ·rw [h1]
     simp only
     rw [h3, h4]; rfl
   simp only [codeA, regionA, hd]
  ·exact h.elim
def wpMarks : List Nat → St → (St → Prop) → Prop
 | [], σ, K => K σ
 | d :: ds, σ, K => getB σ.heap d = some .defd ∧ wpMarks ds (σ.shut d) K
def wpRes (P : Program) (f : Tm) (σ : St) : List ResultVar → List Ans → List Value → (List Value → Prop) → Prop
 | [], _, vs, K => K vs
 | .tmp t :: rs, as, vs, K => wpRes P f σ rs as (vs ++ [f.nth t]) K
 | .cell a t :: rs, as, vs, K => match as, f.nth a with
  | .l v :: as, .pointer (some a) => loadA P σ t a = some v ∧ wpRes P f σ rs as (vs ++ [v]) K
  | _, _ => False
def oneOf : List Value → Value
 | [v] => v
 | vs => .tuple ⟨vs⟩
def wpDone (P : Program) (fn : Func) (fr : Fr) (σ : St) (as : List Ans) (K : Value → St → Prop) : Prop :=
 wpMarks fr.marks σ fun σ => wpRes P fr.f σ fn.results.toList as [] fun vs => K (oneOf vs) σ
def wpFn (P : Program) (n : Nat) (f : FuncId) (args : List Value) (as : List Ans) (σ : St) (K : Value → St → Prop) : Prop :=
 match P.funcs[f]? with
 | some fn => match fn.body with
  | some c => wpC P (runA P n) n none c as ⟨(Tm.args 0 args).foldl (fun f p => f.set p.1 p.2) (fresh (args.length + (fn.ntmps - args.length))), []⟩ σ fun e fr σ as => match e with
   | .normal => wpDone P fn fr σ as K
   | .ret => wpDone P fn fr σ as K
   | _ => False
  | none => False
 | none => False

theorem wpMarks_sound : ∀ (ms : List Nat) (σ : St) (K : St → Prop), wpMarks ms σ K → ∃ σ', dropMarks ms σ = some σ' ∧ K σ'
 | [], σ, K, h => ⟨σ, rfl, h⟩
 | d :: ds, σ, K, h => by
  obtain ⟨σ', h1, h2⟩ := wpMarks_sound ds _ K h.2
  exact ⟨σ', by simp only [dropMarks, h.1, St.drop_eq, h1], h2⟩
theorem wpRes_sound {f : Tm} {σ : St} : ∀ (rs : List ResultVar) (as : List Ans) (vs : List Value) (K : List Value → Prop), wpRes P f σ rs as vs K → ∃ ws, resultsOf P f σ rs = some ws ∧ K (vs ++ ws)
 | [], as, vs, K, h => ⟨[], rfl, by rw [List.append_nil]; exact h⟩
 | .tmp t :: rs, as, vs, K, h => by
  obtain ⟨ws, h1, h2⟩ := wpRes_sound rs as _ K h
  exact ⟨f.nth t :: ws, by simp only [resultsOf, resultA, h1], by rw [List.append_assoc] at h2; exact h2⟩
 | .cell a t :: rs, as, vs, K, h => by
  unfold wpRes at h
  split at h
  ·rename_i v as' a0 ha
   obtain ⟨ws, h1, h2⟩ := wpRes_sound rs _ _ K h.2
   exact ⟨v :: ws, by simp only [resultsOf, resultA, ha, h.1, h1], by rw [List.append_assoc] at h2; exact h2⟩
  ·exact h.elim
theorem wpDone_sound {fn : Func} {fr : Fr} {σ : St} {as : List Ans} {K : Value → St → Prop} (h : wpDone P fn fr σ as K) : ∃ v σ', doneA P fn fr σ = some (v, σ') ∧ K v σ' := by
 obtain ⟨σ', h1, h2⟩ := wpMarks_sound _ _ _ h
 obtain ⟨ws, h3, h4⟩ := wpRes_sound _ _ _ _ h2
 rw [List.nil_append] at h4
 refine ⟨oneOf ws, σ', ?_, h4⟩
 have : resultsA P fn fr.f σ' = some (oneOf ws) := by
  unfold resultsA
  rw [h3]
  match ws with
  | [] => rfl
  | [v] => rfl
  | _ :: _ :: _ => rfl
 simp only [doneA, h1, this, fV_eq]
end
end Go.Lay

namespace Go.Lay
open Go

theorem leI_or (a b : Int) : (leI a b = true ∧ a ≤ b) ∨ (leI a b = false ∧ b < a) := by
 by_cases h : a ≤ b
 ·exact .inl ⟨(leI_iff a b).2 h, h⟩
 ·exact .inr ⟨by rw [leI_eq]; simp; omega, by omega⟩
theorem ltI_or (a b : Int) : (ltI a b = true ∧ a < b) ∨ (ltI a b = false ∧ b ≤ a) := by
 by_cases h : a < b
 ·exact .inl ⟨(ltI_iff a b).2 h, h⟩
 ·exact .inr ⟨by rw [ltI_eq]; simp; omega, by omega⟩
theorem eqI_iff (a b : Int) : eqI a b = true ↔ a = b := by rw [eqI_eq]; simp
theorem wrap64 {n : Int} (h1 : -9223372036854775808 ≤ n) (h2 : n ≤ 9223372036854775807) : wrapK .i64 n = n := by
 have e1 : (2 : Int) ^ 64 = 18446744073709551616 := by decide
 have e2 : (2 : Int) ^ (64 - 1) = 9223372036854775808 := by decide
 rw [wrapK_eq]
 simp only [IntKind.wrap, IntKind.bits, IntKind.signed, e1, e2, Bool.true_and, decide_eq_true_eq]
 split <;> omega

structure Row (σ : St) (a : Addr) (cs : List Value) : Prop where
 rd : readRow σ a cs.length = some cs
 lt : a.block < σ.q
structure Le (σ σ' : St) : Prop where
 q : σ.q ≤ σ'.q
 get : ∀ b, b < σ.q → getB σ'.heap b = getB σ.heap b
def St.re (σ : St) : St := ⟨σ.heap, σ.q, σ.q⟩

section
variable {P : Program} {σ σ' : St} {a : Addr} {cs : List Value}
theorem Le.refl (σ : St) : Le σ σ := ⟨Nat.le_refl _, fun _ _ => rfl⟩
theorem Le.trans {σ₁ σ₂ σ₃ : St} (h : Le σ₁ σ₂) (k : Le σ₂ σ₃) : Le σ₁ σ₃ := ⟨Nat.le_trans h.q k.q, fun b hb => (k.get b (Nat.lt_of_lt_of_le hb h.q)).trans (h.get b hb)⟩
theorem Le.add (σ : St) (y : Blk) : Le σ (σ.add y) := ⟨by simp, fun b hb => by rw [St.add_get, if_neg (Nat.ne_of_lt hb)]⟩
theorem Le.row (σ : St) (cs : List Value) (n : Nat) : Le σ (σ.row cs n) := Le.add _ _
theorem readRow_le (h : Le σ σ') (hb : a.block < σ.q) (n : Nat) : readRow σ' a n = readRow σ a n := by
 unfold readRow; rw [h.get _ hb]
theorem Row.le (h : Row σ a cs) (l : Le σ σ') : Row σ' a cs := ⟨by rw [readRow_le l h.lt]; exact h.rd, Nat.lt_of_lt_of_le h.lt l.q⟩
theorem Row.row (h : Row σ a cs) {ds : List Value} {n : Nat} : Row (σ.row ds n) a cs := h.le (Le.row _ _ _)
theorem Row.re (h : Row σ a cs) : Row σ.re a cs := ⟨h.rd, h.lt⟩
theorem Le.re' (h : Le σ σ') : Le σ σ'.re := ⟨h.q, h.get⟩
theorem row_new (σ : St) (cs : List Value) (n : Nat) : Row (σ.row cs n) ⟨σ.q, 0, none⟩ cs := by
 refine ⟨?_, by simp [St.row]⟩
 have h1 : getB (σ.row cs n).heap σ.q = some (.cells cs n [(0, cs.length)] 1 false) := by
  show getB (σ.add _).heap σ.q = _
  rw [St.add_get, if_pos rfl]
 have h2 : Nat.ble (0 + cs.length) cs.length = true := (ble_iff _ _).2 (by omega)
 have h3 : Nat.beq 0 0 = true := rfl
 unfold readRow
 simp only [h1, stampOf, Option.getD_none, extOf, h3, cond_true, h2, List.drop_zero, List.take_length]
theorem Row.part (h : Row σ a cs) {k m : Nat} (hk : k + m ≤ cs.length) : Row σ (aadd a k) ((cs.drop k).take m) := by
 have hl : ((cs.drop k).take m).length = m := by simp; omega
 refine ⟨?_, h.lt⟩
 have hr := h.rd
 rw [hl]
 unfold readRow at hr
 split at hr
 ·rename_i bc esz log nx ro hb
  split at hr
  ·rename_i e he
   obtain ⟨hle, hr⟩ := bif_some hr
   have hle := (ble_iff _ _).1 hle
   have key : readRow σ (aadd a k) m = bif Nat.ble (a.off + k + m) e then some ((bc.drop (a.off + k)).take m) else none := by
    unfold readRow
    rw [show getB σ.heap (aadd a k).block = some (.cells bc esz log nx ro) from hb]
    show (match extOf log (stampOf a) with | some e => bif Nat.ble (a.off + k + m) e then some ((bc.drop (a.off + k)).take m) else none | none => none) = _
    rw [he]
   rw [key, (ble_iff (a.off + k + m) e).2 (by omega), cond_true]
   have hr2 : (bc.drop a.off).take cs.length = cs := by simpa using hr
   congr 1
   rw [show (cs.drop k).take m = ((((bc.drop a.off).take cs.length)).drop k).take m from by rw [hr2]]
   rw [List.drop_take, List.drop_drop, List.take_take]
   congr 1
   omega
  ·cases hr
 ·cases hr
theorem Row.load1 (h : Row σ a cs) {t : TypeId} (ht : aggT P t = some false) {k : Nat} {v : Value} (hv : cs[k]? = some v) : loadA P σ t (aadd a k) = some v := by
 have hk : k < cs.length := (List.getElem?_eq_some_iff.1 hv).1
 have hp := (h.part (k := k) (m := 1) (by omega)).rd
 have e : (cs.drop k).take 1 = [v] := by
  rw [List.drop_eq_getElem_cons hk]
  have := (List.getElem?_eq_some_iff.1 hv).2
  simp [this]
 rw [e] at hp
 unfold loadA
 simp only [ht]
 have hp : readRow σ (aadd a k) 1 = some [v] := hp
 rw [hp]
theorem Row.loadN (h : Row σ a cs) {t : TypeId} {n : Nat} (ht : aggT P t = some true) (hs : sizeT P t = some n) {k : Nat} {ds : List Value} (hd : (cs.drop k).take n = ds) (hl : ds.length = n) (hk : k + n ≤ cs.length) : loadA P σ t (aadd a k) = some (.agg ⟨ds⟩) := by
 have hp := (h.part (k := k) (m := n) hk).rd
 rw [hd, hl] at hp
 unfold loadA
 simp only [ht, hs, hp, Option.map_some]
theorem Row.ld {b k : Nat} {s : Option Nat} (h : Row σ ⟨b, 0, s⟩ cs) {t : TypeId} (ht : aggT P t = some false) {v : Value} (hv : cs[k]? = some v) : loadA P σ t ⟨b, k, s⟩ = some v := by
 have := h.load1 (P := P) ht hv
 simpa [aadd] using this
theorem Row.ldN {b k n : Nat} {s : Option Nat} (h : Row σ ⟨b, 0, s⟩ cs) {t : TypeId} (ht : aggT P t = some true) (hs : sizeT P t = some n) {ds : List Value} (hd : (cs.drop k).take n = ds) (hl : ds.length = n) (hk : k + n ≤ cs.length) : loadA P σ t ⟨b, k, s⟩ = some (.agg ⟨ds⟩) := by
 have := h.loadN (P := P) ht hs hd hl hk
 simpa [aadd] using this

structure Own (σ : St) (b : Nat) (cs : List Value) (n : Nat) : Prop where
 get : getB σ.heap b = some (.cells cs n [(0, cs.length)] 1 false)
 lt : b < σ.q
def St.own (σ : St) (b : Nat) (cs : List Value) (n : Nat) : St := σ.put b (.cells cs n [(0, cs.length)] 1 false)
theorem own_new (σ : St) (cs : List Value) (n : Nat) : Own (σ.row cs n) σ.q cs n := ⟨by
 show getB (σ.add _).heap σ.q = _
 rw [St.add_get, if_pos rfl], by simp [St.row]⟩
theorem Own.le {b n : Nat} (h : Own σ b cs n) (l : Le σ σ') : Own σ' b cs n := ⟨by rw [l.get _ h.lt]; exact h.get, Nat.lt_of_lt_of_le h.lt l.q⟩
theorem Own.row {b n : Nat} (h : Own σ b cs n) {ds : List Value} {m : Nat} : Own (σ.row ds m) b cs n := h.le (Le.row _ _ _)
theorem Own.own {b n c m : Nat} (h : Own σ b cs n) {ds : List Value} (hne : b ≠ c) : Own (σ.own c ds m) b cs n := ⟨by
 show getB (σ.put _ _).heap b = _
 rw [St.put_get, if_neg hne]; exact h.get, h.lt⟩
theorem Own.put {b n : Nat} (h : Own σ b cs n) {ds : List Value} : Own (σ.own b ds n) b ds n := ⟨by
 show getB (σ.put _ _).heap b = _
 rw [St.put_get, if_pos rfl], h.lt⟩
theorem Own.rw {b n : Nat} (h : Own σ b cs n) : Row σ ⟨b, 0, none⟩ cs := by
 refine ⟨?_, h.lt⟩
 have h2 : Nat.ble (0 + cs.length) cs.length = true := (ble_iff _ _).2 (by omega)
 have h3 : Nat.beq 0 0 = true := rfl
 unfold readRow
 simp only [h.get, stampOf, Option.getD_none, extOf, h3, cond_true, h2, List.drop_zero, List.take_length]
theorem Own.store {b n k : Nat} (h : Own σ b cs n) {t : TypeId} {v : Value} {vs ds : List Value} (hv : v.cells.toList = vs) (hs : sizeT P t = some vs.length) (hc : vs.all cellB = true) (hk : k + vs.length ≤ cs.length) (hd : cs.take k ++ (vs ++ cs.drop (k + vs.length)) = ds) :
  effOp P (evL [.pointer (some ⟨b, k, none⟩), v]) σ (.store t (.tmp 0) (.tmp 1)) = some (undef, σ.own b ds n) := by
 have h1 : Nat.beq v.cells.toList.length vs.length = true := by rw [hv]; exact Nat.beq_refl _
 have h2 : (Nat.beq 0 0 && Nat.ble (k + vs.length) cs.length && !false && vs.all cellB) = true := by
  rw [(ble_iff _ _).2 hk, hc]; rfl
 have hl : ds.length = cs.length := by rw [← hd]; simp; omega
 have hw : writeRow σ ⟨b, k, none⟩ vs = some (σ.own b ds n) := by
  unfold writeRow
  simp only [h.get, stampOf, Option.getD_none, h2, cond_true, fVs_eq, St.write_eq, hd]
  unfold St.own
  rw [hl]
 have : storeA P σ t ⟨b, k, none⟩ v = some (σ.own b ds n) := by
  unfold storeA
  rw [hv] at h1 ⊢
  simp only [hs, h1, cond_true, hw]
 show (storeA P σ t ⟨b, k, none⟩ v).map _ = _
 rw [this]; rfl
@[simp] theorem St.own_next (σ : St) (b : Nat) (cs : List Value) (n : Nat) : (σ.own b cs n).q = σ.q := rfl
@[simp] theorem St.own_low (σ : St) (b : Nat) (cs : List Value) (n : Nat) : (σ.own b cs n).low = min σ.low b := rfl
@[simp] theorem St.row_next (σ : St) (cs : List Value) (n : Nat) : (σ.row cs n).q = σ.q + 1 := rfl
@[simp] theorem St.row_low (σ : St) (cs : List Value) (n : Nat) : (σ.row cs n).low = σ.low := rfl

def SlP (σ : St) (n : Nat) (p : Option Addr) (len : Nat) (l : List Value) : Prop :=
 l.length = len * n ∧ match p with
  | none => len = 0
  | some a => Row σ a l
theorem SlP.le {n len : Nat} {p : Option Addr} {l : List Value} (h : SlP σ n p len l) (k : Le σ σ') : SlP σ' n p len l := by
 refine ⟨h.1, ?_⟩
 cases p with
 | none => exact h.2
 | some a => exact Row.le h.2 k
theorem SlP.row {n len : Nat} {p : Option Addr} {l : List Value} (h : SlP σ n p len l) {ds : List Value} {m : Nat} : SlP (σ.row ds m) n p len l := h.le (Le.row _ _ _)
theorem SlP.re {n len : Nat} {p : Option Addr} {l : List Value} (h : SlP σ n p len l) : SlP σ.re n p len l := h.le (Le.re' (Le.refl _))
theorem SlP.some {n len : Nat} {p : Option Addr} {l : List Value} (h : SlP σ n p len l) (hl : 0 < len) : ∃ a, p = .some a ∧ Row σ a l := by
 cases p with
 | none => have := h.2; omega
 | some a => exact ⟨a, rfl, h.2⟩
theorem SlP.nil (σ : St) (n : Nat) : SlP σ n none 0 [] := ⟨by simp, rfl⟩

def Runs (P : Program) (f : FuncId) (args : List Value) (σ : St) (v : Value) (σ' : St) : Prop := ∃ N0, ∀ N, N0 ≤ N → runA P N (.func f) args σ = some (v, σ')
def CallsA (P : Program) (f : FuncId) (args : List Value) (σ : St) (v : Value) (σ' : St) : Prop := ∃ N0, ∀ N, N0 ≤ N → callA (runA P N) (.func f) args σ = some (v, σ')
end
end Go.Lay

namespace Go.Lay
open Go

def Code.part : List Nat → Code → Code
 | 0 :: p, .seq a _ => Code.part p a
 | 1 :: p, .seq _ b => Code.part p b
 | 0 :: p, .cond _ a _ => Code.part p a
 | 1 :: p, .cond _ _ b => Code.part p b
 | 0 :: p, .block _ c => Code.part p c
 | 0 :: p, .scope c => Code.part p c
 | 0 :: p, .loop c => Code.part p c
 | 0 :: p, .rangeFunc _ _ a _ => Code.part p a
 | 1 :: p, .rangeFunc _ _ _ b => Code.part p b
 | _, c => c
def bodyOf (P : Program) (f : FuncId) : Code := match P.funcs[f]? with | some fn => (match fn.body with | some c => c | none => .skip) | none => .skip

def CodeE (P : Program) (rd : Option Nat) (c : Code) (fr : Fr) (σ : St) (e : Exit) (fr' : Fr) (σ' : St) : Prop :=
 ∃ N0, ∀ N, N0 ≤ N → codeA P (runA P N) N rd c fr σ = some (e, fr', σ')
def LoopE (P : Program) (rd : Option Nat) (c : Code) (fr : Fr) (σ : St) (e : Exit) (fr' : Fr) (σ' : St) : Prop :=
 ∃ N0, ∀ N m, N0 ≤ N → N0 ≤ m → loopA (codeA P (runA P N) N rd c) m fr σ = some (e, fr', σ')
section
variable {P : Program} {rd : Option Nat} {c : Code} {fr fr' fr₁ : Fr} {σ σ' σ₁ : St} {e : Exit}
theorem LoopE.step (h : CodeE P rd c fr σ .normal fr₁ σ₁) (k : LoopE P rd c fr₁ σ₁ e fr' σ') : LoopE P rd c fr σ e fr' σ' := by
 obtain ⟨N1, h1⟩ := h
 obtain ⟨N2, h2⟩ := k
 refine ⟨N1 + N2 + 1, fun N m hN hm => ?_⟩
 obtain ⟨m, rfl⟩ : ∃ m', m = m' + 1 := ⟨m - 1, by omega⟩
 simp only [loopA, h1 N (by omega)]
 exact h2 N m (by omega) (by omega)
theorem LoopE.exit (h : CodeE P rd c fr σ e fr' σ') (he : e ≠ .normal) : LoopE P rd c fr σ e fr' σ' := by
 obtain ⟨N1, h1⟩ := h
 refine ⟨N1 + 1, fun N m hN hm => ?_⟩
 obtain ⟨m, rfl⟩ : ∃ m', m = m' + 1 := ⟨m - 1, by omega⟩
 simp only [loopA, h1 N (by omega)]
 split
 ·rename_i heq; cases heq; exact absurd rfl he
 ·rfl
end

structure Keep (n0 : Nat) (σ σ' : St) : Prop where
 q : σ.q ≤ σ'.q
 get : ∀ b, b < n0 → getB σ'.heap b = getB σ.heap b
 low : min σ.low n0 ≤ σ'.low
section
variable {P : Program} {σ σ' : St} {a : Addr} {cs : List Value} {n0 : Nat}
theorem Keep.add (hn : n0 ≤ σ.q) (y : Blk) : Keep n0 σ (σ.add y) := ⟨by simp, fun b hb => by rw [St.add_get, if_neg (by omega)], by simp; omega⟩
theorem Keep.put {b : Nat} (hb : n0 ≤ b) (y : Blk) : Keep n0 σ (σ.put b y) := ⟨by simp, fun c hc => by rw [St.put_get, if_neg (by omega)], by simp; omega⟩
inductive App (σ : St) (n0 n : Nat) : Value → Nat → List Value → Prop
 | nil : App σ n0 n (.slice none 0 0) 0 []
 | more {b s nx len : Nat} {cs : List Value} {sp : Option Nat} {log : List (Nat × Nat)} (h : getB σ.heap b = some (.cells cs n ((s, cs.length) :: log) nx false)) (hs : sp.getD 0 = s) (hb : n0 ≤ b) (hlt : b < σ.q) (hl : cs.length = len * n) (hp : 0 < len) (hsn : s < nx) :
   App σ n0 n (.slice (some ⟨b, 0, sp⟩) len (len + INEX)) len cs

def isIntD : TypeDesc → Bool
 | .int _ => true
 | _ => false
structure AppT (P : Program) (st xt e n : Nat) : Prop where
 el : elemOfSlice P st = some (e, n)
 src : ∃ xd, P.underlying xt = some xd ∧ isIntD xd = false
 info : ∃ ei z, P.info? e = some ei ∧ ei.zero = some z ∧ ei.bytes ≤ 4096 ∧ rigidB RD z = true ∧ Nat.beq z.cells.toList.length n = true
 le : n ≤ 4096
 pos : 0 < n
def appTB (P : Program) (st xt e n : Nat) : Bool :=
 (match elemOfSlice P st with | some (e', n') => Nat.beq e e' && Nat.beq n n' | none => false) &&
 (match P.underlying xt with | some xd => !isIntD xd | none => false) &&
 (match P.info? e with | some ei => (match ei.zero with | some z => Nat.ble ei.bytes 4096 && rigidB RD z && Nat.beq z.cells.toList.length n | none => false) | none => false) &&
 Nat.ble n 4096 && Nat.blt 0 n
theorem appT_of {P : Program} {st xt e n : Nat} (h : appTB P st xt e n = true) : AppT P st xt e n := by
 unfold appTB at h
 simp only [Bool.and_eq_true] at h
 obtain ⟨⟨⟨⟨h1, h2⟩, h3⟩, h4⟩, h5⟩ := h
 refine ⟨?_, ?_, ?_, (ble_iff _ _).1 h4, (ble_iff _ _).1 h5⟩
 ·split at h1
  ·rename_i e' n' he
   simp only [Bool.and_eq_true] at h1
   rw [he, Nat.eq_of_beq_eq_true h1.1, Nat.eq_of_beq_eq_true h1.2]
  ·cases h1
 ·split at h2
  ·rename_i xd hx; exact ⟨xd, hx, by simpa using h2⟩
  ·cases h2
 ·split at h3
  ·rename_i ei hi
   split at h3
   ·rename_i z hz
    simp only [Bool.and_eq_true] at h3
    exact ⟨ei, z, hi, hz, (ble_iff _ _).1 h3.1.1, h3.1.2, h3.2⟩
   ·cases h3
  ·cases h3

theorem capLow_inex (x : Nat) : capLow (x + INEX) = x := by unfold capLow; rw [if_pos (by omega)]; omega
theorem capExact_inex (x : Nat) : capExact (x + INEX) = false := by rw [Bool.eq_false_iff]; intro e; have := (capExact_iff _).1 e; omega
theorem inex_pos : 0 < INEX := by unfold INEX; decide

theorem append_one {st xt e n m k len : Nat} {v : Value} {a2 : Addr} {xs : List Value} (T : AppT P st xt e n) (hA : App σ n0 n v len cs) (hr : Row σ a2 xs) (hm : xs.length = m * n) (hp : 0 < m) (hroom : len + m ≤ 1073741824) (hc : xs.all cellB = true) (hn0 : n0 ≤ σ.q) :
  ∃ v' σ', appendA P st xt v (.slice (some a2) m k) σ = some (v', σ') ∧ App σ' n0 n v' (len + m) (cs ++ xs) ∧ Keep n0 σ σ' := by
 obtain ⟨xd, hxd, hxi⟩ := T.src
 obtain ⟨ei, z, hei, hz, hby, hrz, hzl⟩ := T.info
 have hrd := hr.rd
 rw [hm] at hrd
 have hsrc : appSrc σ n z xd (.slice (some a2) m k) = some (m, xs) := by
  unfold appSrc
  cases xd with
  | int _ => cases hxi
  | _ => simp only [srcCells, hrd, Option.map_some]
 have hcond : (roomy (len + m) n ei.bytes && xs.all cellB && Nat.beq xs.length (m * n) && rigidB RD z && Nat.beq z.cells.toList.length n) = true := by
  unfold roomy
  rw [(ble_iff _ _).2 hroom, (ble_iff _ _).2 T.le, (ble_iff _ _).2 hby, hc, hm, Nat.beq_refl, hrz, hzl]; rfl
 have hble : ∀ x : Nat, Nat.ble (x + m) x = false := fun x => by rw [Bool.eq_false_iff]; intro e; have := (ble_iff _ _).1 e; omega
 cases hA with
 | nil =>
  refine ⟨.slice (some ⟨σ.q, 0, none⟩) (0 + m) (0 + m + INEX), σ.add (.cells xs n [(0, xs.length)] 1 false), ?_, ?_, Keep.add hn0 _⟩
  ·have hc0 : capLow 0 = 0 := by unfold capLow; have := inex_pos; rw [if_neg (by omega)]
   have hc1 : capExact 0 = true := (capExact_iff 0).2 inex_pos
   unfold appendA
   simp only [T.el, hxd, hei, hz, hsrc, hcond, cond_true, appRows, hc0, hble, cond_false, hc1, Nat.beq_refl, newRow_eq]
  ·have e1 : 0 + m = m := Nat.zero_add m
   rw [e1, List.nil_append]
   exact .more (b := σ.q) (s := 0) (nx := 1) (log := []) (by rw [St.add_get, if_pos rfl]) rfl hn0 (by simp) hm hp (by omega)
 | @more b s nx _ _ sp log h hs hb hlt hl hpp hsn =>
  have hex : extOf ((s, cs.length) :: log) (stampOf ⟨b, 0, sp⟩) = some cs.length := by
   have : Nat.beq s (stampOf ⟨b, 0, sp⟩) = true := by unfold stampOf; simp only [hs]; exact Nat.beq_refl _
   simp only [extOf, this, cond_true]
  have hlf : logFrom ((s, cs.length) :: log) (stampOf ⟨b, 0, sp⟩) = (s, cs.length) :: log := by
   have : Nat.beq s (stampOf ⟨b, 0, sp⟩) = true := by unfold stampOf; simp only [hs]; exact Nat.beq_refl _
   simp only [logFrom, this, cond_true]
  have hg : (Nat.beq len len && Nat.beq (0 + len * n) cs.length && Nat.beq n n && !false && Nat.blt 0 n) = true := by
   rw [Nat.beq_refl, Nat.zero_add, hl, Nat.beq_refl, Nat.beq_refl, (blt_iff 0 n).2 T.pos]; rfl
  refine ⟨.slice (some ⟨b, 0, some nx⟩) (len + m) (len + m + INEX), σ.put b (.cells (cs.take cs.length ++ xs) n ((nx, cs.length + m * n) :: (s, cs.length) :: log) (nx + 1) false), ?_, ?_, Keep.put hb _⟩
  ·unfold appendA
   simp only [T.el, hxd, hei, hz, hsrc, hcond, cond_true, appRows, capLow_inex, hble, cond_false, capExact_inex, appGrow, h, hex, hg, fVs_eq, fN_eq, St.write_eq, hlf]
  ·refine .more (b := b) (s := nx) (nx := nx + 1) (log := (s, cs.length) :: log) ?_ rfl hb hlt ?_ (by omega) (by omega)
   ·rw [St.put_get, if_pos rfl, List.take_length]
    simp [hm]
   ·simp [hl, hm, Nat.add_mul]
theorem App.sl {v : Value} {n len : Nat} (h : App σ n0 n v len cs) : ∃ p cap, v = .slice p len cap ∧ SlP σ n p len cs := by
 cases h with
 | nil => exact ⟨none, 0, rfl, SlP.nil _ _⟩
 | @more b s nx _ _ sp log h hs hb hlt hl hp hsn =>
  refine ⟨_, _, rfl, hl, ?_, hlt⟩
  have hex : extOf ((s, cs.length) :: log) (stampOf ⟨b, 0, sp⟩) = some cs.length := by
   have : Nat.beq s (stampOf ⟨b, 0, sp⟩) = true := by unfold stampOf; simp only [hs]; exact Nat.beq_refl _
   simp only [extOf, this, cond_true]
  have h2 : Nat.ble (0 + cs.length) cs.length = true := (ble_iff _ _).2 (by omega)
  unfold readRow
  simp only [h, hex, h2, cond_true, List.drop_zero, List.take_length]
theorem App.keep {v : Value} {n len : Nat} (h : App σ n0 n v len cs) (hk : Le σ σ') : App σ' n0 n v len cs := by
 cases h with
 | nil => exact .nil
 | more h hs hb hlt hl hp hsn => exact .more (by rw [hk.get _ hlt]; exact h) hs hb (Nat.lt_of_lt_of_le hlt hk.q) hl hp hsn
def flat (vs : List Value) : List Value := vs.flatMap fun v => v.cells.toList
def elOk (P : Program) (t : TypeId) (n : Nat) (v : Value) : Prop :=
 (aggT P t = some false ∧ n = 1 ∧ v.cells.toList = [v]) ∨ (aggT P t = some true ∧ sizeT P t = some n ∧ ∃ cs : List Value, v = .agg ⟨cs⟩ ∧ cs.length = n)
theorem elOk.len {t n : Nat} {v : Value} (h : elOk P t n v) : v.cells.toList.length = n := by
 rcases h with ⟨_, h1, h2⟩ | ⟨_, _, ds, rfl, h⟩
 ·rw [h2, h1]; rfl
 ·exact h
theorem flat_len {t n : Nat} : ∀ {vs : List Value}, (∀ v ∈ vs, elOk P t n v) → (flat vs).length = vs.length * n
 | [], _ => by simp [flat]
 | v :: vs, h => by
  have h1 := (h v (by simp)).len
  have h2 := flat_len (vs := vs) (fun x hx => h x (by simp [hx]))
  unfold flat at h2 ⊢
  rw [List.flatMap_cons, List.length_append, h1, h2, List.length_cons, Nat.add_mul]; omega
theorem flat_get {t n : Nat} : ∀ {vs : List Value} {i : Nat} {v : Value}, (∀ v ∈ vs, elOk P t n v) → vs[i]? = some v → ((flat vs).drop (i * n)).take n = v.cells.toList ∧ i * n + n ≤ (flat vs).length
 | [], i, v, _, h => by simp at h
 | x :: vs, 0, v, hv, h => by
  simp at h; subst h
  have h1 := (hv x (by simp)).len
  unfold flat
  rw [List.flatMap_cons, Nat.zero_mul, List.drop_zero, Nat.zero_add, List.length_append]
  exact ⟨by rw [← h1, List.take_left'  rfl], by omega⟩
 | x :: vs, i + 1, v, hv, h => by
  have h1 := (hv x (by simp)).len
  have ih := flat_get (vs := vs) (i := i) (v := v) (fun x hx => hv x (by simp [hx])) (by simpa using h)
  unfold flat at ih ⊢
  rw [List.flatMap_cons, Nat.add_mul, Nat.one_mul, List.length_append]
  refine ⟨?_, by omega⟩
  rw [show i * n + n = x.cells.toList.length + i * n by omega, List.drop_append]
  simp only [Nat.add_sub_cancel_left]
  rw [List.drop_of_length_le (by omega), List.nil_append]
  exact ih.1
theorem Row.el {vs : List Value} {t n i : Nat} {v : Value} (h : Row σ a (flat vs)) (he : ∀ v ∈ vs, elOk P t n v) (hv : vs[i]? = some v) : loadA P σ t (aadd a (i * n)) = some v := by
 obtain ⟨h1, h2⟩ := flat_get he hv
 rcases he v (List.mem_of_getElem? hv) with ⟨g1, g2, g3⟩ | ⟨g1, g2, ds, rfl, g3⟩
 ·subst g2
  refine h.load1 g1 ?_
  rw [g3] at h1
  have := congrArg (fun l => l[0]?) h1
  simp only [List.getElem?_cons_zero] at this
  rw [List.getElem?_take_of_lt (by omega), List.getElem?_drop] at this
  simpa using this
 ·exact h.loadN g1 g2 h1 g3 h2
def SlV (P : Program) (σ : St) (t n : Nat) (p : Option Addr) (len : Nat) (vs : List Value) : Prop := SlP σ n p len (flat vs) ∧ vs.length = len ∧ ∀ v ∈ vs, elOk P t n v
theorem SlV.le {t n len : Nat} {p : Option Addr} {vs : List Value} (h : SlV P σ t n p len vs) (k : Le σ σ') : SlV P σ' t n p len vs := ⟨h.1.le k, h.2⟩
theorem SlV.row {t n len : Nat} {p : Option Addr} {vs : List Value} (h : SlV P σ t n p len vs) {ds : List Value} {m : Nat} : SlV P (σ.row ds m) t n p len vs := ⟨h.1.row, h.2⟩
theorem SlV.re {t n len : Nat} {p : Option Addr} {vs : List Value} (h : SlV P σ t n p len vs) : SlV P σ.re t n p len vs := ⟨h.1.re, h.2⟩
theorem SlV.some {t n len i : Nat} {p : Option Addr} {vs : List Value} (h : SlV P σ t n p len vs) (hi : i < len) : ∃ a, p = .some a ∧ Row σ a (flat vs) := h.1.some (by omega)
theorem SlV.at {t n len i : Nat} {p : Option Addr} {vs : List Value} {a : Addr} {v : Value} (h : SlV P σ t n p len vs) (hp : p = Option.some a) (hv : vs[i]? = Option.some v) : loadA P σ t (aadd a (Int.toNat (i : Int) * n)) = Option.some v := by
 subst hp
 have hr : Row σ a (flat vs) := h.1.2
 rw [Int.toNat_natCast]
 exact hr.el h.2.2 hv
end
end Go.Lay

namespace Go.Lay
open Go

def roAdd (ι : Inj) (b c o z : Nat) : Inj := { ι with loc := fun b' s => if b' = b ∧ s = 0 then some ⟨c, 0, o, z⟩ else ι.loc b' s }
structure Ro (ι : Inj) (w : World) : Prop where
 own : ∀ c, ι.own c = none
 csz : ∀ (c : Nat) arr el fr, w.heap[c]? = some (.cells arr el fr) → ι.csz c = arr.size
def roInj (w : World) : Inj := { loc := fun _ _ => none, own := fun _ => none, csz := fun c => match w.heap[c]? with | some (.cells arr _ _) => arr.size | _ => 0 }
theorem ro_start (w : World) : Rep (roInj w) noSt w ∧ Ro (roInj w) w :=
 ⟨⟨fun b y h => by simp [noSt, getB, Tr.getP_leaf] at h, fun _ _ _ h => by simp [roInj] at h, fun _ _ h => by simp [roInj] at h, fun _ _ _ => rfl⟩, ⟨fun _ => rfl, fun c arr el fr h => by simp [roInj, h]⟩⟩

section
variable {P : Program} {w : World} {ι : Inj} {σ σ' : St}

theorem roAdd_sub (hr : Rep ι σ w) (c o z : Nat) : Sub ι (roAdd ι σ.q c o z) := by
 refine ⟨fun b s L h => ?_, fun _ _ _ _ => rfl⟩
 simp only [roAdd]
 rw [if_neg]; exact h
 rintro ⟨rfl, rfl⟩
 rw [hr.fresh _ _ (Nat.le_refl _)] at h; cases h

theorem add_ro (hr : Rep ι σ w) (ho : Ro ι w) {c o : Nat} {arr : Array Value} {el : TypeId} {fr : Nat × Nat} (hc : w.heap[c]? = some (.cells arr el fr)) {rs : List Value} (z : Nat) (hl : o + rs.length ≤ arr.size)
  (hv : ∀ (j : Nat) v, rs[j]? = some v → ∃ v', arr[o + j]? = some v' ∧ VR ι v v') :
  Rep (roAdd ι σ.q c o z) (σ.add (.cells rs z [(0, rs.length)] 1 true)) w ∧ Ro (roAdd ι σ.q c o z) w := by
 have hs := roAdd_sub hr c o z
 have hcw : c < w.heap.size := by
  have := (Array.getElem?_eq_some_iff.1 hc).1; exact this
 refine ⟨⟨fun b y hb => ?_, fun b s L h => ?_, fun c' b h => ?_, fun b s h => ?_⟩, ⟨ho.own, ho.csz⟩⟩
 ·rw [St.add_get] at hb
  by_cases hbn : b = σ.q
  ·rw [if_pos hbn] at hb; cases hb; subst hbn
   refine ⟨by simp, .cells (fun s e hm => ?_) (by simp) (fun s₁ e₁ s₂ e₂ L₁ L₂ h₁ h₂ l₁ l₂ _ => ?_) (fun s hs' => ?_)⟩
   ·simp at hm; obtain ⟨rfl, rfl⟩ := hm
    refine ⟨by omega, Nat.le_refl _, ⟨c, 0, o, z⟩, by simp [roAdd], ⟨arr, el, fr, hc, (ho.csz _ _ _ _ hc).symm, by simp, by simpa using hl, fun j _ h2 => ?_⟩, rfl, Nat.zero_le _, by simpa [roAdd] using ho.own c⟩
    obtain ⟨v', g1, g2⟩ := hv j rs[j] (by simp [h2])
    exact ⟨rs[j], v', by simp [h2], by simpa using g1, g2.sub hs⟩
   ·simp at h₁ h₂
    obtain ⟨rfl, _⟩ := h₁
    obtain ⟨rfl, _⟩ := h₂
    rw [l₁] at l₂; cases l₂; rfl
   ·simp only [roAdd]
    rw [if_neg (by omega)]; exact hr.fresh _ _ (Nat.le_refl _)
  ·rw [if_neg hbn] at hb
   have h := hr.blk b y hb
   refine ⟨by simp; omega, h.2.keepS hs (fun s L _ => rfl) (fun _ _ _ _ => rfl) (fun cs esz log next ro hyy s hs' => ?_)⟩
   have := h.2; subst hyy
   cases this with
   | cells _ _ _ fresh =>
    simp only [roAdd]
    rw [if_neg (fun e => hbn e.1)]; exact fresh s hs'
 ·simp only [roAdd] at h
  split at h
  ·cases h; exact hcw
  ·exact hr.lt _ _ _ h
 ·have : ι.own c' = some b := h
  rw [ho.own c'] at this; cases this
 ·simp only [roAdd]
  simp at h
  rw [if_neg (by omega)]; exact hr.fresh _ _ (by omega)

def contig (P : Program) : List Field → Nat → Nat → Bool
 | [], o, tot => Nat.beq o tot
 | f :: fs, o, tot => Nat.beq f.offset o && contig P fs (o + P.cellsOf f.type) tot
def plainT (P : Program) : Nat → TypeId → Bool
 | 0, _ => false
 | n + 1, t => match P.underlying t with
  | some .bool => true
  | some (.int _) => true
  | some .string => true
  | some (.slice e) => Nat.blt 0 (P.cellsOf e) && plainT P n e
  | some (.struct fs) => contig P fs.toList 0 (P.cellsOf t) && fs.toList.all fun f => plainT P n f.type
  | _ => false
def WT (P : Program) (σ : St) : Nat → TypeId → List Value → Prop
 | 0, _, _ => False
 | n + 1, t, cs => match P.underlying t with
  | some .bool => ∃ b, cs = [.bool b]
  | some (.int k) => ∃ i, cs = [.int k i] ∧ k.min ≤ i ∧ i ≤ k.max
  | some .string => ∃ s : ByteArray, cs = [.string s] ∧ s.size ≤ maxLen
  | some (.slice e) => cs = [.slice none 0 0] ∨ ∃ b len cap rs, cs = [.slice (some ⟨b, 0, none⟩) len cap] ∧ len ≤ maxLen ∧ (len ≤ capLow cap ∧ capExact cap = true) ∧ rs.length = len * P.cellsOf e ∧
    getB σ.heap b = some (.cells rs (P.cellsOf e) [(0, rs.length)] 1 true) ∧ b < σ.q ∧ ∀ i, i < len → WT P σ n e ((rs.drop (i * P.cellsOf e)).take (P.cellsOf e))
  | some (.struct fs) => cs.length = P.cellsOf t ∧ ∀ f ∈ fs.toList, f.offset + P.cellsOf f.type ≤ cs.length ∧ WT P σ n f.type ((cs.drop f.offset).take (P.cellsOf f.type))
  | _ => False

theorem WT.le : ∀ {n : Nat} {t : TypeId} {cs : List Value}, WT P σ n t cs → Le σ σ' → WT P σ' n t cs := by
 intro n
 induction n with
 | zero => intro t cs h; exact h.elim
 | succ n ih =>
  intro t cs h k
  unfold WT at h ⊢
  split at h <;> rename_i hu
  ·exact h
  ·exact h
  ·exact h
  ·rcases h with h | ⟨b, len, cap, rs, h1, h2, h3, h4, h5, h6, h7⟩
   ·exact .inl h
   ·exact .inr ⟨b, len, cap, rs, h1, h2, h3, h4, by rw [k.get _ h6]; exact h5, Nat.lt_of_lt_of_le h6 k.q, fun i hi => ih (h7 i hi) k⟩
  ·exact ⟨h.1, fun f hf => ⟨(h.2 f hf).1, ih (h.2 f hf).2 k⟩⟩
  ·exact h.elim

theorem cell_add {a : Addr} {arr : Array Value} {el : TypeId} {fr : Nat × Nat} (hc : w.heap[a.block]? = some (.cells arr el fr)) (hs : a.spot = none) (m i : Nat) : w.cell? ((a.add m).add i) = arr[a.off + m + i]? := by
 have key : ∀ (x : Addr) (j : Nat), x.spot = none → (x.add j).block = x.block ∧ (x.add j).off = x.off + j ∧ (x.add j).spot = none := by
  intro x j hx
  unfold Addr.add
  split
  ·rename_i e; subst e; exact ⟨rfl, rfl, hx⟩
  ·exact ⟨rfl, rfl, rfl⟩
 obtain ⟨k1, k2, k3⟩ := key a m hs
 obtain ⟨k4, k5, k6⟩ := key (a.add m) i k3
 simp only [World.cell?, k4, k1, hc, k6, k5, k2, Option.isSome_none]
 rfl

variable {H : Type} {enc : TypeId × Value → H} {held : Bool}

def HasRow (w : World) (cs' : List Value) : Prop := ∀ A len cap, Value.slice (some A) len cap ∈ cs' → ∃ (c : Nat) (arr : Array Value) (el : TypeId) (fr : Nat × Nat), w.heap[c]? = some (.cells arr el fr)
def Opens (P : Program) (w : World) (ι : Inj) (σ : St) (cs' : List Value) (Q : St → List Value → Prop) : Prop :=
 ∃ ι' σ' cs, Rep ι' σ' w ∧ Ro ι' w ∧ Sub ι ι' ∧ Le σ σ' ∧ VRs ι' cs cs' ∧ Q σ' cs

theorem contig_le : ∀ {fs : List Field} {o tot : Nat}, contig P fs o tot = true → o ≤ tot
 | [], o, tot, h => by have := Nat.eq_of_beq_eq_true h; omega
 | f :: fs, o, tot, h => by
  simp only [contig, Bool.and_eq_true] at h
  have := contig_le h.2; omega

theorem open_fields {n fuel : Nat}
  (ih : ∀ t, plainT P n t = true → ∀ fuel cs' x ι σ, DataW.trod enc P w 0 (fun _ => true) held fuel t cs' = some x → Rep ι σ w → Ro ι w → HasRow w cs' → Opens P w ι σ cs' fun σ' cs => WT P σ' n t cs) {cs' : List Value} (hrow : HasRow w cs') :
  ∀ (fs : List Field) (o : Nat) (ι : Inj) (σ : St), contig P fs o cs'.length = true → (∀ f ∈ fs, plainT P n f.type = true) → (∀ f ∈ fs, ∃ x, DataW.trod enc P w 0 (fun _ => true) held fuel f.type ((cs'.drop f.offset).take (P.cellsOf f.type)) = some x) →
   Rep ι σ w → Ro ι w → Opens P w ι σ (cs'.drop o) fun σ' cs => ∀ f ∈ fs, o ≤ f.offset ∧ f.offset + P.cellsOf f.type ≤ cs'.length ∧ WT P σ' n f.type ((cs.drop (f.offset - o)).take (P.cellsOf f.type)) := by
 intro fs
 induction fs with
 | nil =>
  intro o ι σ hc _ _ hr ho
  have := Nat.eq_of_beq_eq_true hc
  refine ⟨ι, σ, [], hr, ho, Sub.refl _, Le.refl _, ?_, fun f hf => by cases hf⟩
  rw [List.drop_of_length_le (by omega)]; exact .nil
 | cons f fs ihf =>
  intro o ι σ hc hp ht hr ho
  simp only [contig, Bool.and_eq_true] at hc
  have hoff := Nat.eq_of_beq_eq_true hc.1
  have hle := contig_le hc.2
  obtain ⟨x, hx⟩ := ht f (by simp)
  obtain ⟨ι₁, σ₁, c1, r1, o1, s1, l1, v1, w1⟩ := ih f.type (hp f (by simp)) _ _ _ ι σ hx hr ho (fun A len cap hm => hrow A len cap (List.mem_of_mem_drop (List.mem_of_mem_take hm)))
  obtain ⟨ι₂, σ₂, c2, r2, o2, s2, l2, v2, w2⟩ := ihf (o + P.cellsOf f.type) ι₁ σ₁ hc.2 (fun g hg => hp g (by simp [hg])) (fun g hg => ht g (by simp [hg])) r1 o1
  have hlen : c1.length = P.cellsOf f.type := by rw [v1.length]; simp; omega
  refine ⟨ι₂, σ₂, c1 ++ c2, r2, o2, s1.trans s2, l1.trans l2, ?_, fun g hg => ?_⟩
  ·have e : cs'.drop o = (cs'.drop f.offset).take (P.cellsOf f.type) ++ cs'.drop (o + P.cellsOf f.type) := by
    rw [hoff, ← List.drop_drop, List.take_append_drop]
   rw [e]
   exact VRs.append (v1.sub s2) v2
  ·rcases List.mem_cons.1 hg with rfl | hg
   ·refine ⟨by omega, by omega, ?_⟩
    rw [hoff, Nat.sub_self, List.drop_zero, ← hlen, List.take_left']
    ·exact w1.le l2
    ·rfl
   ·obtain ⟨g1, g2, g3⟩ := w2 g hg
    refine ⟨by omega, g2, ?_⟩
    have e : (c1 ++ c2).drop (g.offset - o) = c2.drop (g.offset - (o + P.cellsOf f.type)) := by
     rw [List.drop_append, List.drop_of_length_le (by omega), List.nil_append]
     congr 1; omega
    rw [e]; exact g3

theorem open_elems {n fuel : Nat} {e : TypeId} {a : Addr} {arr : Array Value} {el : TypeId} {fr : Nat × Nat} (hc : w.heap[a.block]? = some (.cells arr el fr)) (hs : a.spot = none)
  (ih : ∀ fuel cs' x ι σ, DataW.trod enc P w 0 (fun _ => true) held fuel e cs' = some x → Rep ι σ w → Ro ι w → HasRow w cs' → Opens P w ι σ cs' fun σ' cs => WT P σ' n e cs) (hr : Rep ι σ w) (ho : Ro ι w) :
  ∀ (k : Nat), (∀ i, i < k → ∃ x, (w.cells? 0 (a.add (i * P.cellsOf e)) (P.cellsOf e)).bind (DataW.trod enc P w 0 (fun _ => true) held fuel e) = some x) →
   ∃ (ι' : Inj) (σ' : St) (rs : List Value), Rep ι' σ' w ∧ Ro ι' w ∧ Sub ι ι' ∧ Le σ σ' ∧ rs.length = k * P.cellsOf e ∧ (∀ i, i < k → WT P σ' n e ((rs.drop (i * P.cellsOf e)).take (P.cellsOf e))) ∧
    ∀ (j : Nat) v, rs[j]? = some v → ∃ v', arr[a.off + j]? = some v' ∧ VR ι' v v'
 | 0, _ => ⟨ι, σ, [], hr, ho, Sub.refl _, Le.refl _, by simp, fun i hi => by omega, fun j v h => by simp at h⟩
 | k + 1, ht => by
  obtain ⟨ι₁, σ₁, rs, r1, o1, s1, l1, n1, w1, v1⟩ := open_elems hc hs ih hr ho k (fun i hi => ht i (by omega))
  obtain ⟨x, hx⟩ := ht k (by omega)
  simp only [Option.bind_eq_some_iff] at hx
  obtain ⟨chunk, hch, hx⟩ := hx
  obtain ⟨_, hlen, hcells⟩ := World.cells?_some hch
  obtain ⟨ι₂, σ₂, c, r2, o2, s2, l2, v2, w2⟩ := ih _ _ _ ι₁ σ₁ hx r1 o1 (fun _ _ _ _ => ⟨_, _, _, _, hc⟩)
  have hcl : c.length = P.cellsOf e := by rw [v2.length]; exact hlen
  refine ⟨ι₂, σ₂, rs ++ c, r2, o2, s1.trans s2, l1.trans l2, by rw [List.length_append, n1, hcl, Nat.add_mul]; omega, fun i hi => ?_, fun j v hj => ?_⟩
  ·by_cases hik : i < k
   ·have h1 : i * P.cellsOf e + P.cellsOf e ≤ rs.length := by
     rw [n1, show i * P.cellsOf e + P.cellsOf e = (i + 1) * P.cellsOf e by rw [Nat.add_mul, Nat.one_mul]]
     exact Nat.mul_le_mul_right _ hik
    have e1 : ((rs ++ c).drop (i * P.cellsOf e)).take (P.cellsOf e) = (rs.drop (i * P.cellsOf e)).take (P.cellsOf e) := by
     rw [List.drop_append_of_le_length (by omega), List.take_append_of_le_length (by simp; omega)]
    rw [e1]; exact (w1 i hik).le l2
   ·have : i = k := by omega
    subst this
    rw [← n1, List.drop_left' rfl, List.take_of_length_le (by omega)]; exact w2
  ·by_cases hjr : j < rs.length
   ·rw [List.getElem?_append_left hjr] at hj
    obtain ⟨v', g1, g2⟩ := v1 j v hj
    exact ⟨v', g1, g2.sub s2⟩
   ·rw [List.getElem?_append_right (by omega)] at hj
    obtain ⟨v', g1, g2⟩ := v2.get_some hj
    have hjc : j - rs.length < P.cellsOf e := by rw [← hcl]; exact (List.getElem?_eq_some_iff.1 hj).1
    refine ⟨v', ?_, g2⟩
    have := hcells (j - rs.length) hjc
    rw [cell_add hc hs, g1] at this
    rw [← this, ← n1]; congr 1; omega

theorem open_cells : ∀ (n : Nat) (t : TypeId), plainT P n t = true → ∀ (fuel : Nat) (cs' : List Value) (x : DataW H × List MemPlace) (ι : Inj) (σ : St), DataW.trod enc P w 0 (fun _ => true) held fuel t cs' = some x → Rep ι σ w → Ro ι w → HasRow w cs' →
  Opens P w ι σ cs' fun σ' cs => WT P σ' n t cs := by
 intro n
 induction n with
 | zero => intro t h; simp [plainT] at h
 | succ n ih =>
  intro t hp fuel cs' x ι σ h hr ho hrow
  have one : ∀ (v : Value), rigidB RD v = true → cs' = [v] → WT P σ (n + 1) t [v] → Opens P w ι σ cs' fun σ' cs => WT P σ' (n + 1) t cs :=
   fun v hv e hw => ⟨ι, σ, [v], hr, ho, Sub.refl _, Le.refl _, by rw [e]; exact .cons (.refl_rigid _ hv) .nil, hw⟩
  unfold plainT at hp
  split at hp <;> rename_i hu
  ·obtain ⟨b, e, _⟩ := DataW.trod_bool hu h
   exact one _ rfl e (by unfold WT; rw [hu]; exact ⟨b, rfl⟩)
  ·obtain ⟨i, e, _, hw⟩ := DataW.trod_int hu h
   exact one _ rfl e (by unfold WT; rw [hu]; exact ⟨i, rfl, by simpa [Lit.wf] using hw⟩)
  ·obtain ⟨s, e, _, hw⟩ := DataW.trod_string hu h
   exact one _ rfl e (by unfold WT; rw [hu]; exact ⟨s, rfl, hw⟩)
  ·rename_i e
   simp only [Bool.and_eq_true] at hp
   have hpos : 0 < P.cellsOf e := (blt_iff _ _).1 hp.1
   rcases DataW.trod_slice hu h with ⟨hcs, _⟩ | ⟨a, len, cap, elems, rest, m, rfl, hcs, _, _, hle, hmax, hel, hget, hrest, _⟩
   ·exact one _ rfl hcs (by unfold WT; rw [hu]; exact .inl rfl)
   ·
    have hx : capExact cap = true := (capExact_iff cap).2 (by unfold INEX; unfold maxLen at hmax; omega)
    obtain ⟨capA, hcapR, hcl, hc0⟩ : ∃ capA, capR capA cap ∧ (len ≤ capLow capA ∧ capExact capA = true) ∧ (cap = 0 → capA = 0) :=
     ⟨cap, by unfold capR; rw [if_pos hx], ⟨by have := (capExact_iff cap).1 hx; unfold capLow; rw [if_neg (by omega)]; exact hle, hx⟩, fun e => e⟩
    have fin : ∀ {ι₁ : Inj} {σ₁ : St} {rs : List Value} {c o : Nat} {arr : Array Value} {el : TypeId} {fr : Nat × Nat}, Rep ι₁ σ₁ w → Ro ι₁ w → Sub ι ι₁ → Le σ σ₁ → w.heap[c]? = some (.cells arr el fr) → rs.length = len * P.cellsOf e →
      (∀ i, i < len → WT P σ₁ n e ((rs.drop (i * P.cellsOf e)).take (P.cellsOf e))) → (∀ (j : Nat) v, rs[j]? = some v → ∃ v', arr[o + j]? = some v' ∧ VR ι₁ v v') → o + cap * P.cellsOf e ≤ arr.size →
      (a = ⟨c, o, none⟩ ∨ (len = 0 ∧ capA = 0 ∧ cap = 0)) → Opens P w ι σ cs' fun σ' cs => WT P σ' (n + 1) t cs := by
     intro ι₁ σ₁ rs c o arr el fr hr1 ho1 hs1 hl1 hc hlen hw hv hsz hA
     have hlo : len * P.cellsOf e ≤ cap * P.cellsOf e := Nat.mul_le_mul_right _ hle
     obtain ⟨g1, g2⟩ := add_ro hr1 ho1 hc (P.cellsOf e) (by omega) hv
     have hsub := roAdd_sub hr1 c o (P.cellsOf e)
     refine ⟨_, _, [.slice (some ⟨σ₁.q, 0, none⟩) len capA], g1, g2, hs1.trans hsub, hl1.trans (Le.add _ _), ?_, ?_⟩
     ·rw [hcs]
      refine .cons (.slice (L := ⟨c, 0, o, P.cellsOf e⟩) (by simp [roAdd, stampOf]) (Nat.zero_le _) ?_ hcapR ?_) .nil
      ·rcases hA with rfl | hA
       ·exact .inl (by simp [Loc.at])
       ·exact .inr ⟨hA.1, by rw [hA.2.1]; unfold capLow; split <;> omega, hA.2.2⟩
      ·show o + (0 - 0) + cap * P.cellsOf e ≤ ι₁.csz c
       rw [ho1.csz _ _ _ _ hc]; omega
     ·unfold WT; rw [hu]
      refine .inr ⟨σ₁.q, len, capA, rs, rfl, by omega, hcl, hlen, by rw [St.add_get, if_pos rfl], by simp, fun i hi => (hw i hi).le (Le.add _ _)⟩
    by_cases hcap : cap = 0
    ·
     subst hcap
     have hl0 : len = 0 := by omega
     have hca : capA = 0 := hc0 rfl
     obtain ⟨c, arr, el, fr, hc⟩ := hrow a len 0 (by rw [hcs]; simp)
     exact fin (rs := []) (o := 0) hr ho (Sub.refl _) (Le.refl _) hc (by rw [hl0]; simp) (fun i hi => by omega) (fun j v hj => by simp at hj) (by omega) (.inr ⟨hl0, hca, rfl⟩)
    ·
     have hall : ∀ i, i < cap → ∃ x, (w.cells? 0 (a.add (i * P.cellsOf e)) (P.cellsOf e)).bind (DataW.trod enc P w 0 (fun _ => true) held m e) = some x := by
      intro i hi
      by_cases hil : i < len
      ·exact ⟨elems[i]'(by omega), by rw [hget i hil]; simp⟩
      ·obtain ⟨r1, r2⟩ := hrest rfl
       have := r2 (i - len) (by omega)
       rw [show len + (i - len) = i by omega] at this
       exact ⟨rest[i - len]'(by omega), by rw [this]; simp⟩
     obtain ⟨x0, hx0⟩ := hall 0 (by omega)
     simp only [Option.bind_eq_some_iff] at hx0
     obtain ⟨ch0, hc0, _⟩ := hx0
     obtain ⟨_, hl0, hcell0⟩ := World.cells?_some hc0
     have h00 := hcell0 0 hpos
     have ha0 : (a.add (0 * P.cellsOf e)).add 0 = a := by simp [Addr.add]
     rw [ha0] at h00
     have hsome : ∃ v, w.cell? a = some v := ⟨ch0[0]'(by omega), by rw [h00]; simp⟩
     obtain ⟨v0, hv0⟩ := hsome
     obtain ⟨arr, el, fr, hc, hsp⟩ : ∃ arr el fr, w.heap[a.block]? = some (.cells arr el fr) ∧ a.spot = none := by
      unfold World.cell? at hv0
      split at hv0
      ·rename_i arr el fr hc
       refine ⟨arr, el, fr, hc, ?_⟩
       cases hs : a.spot with
       | none => rfl
       | some s => rw [hs] at hv0; simp at hv0
      ·cases hv0
     obtain ⟨ι₁, σ₁, rs, r1, o1, s1, l1, n1, w1, v1⟩ := open_elems hc hsp (fun fuel cs' x ι σ => ih e hp.2 fuel cs' x ι σ) hr ho len (fun i hi => hall i (by omega))
     refine fin r1 o1 s1 l1 hc n1 w1 v1 ?_ (.inl ?_)
     ·obtain ⟨x1, hx1⟩ := hall (cap - 1) (by omega)
      simp only [Option.bind_eq_some_iff] at hx1
      obtain ⟨ch1, hc1, _⟩ := hx1
      obtain ⟨_, hl1, hcell1⟩ := World.cells?_some hc1
      have h1 := hcell1 (P.cellsOf e - 1) (by omega)
      rw [cell_add hc hsp] at h1
      have hb : a.off + (cap - 1) * P.cellsOf e + (P.cellsOf e - 1) < arr.size := by
       rcases Nat.lt_or_ge (a.off + (cap - 1) * P.cellsOf e + (P.cellsOf e - 1)) arr.size with hlt | hge
       ·exact hlt
       ·rw [Array.getElem?_eq_none hge] at h1
        have : ch1[P.cellsOf e - 1]? = some (ch1[P.cellsOf e - 1]'(by omega)) := by simp
        rw [this] at h1; cases h1
      have e1 : (cap - 1) * P.cellsOf e + P.cellsOf e = cap * P.cellsOf e := by
       rw [show cap * P.cellsOf e = (cap - 1 + 1) * P.cellsOf e by rw [Nat.sub_add_cancel (by omega)], Nat.add_mul, Nat.one_mul]
      omega
     ·cases a with | mk b o s => simp at hsp; subst hsp; rfl
  ·rename_i fs
   simp only [Bool.and_eq_true] at hp
   obtain ⟨xs, m, rfl, _, hl, hxl, hget⟩ := DataW.trod_struct hu h
   obtain ⟨ι₁, σ₁, c, r1, o1, s1, l1, v1, w1⟩ := open_fields (fuel := m) ih hrow fs.toList 0 ι σ (by rw [hl]; exact hp.1) (fun f hf => List.all_eq_true.1 hp.2 f hf) (fun f hf => by
    obtain ⟨i, hi⟩ := List.getElem?_of_mem hf
    have hi2 : fs[i]? = some f := by simpa using hi
    have hlt : i < xs.length := by rw [hxl]; exact (Array.getElem?_eq_some_iff.1 hi2).1
    exact ⟨xs[i], by rw [hget i f hi2]; simp [hlt]⟩) hr ho
   refine ⟨ι₁, σ₁, c, r1, o1, s1, l1, by simpa using v1, ?_⟩
   unfold WT; rw [hu]
   have hcl : c.length = cs'.length := by have := v1.length; simpa using this
   refine ⟨by rw [hcl, hl], fun f hf => ?_⟩
   obtain ⟨_, g2, g3⟩ := w1 f hf
   exact ⟨by omega, by simpa using g3⟩
  ·cases hp
end
end Go.Lay

namespace Go.Lay
open Go

def CodeR (P : Program) (R : Nat → Rec) (rd : Option Nat) (c : Code) (fr : Fr) (σ : St) (e : Exit) (fr' : Fr) (σ' : St) : Prop := ∃ N0, ∀ N, N0 ≤ N → codeA P (R N) N rd c fr σ = some (e, fr', σ')
def LoopR (P : Program) (R : Nat → Rec) (rd : Option Nat) (c : Code) (fr : Fr) (σ : St) (e : Exit) (fr' : Fr) (σ' : St) : Prop :=
 ∃ N0, ∀ N m, N0 ≤ N → N0 ≤ m → loopA (codeA P (R N) N rd c) m fr σ = some (e, fr', σ')
section
variable {P : Program} {R : Nat → Rec} {rd : Option Nat} {c : Code} {fr fr' fr₁ : Fr} {σ σ' σ₁ : St} {e : Exit}
theorem LoopR.step (h : CodeR P R rd c fr σ .normal fr₁ σ₁) (k : LoopR P R rd c fr₁ σ₁ e fr' σ') : LoopR P R rd c fr σ e fr' σ' := by
 obtain ⟨N1, h1⟩ := h
 obtain ⟨N2, h2⟩ := k
 refine ⟨N1 + N2 + 1, fun N m hN hm => ?_⟩
 obtain ⟨m, rfl⟩ : ∃ m', m = m' + 1 := ⟨m - 1, by omega⟩
 simp only [loopA, h1 N (by omega)]
 exact h2 N m (by omega) (by omega)
theorem LoopR.exit (h : CodeR P R rd c fr σ e fr' σ') (he : e ≠ .normal) : LoopR P R rd c fr σ e fr' σ' := by
 obtain ⟨N1, h1⟩ := h
 refine ⟨N1 + 1, fun N m hN hm => ?_⟩
 obtain ⟨m, rfl⟩ : ∃ m', m = m' + 1 := ⟨m - 1, by omega⟩
 simp only [loopA, h1 N (by omega)]
 split
 ·rename_i heq; cases heq; exact absurd rfl he
 ·rfl
end

section
variable {P : Program} {σ σ' : St}
theorem Own.ld {b n k : Nat} {cs : List Value} {s : Option Nat} (h : Own σ b cs n) (hs : s = none) {t : TypeId} (ht : aggT P t = some false) {v : Value} (hv : cs[k]? = some v) : loadA P σ t ⟨b, k, s⟩ = some v := by subst hs; exact h.rw.ld ht hv
theorem Own.ldN {b n k m : Nat} {cs ds : List Value} (h : Own σ b cs n) {t : TypeId} (ht : aggT P t = some true) (hs : sizeT P t = some m) (hd : (cs.drop k).take m = ds) (hl : ds.length = m) (hk : k + m ≤ cs.length) : loadA P σ t ⟨b, k, none⟩ = some (.agg ⟨ds⟩) :=
 h.rw.ldN ht hs hd hl hk

theorem Row.ld1 {a : Addr} {v : Value} (h : Row σ a [v]) {t : TypeId} (ht : aggT P t = some false) : loadA P σ t a = some v := by
 have := h.load1 (P := P) ht (k := 0) (v := v) rfl
 simpa [aadd] using this
theorem belowB_rig {n : Nat} {v : Value} (h : rigidB RD v = true) : belowB RD n v = true := by
 have key : ∀ (d : Nat) (v : Value), rigidB d v = true → belowB d n v = true := by
  intro d
  induction d with
  | zero => intro v h; simp [rigidB] at h
  | succ d ih =>
   intro v h
   have lists : ∀ (l : List Value), l.all (rigidB d) = true → l.all (belowB d n) = true := fun l hl => List.all_eq_true.2 (fun x hx => ih x (List.all_eq_true.1 hl x hx))
   cases v with
   | agg cs => simp only [rigidB] at h; simp only [belowB]; exact lists _ h
   | tuple cs => simp only [rigidB] at h; simp only [belowB]; exact lists _ h
   | iface t x => simp only [rigidB] at h; simp only [belowB]; exact ih x h
   | pointer a => cases a with | none => rfl | some _ => simp [rigidB, atomB] at h
   | slice a l c => cases a with | none => rfl | some _ => simp [rigidB, atomB] at h
   | map a => cases a with | none => rfl | some _ => simp [rigidB, atomB] at h
   | func fn f c =>
    cases fn with
    | func g => simp only [rigidB, Bool.and_eq_true] at h; simp only [belowB, Bool.and_eq_true]; exact ⟨⟨trivial, lists _ h.1⟩, lists _ h.2⟩
    | _ => simp [rigidB, atomB] at h
   | _ => rfl
 exact key RD v h
theorem belowB_ptr {n : Nat} {a : Addr} (h : a.block < n) : belowB RD n (.pointer (some a)) = true := (blt_iff _ _).2 h
theorem belowB_sl1 {n l c : Nat} {a : Addr} (h : a.block < n) : belowB RD n (.slice (some a) l c) = true := (blt_iff _ _).2 h
theorem belowB_sl {n l c : Nat} {p : Option Addr} (h : ∀ a, p = some a → a.block < n) : belowB RD n (.slice p l c) = true := by
 cases p with
 | none => rfl
 | some a => exact belowB_sl1 (h a rfl)
theorem belowL_nil {n : Nat} : belowL n [] := rfl
theorem belowL_cons {n : Nat} {v : Value} {vs : List Value} (h : belowB RD n v = true) (t : belowL n vs) : belowL n (v :: vs) := by
 unfold belowL at t ⊢
 rw [List.all_cons, h, t]; rfl
theorem slv_none {t n len : Nat} {vs : List Value} (h : SlV P σ t n none len vs) : SlV P σ' t n none len vs := ⟨⟨h.1.1, h.1.2⟩, h.2⟩
theorem slv_lt {t n len : Nat} {p : Option Addr} {vs : List Value} (h : SlV P σ t n p len vs) : ∀ a, p = some a → a.block < σ.q := by
 intro a e; subst e
 exact (show Row σ a (flat vs) from h.1.2).lt
theorem flat_append (xs ys : List Value) : flat (xs ++ ys) = flat xs ++ flat ys := by simp [flat]
theorem flat_ints (xs : List Int) (k : IntKind) : flat (xs.map fun x => .int k x) = xs.map fun x => .int k x := by
 induction xs with
 | nil => rfl
 | cons x xs ih =>
  rw [List.map_cons, show (Value.int k x :: xs.map fun x => Value.int k x) = [Value.int k x] ++ xs.map fun x => Value.int k x from rfl, flat_append, ih]
  rfl
theorem App.ge {n0 n len : Nat} {p : Option Addr} {c : Nat} {cs : List Value} (h : App σ n0 n (.slice p len c) len cs) : ∀ a, p = some a → n0 ≤ a.block := by
 intro a e
 subst e
 cases h with
 | more h hs hb hlt hl hp hsn => exact hb
theorem app_step {st xt e n m k len n0 : Nat} {a2 : Addr} {p : Option Addr} {c : Nat} {cs xs : List Value} (T : AppT P st xt e n) (hA : App σ n0 n (.slice p len c) len cs) (hr : Row σ a2 xs) (hm : xs.length = m * n) (hp : 0 < m) (hroom : len + m ≤ 1073741824)
  (hc : xs.all cellB = true) (hn0 : n0 ≤ σ.q) : ∃ p' c' σ', appendA P st xt (.slice p len c) (.slice (some a2) m k) σ = some (.slice p' (len + m) c', σ') ∧ App σ' n0 n (.slice p' (len + m) c') (len + m) (cs ++ xs) ∧ Keep n0 σ σ' := by
 obtain ⟨v', σ', h1, h2, h3⟩ := append_one (k := k) T hA hr hm hp hroom hc hn0
 obtain ⟨p', c', rfl, _⟩ := h2.sl
 exact ⟨p', c', σ', h1, h2, h3⟩
theorem App.slv {n0 n len t : Nat} {p : Option Addr} {c : Nat} {vs : List Value} (h : App σ n0 n (.slice p len c) len (flat vs)) (hl : vs.length = len) (he : ∀ v ∈ vs, elOk P t n v) : SlV P σ t n p len vs := by
 obtain ⟨p', c', e, hs⟩ := h.sl
 cases e
 exact ⟨hs, hl, he⟩
theorem App.lt {n0 n len : Nat} {p : Option Addr} {c : Nat} {cs : List Value} (h : App σ n0 n (.slice p len c) len cs) : ∀ a, p = some a → a.block < σ.q := by
 intro a e
 subst e
 cases h with
 | more h hs hb hlt hl hp hsn => exact hlt
theorem pure_c {f : FuncId} {args : List Value} {v : Value} (h : Runs P f args σ.re v σ') (hl : σ.q ≤ σ'.low) (hv : rigidB RD v = true) : CallsA P f args σ v σ := by
 obtain ⟨N0, hN⟩ := h
 refine ⟨N0, fun N hNN => ?_⟩
 have h1 := hN N hNN
 unfold callA
 rw [show (⟨σ.heap, σ.q, σ.q⟩ : St) = σ.re from rfl, h1]
 show backA σ v σ' = _
 unfold backA
 rw [(ble_iff _ _).2 hl, hv]; rfl
structure New (σ σ' : St) : Prop where
 le : Le σ σ'
 low : ∀ m, m ≤ σ.low → m ≤ σ.q → m ≤ σ'.low
theorem New.refl (σ : St) : New σ σ := ⟨Le.refl _, fun _ h _ => h⟩
theorem New.trans {σ₁ σ₂ σ₃ : St} (h : New σ₁ σ₂) (k : New σ₂ σ₃) : New σ₁ σ₃ := ⟨h.le.trans k.le, fun m h1 h2 => k.low m (h.low m h1 h2) (Nat.le_trans h2 h.le.q)⟩
theorem New.row (σ : St) (cs : List Value) (n : Nat) : New σ (σ.row cs n) := ⟨Le.row _ _ _, fun _ h _ => h⟩
theorem New.add (σ : St) (y : Blk) : New σ (σ.add y) := ⟨Le.add _ _, fun _ h _ => h⟩
theorem new_c {f : FuncId} {args : List Value} {v : Value} {Q : Value → St → Prop} (h : Runs P f args σ.re v σ') (hn : New σ.re σ') (hq : Q v σ') (hQ : ∀ s s', Q v s → Le s s' → Q v s') (hr : rigidB RD v = true → Q v σ) :
  ∃ v σ'', CallsA P f args σ v σ'' ∧ New σ σ'' ∧ Q v σ'' := by
 obtain ⟨N0, hN⟩ := h
 have h2 : σ.q ≤ σ'.low := hn.low _ (Nat.le_refl _) (Nat.le_refl _)
 have h3 : σ.q ≤ σ'.q := hn.le.q
 cases hrv : rigidB RD v with
 | true =>
  refine ⟨v, σ, ⟨N0, fun N hNN => ?_⟩, New.refl _, hr hrv⟩
  have h1 := hN N hNN
  unfold callA
  rw [show (⟨σ.heap, σ.q, σ.q⟩ : St) = σ.re from rfl, h1]
  show backA σ v σ' = _
  unfold backA
  rw [(ble_iff _ _).2 h2, hrv]; rfl
 | false =>
  refine ⟨v, ⟨σ'.heap, σ'.q, min σ.low σ'.low⟩, ⟨N0, fun N hNN => ?_⟩, ⟨⟨h3, fun b hb => hn.le.get b hb⟩, fun m h4 h5 => ?_⟩, hQ _ _ hq ⟨Nat.le_refl _, fun _ _ => rfl⟩⟩
  ·have h1 := hN N hNN
   unfold callA
   rw [show (⟨σ.heap, σ.q, σ.q⟩ : St) = σ.re from rfl, h1]
   show backA σ v σ' = _
   unfold backA
   rw [hrv, Bool.and_false, cond_false, (ble_iff _ _).2 h3, cond_true, fN_eq, cond_ble]
  ·show m ≤ min σ.low σ'.low
   omega
theorem leI_tt {a b : Int} (h : a ≤ b) : leI a b = true := (leI_iff a b).2 h
theorem leI_ff {a b : Int} (h : ¬ a ≤ b) : leI a b = false := by rw [leI_eq]; simp; omega
theorem ltI_tt {a b : Int} (h : a < b) : ltI a b = true := (ltI_iff a b).2 h
theorem ltI_ff {a b : Int} (h : ¬ a < b) : ltI a b = false := by rw [ltI_eq]; simp; omega
theorem eqI_tt {a b : Int} (h : a = b) : eqI a b = true := (eqI_iff a b).2 h
theorem eqI_ff {a b : Int} (h : ¬ a = b) : eqI a b = false := by rw [Bool.eq_false_iff]; exact fun e => h ((eqI_iff a b).1 e)
theorem neqI_tt {a b : Int} (h : ¬ a = b) : (!eqI a b) = true := by rw [eqI_ff h]; rfl
theorem neqI_ff {a b : Int} (h : a = b) : (!eqI a b) = false := by rw [eqI_tt h]; rfl
end
end Go.Lay

namespace Go.Lay
open Go
section
variable {P : Program} {rec : Rec} {ι : Inj} {σ σ' : St} {w : World}

def patchR (aw : FuncId) (rec : Rec) : Rec := fun r args σ => match r with
 | .func f => match args with
  | [] => bif Nat.beq f aw then some (.bool true, σ) else rec (.func f) [] σ
  | a :: l => rec (.func f) (a :: l) σ
 | .yield l => rec (.yield l) args σ
def topR (P : Program) (aw : FuncId) (N : Nat) : Rec := patchR aw (runA P N)
structure ShutF (P : Program) (aw : FuncId) : Prop where
 ok : ∀ (ι : Inj) (σ : St) (w : World), Rep ι σ w → (∃ fn, P.funcs[aw]? = some fn ∧ fn.body.isSome = true ∧ fn.name ≠ "runtime.NumGoroutine") ∧ ∀ n, CallsIn (Fw none) n P aw ⟨[]⟩ w (RetR ι σ w (.bool true) σ)
theorem patch_sound {aw : FuncId} (h : RecSound P rec) (hc : ShutF P aw) : RecSound P (patchR aw rec) := by
 refine ⟨fun f args σ v σ' hr ι w args' hrep ha => ?_, fun l args σ v σ' hr => h.yield l args σ v σ' hr⟩
 cases args with
 | cons a l => exact h.func f (a :: l) σ v σ' hr ι w args' hrep ha
 | nil =>
  have hr : (bif Nat.beq f aw then some (.bool true, σ) else rec (.func f) [] σ) = some (v, σ') := hr
  rcases bif_cases hr with ⟨hf, hr⟩ | ⟨_, hr⟩
  ·have hf := Nat.eq_of_beq_eq_true hf
   simp at hr; obtain ⟨rfl, rfl⟩ := hr
   subst hf
   cases ha
   exact hc.ok ι σ w hrep
  ·exact h.func f [] σ v σ' hr ι w args' hrep ha
theorem topR_sound (hP : ProgOk P) {aw : FuncId} (hc : ShutF P aw) (N : Nat) : RecSound P (topR P aw N) := patch_sound (runA_sound hP N) hc
theorem closed_of (hP : ProgOk P) {l : List Ent} (hl : TblSnd P l) {N : Nat} {f : FuncId} (h : okB (bodyX P (memoR l (runA P N)) (runP P N) N f [] noSt) = true) : ShutF P f := by
 refine ⟨fun ι σ w hr => ?_⟩
 obtain ⟨σ', hb⟩ := okB_some h
 obtain ⟨h1, h2⟩ := bodyX_sound hP (memo_sound hP hl N) (runP_sound hP N) hb (rep_no w) .nil
 refine ⟨h1, fun n => CallsIn.mono (h2 n) (fun e w' hR => ?_)⟩
 cases e with
 | returned v' =>
  obtain ⟨ι', hv, hg⟩ := hR
  have hs : ∀ c, c < w.heap.size → w'.heap[c]? = w.heap[c]? := fun c hc => hg.pres.same c hc (fun b hb => by simp [noInj] at hb)
  have hv := hv.bool_inv; subst hv
  exact ⟨ι, .bool true, Ext.refl _ _ _, hr.grown hg.pres.size hs, ⟨hg.pres.size, fun c hc _ => hs c hc, hg.pres.tape, hg.pres.os, hg.pres.output, hg.pres.fr⟩, Nat.le_refl _, Nat.le_refl _⟩
 | panicked _ => exact hR.elim
 | outgrown => exact hR.elim
theorem top_awake {aw : FuncId} {N : Nat} : callA (topR P aw N) (.func aw) [] σ = some (.bool true, σ) := by
 unfold callA
 have e : topR P aw N (.func aw) [] ⟨σ.heap, σ.q, σ.q⟩ = some (.bool true, ⟨σ.heap, σ.q, σ.q⟩) := by
  show (bif Nat.beq aw aw then _ else _) = _
  rw [Nat.beq_refl]; rfl
 rw [e]
 show backA σ _ _ = _
 unfold backA
 rw [(ble_iff _ _).2 (Nat.le_refl _)]; rfl

variable {H : Type} {enc : TypeId × Value → H} {held : Bool}
def WTs (P : Program) (σ : St) (n : Nat) : List TypeId → List Value → Prop
 | [], [] => True
 | t :: ts, v :: vs => WT P σ n t v.cells.toList ∧ WTs P σ n ts vs
 | _, _ => False
theorem open_value {n : Nat} {t : TypeId} {v : Value} {d : DataW H} {ps : List MemPlace} (hp : plainT P n t = true) (h : DataW.Trod enc P w 0 (fun _ => true) held t v d ps) (hr : Rep ι σ w) (ho : Ro ι w) (hrow : HasRow w v.cells.toList) :
  ∃ ι' σ' av, Rep ι' σ' w ∧ Ro ι' w ∧ Sub ι ι' ∧ Le σ σ' ∧ VR ι' av v ∧ WT P σ' n t av.cells.toList := by
 obtain ⟨fuel, h⟩ := h
 obtain ⟨ι', σ', cs, r1, o1, s1, l1, v1, w1⟩ := open_cells n t hp fuel _ _ ι σ h hr ho hrow
 have one : (∀ c, v ≠ .agg c) → v.cells.toList = [v] → ∃ ι' σ' av, Rep ι' σ' w ∧ Ro ι' w ∧ Sub ι ι' ∧ Le σ σ' ∧ VR ι' av v ∧ WT P σ' n t av.cells.toList := by
  intro hna e
  rw [e] at v1
  cases v1 with
  | cons hx hn =>
   cases hn
   rename_i x
   refine ⟨ι', σ', x, r1, o1, s1, l1, hx, ?_⟩
   have hc := hx.cells
   rw [e] at hc
   have : x.cells.toList = [x] := by
    cases x with
    | agg cs =>
     exfalso
     cases hx with
     | atom hat => exact absurd hat (by simp [atomB])
     | agg _ _ => exact hna _ rfl
    | _ => rfl
   rw [this]; exact w1
 cases v with
 | agg c =>
  refine ⟨ι', σ', .agg ⟨cs⟩, r1, o1, s1, l1, ?_, w1⟩
  cases c with | mk l => exact VR.agg' v1
 | _ => exact one (by simp) rfl
theorem open_all {n : Nat} : ∀ {ts : List TypeId} {vs : List Value} {ds : List (DataW H)} {ps : List MemPlace} {ι : Inj} {σ : St}, DataW.TrodAll enc P w 0 (fun _ => true) held ts vs ds ps → (∀ t ∈ ts, plainT P n t = true) → Rep ι σ w → Ro ι w → (∀ v ∈ vs, HasRow w v.cells.toList) →
  ∃ ι' σ' avs, Rep ι' σ' w ∧ Ro ι' w ∧ Le σ σ' ∧ Sub ι ι' ∧ VRs ι' avs vs ∧ WTs P σ' n ts avs
 | [], [], [], ps, ι, σ, h, _, hr, ho, _ => ⟨ι, σ, [], hr, ho, Le.refl _, Sub.refl _, .nil, trivial⟩
 | t :: ts, v :: vs, d :: ds, ps, ι, σ, h, hp, hr, ho, hrow => by
  obtain ⟨p, q, h1, h2, _⟩ := h
  obtain ⟨ι1, σ1, av, r1, o1, s1, l1, v1, w1⟩ := open_value (hp t (by simp)) h1 hr ho (hrow v (by simp))
  obtain ⟨ι2, σ2, avs, r2, o2, l2, s2, v2, w2⟩ := open_all h2 (fun t ht => hp t (by simp [ht])) r1 o1 (fun v hv => hrow v (by simp [hv]))
  exact ⟨ι2, σ2, av :: avs, r2, o2, l1.trans l2, s1.trans s2, .cons (v1.sub s2) v2, w1.le l2, w2⟩
 | [], _ :: _, _, _, _, _, h, _, _, _, _ => h.elim
 | _ :: _, [], _, _, _, _, h, _, _, _, _ => h.elim
 | [], [], _ :: _, _, _, _, h, _, _, _, _ => h.elim
 | _ :: _, _ :: _, [], _, _, _, h, _, _, _, _ => h.elim

theorem hasRow_of {t : TypeId} {v : Value} (h : Value.okWide P w .any 0 t v) : HasRow w v.cells.toList := by
  have cell : ∀ {u : TypeId} {A : Addr} {len cap : Nat}, Cell.okWide P w .any 0 u (.slice (some A) len cap) → ∃ (c : Nat) (arr : Array Value) (el : TypeId) (fr : Nat × Nat), w.heap[c]? = some (.cells arr el fr) := by
    intro u A len cap hc
    have hok : Cell.ok P w .any 0 u (.slice (some A) len cap) := by
      unfold Cell.okWide at hc
      split at hc <;> first | exact hc | (rename_i heq; cases heq)
    unfold Cell.ok at hok
    split at hok <;> first | (rename_i heq; cases heq; done) | skip
    all_goals first
      | (rename_i heq; cases heq; obtain ⟨_, _, _, _, row, cells, hs, _⟩ := hok
         unfold World.shape? at hs
         split at hs
         · rename_i c elem hh; exact ⟨_, _, _, _, hh⟩
         · cases hs)
      | exact hok.elim
      | skip
  intro A len cap hm
  unfold Value.okWide at h
  split at h
  · obtain ⟨cs, rfl, _, ts, _, _, hc⟩ := h
    obtain ⟨i, hi⟩ := List.getElem?_of_mem hm
    obtain ⟨u, _, hu⟩ := hc i _ (by simpa [Value.cells] using hi)
    exact cell hu
  · obtain ⟨cs, rfl, _, ts, _, _, hc⟩ := h
    obtain ⟨i, hi⟩ := List.getElem?_of_mem hm
    obtain ⟨u, _, hu⟩ := hc i _ (by simpa [Value.cells] using hi)
    exact cell hu
  · cases v with
    | slice a l c =>
      simp [Value.cells] at hm
      obtain ⟨rfl, rfl, rfl⟩ := hm
      exact cell h
    | agg cs =>
      exfalso
      unfold Cell.okWide at h
      split at h <;> first | (rename_i heq; cases heq; done) | skip
      unfold Cell.ok at h
      split at h <;> first | (rename_i heq; cases heq; done) | exact h.elim | skip
    | _ => simp [Value.cells] at hm
end
end Go.Lay

namespace Go.Lay
open Go Go.RowKit
theorem heap_of_grown {W W' : World} (h : Grown W W') {b : Nat} (hb : b < W.heap.size) : W'.heap[b]? = W.heap[b]? := by
 have := h.1.2.2 b hb
 split at this
 ·rename_i c t fr c' t' fr' h1 h2
  obtain ⟨rfl, rfl, hs, hj⟩ := this
  rw [h1, h2]
  have : c' = c := Array.ext_getElem? (fun j => hj j (fun f => f))
  rw [this]
 ·rename_i h1 h2
  rcases this with f | ⟨rfl, rfl⟩
  ·exact f.elim
  ·rw [h1, h2]
 ·exact this
theorem same_of_grown {W W' : World} (h : Grown W W') {p : MemPlace} (hp : p.block < W.heap.size) : W.sameAt W' p := by
 cases p with
 | cell b o => exact World.cell?_of_block (w := W) (heap_of_grown h hp)
 | map b => exact heap_of_grown h hp
section
variable {H : Type} {enc : TypeId × Value → H} {P : Program} {w w' : World} {b : Nat} {sp : Nat → Bool} {held : Bool}
theorem trodAll_carry : ∀ {ts : List TypeId} {vs : List Value} {ds : List (DataW H)} {ps : List MemPlace}, DataW.TrodAll enc P w b sp held ts vs ds ps → (∀ p ∈ ps, w.sameAt w' p) → DataW.TrodAll enc P w' b sp held ts vs ds ps
 | [], [], [], _, h, _ => h
 | _ :: _, _ :: _, _ :: _, _, ⟨p, q, ⟨n, h1⟩, h2, e⟩, hs => ⟨p, q, ⟨n, DataW.trod_carry _ _ _ _ h1 (fun x hx => hs x (by rw [e]; exact List.mem_append_left _ hx))⟩, trodAll_carry h2 (fun x hx => hs x (by rw [e]; exact List.mem_append_right _ hx)), e⟩
theorem args_same (K : Kids P (· < P.types.size)) (hz : ∀ (t : Nat) (e : TypeId), t < P.types.size → P.underlying t = some (.slice e) → 0 < P.cellsOf e) {ts : List TypeId} {vs : List Value} {ds : List (DataW H)} {ps : List MemPlace}
  (hT : ∀ t ∈ ts, t < P.types.size) (h : DataW.TrodAll enc P w 0 (fun _ => true) true ts vs ds ps) (hg : Grown w w') (hlt : ∀ p ∈ ps, p.block < w.heap.size) (hs : ∀ p ∈ ps, sp p.block = true) : DataW.TrodAll enc P w' 0 sp true ts vs ds ps :=
 trodAll_carry (DataW.TrodAll.respare K hz hT h hs) (fun p hp => same_of_grown hg (hlt p hp))
end
end Go.Lay

namespace Go.Lay
open Go
section
variable {P : Program} {R : Nat → Rec} {rd : Option Nat} {c : Code} {fr fr' : Fr} {σ σ' : St} {e : Exit} {aw : FuncId}
def CallsY (P : Program) (l : Nat) (args : List Value) (σ : St) (v : Value) (σ' : St) : Prop := ∃ N0, ∀ N, N0 ≤ N → callA (runA P N) (.yield l) args σ = some (v, σ')
end
end Go.Lay

namespace Go.Lay
open Go
section
variable {P : Program} {σ σ' : St} {cs : List Value}
end
end Go.Lay

namespace Go.Lay
open Go
structure Only (S : Nat → Prop) (σ σ' : St) : Prop where
 q : σ.q ≤ σ'.q
 get : ∀ b, b < σ.q → ¬ S b → getB σ'.heap b = getB σ.heap b
 low : ∀ m, m ≤ σ.low → m ≤ σ.q → (∀ b, b < σ.q → S b → m ≤ b) → m ≤ σ'.low
section
variable {P : Program} {S T : Nat → Prop} {σ σ' σ₁ σ₂ σ₃ : St} {cs : List Value} {n b : Nat}
theorem Only.refl (S : Nat → Prop) (σ : St) : Only S σ σ := ⟨Nat.le_refl _, fun _ _ _ => rfl, fun _ h _ _ => h⟩
theorem Only.trans' (h : Only S σ₁ σ₂) (k : Only T σ₂ σ₃) (hT : ∀ b, b < σ₂.q → T b → S b ∨ σ₁.q ≤ b) : Only S σ₁ σ₃ :=
 ⟨Nat.le_trans h.q k.q, fun b hb hs => (k.get b (Nat.lt_of_lt_of_le hb h.q) (fun ht => (hT b (Nat.lt_of_lt_of_le hb h.q) ht).elim hs (fun h => by omega))).trans (h.get b hb hs), fun m h1 h2 h3 => k.low m (h.low m h1 h2 h3) (Nat.le_trans h2 h.q) (fun b hb ht => by
  rcases hT b hb ht with h4 | h4
  ·by_cases hb' : b < σ₁.q
   ·exact h3 b hb' h4
   ·omega
  ·omega)⟩
theorem Only.mono (h : Only S σ σ') (hT : ∀ b, b < σ.q → S b → T b) : Only T σ σ' := ⟨h.q, fun b hb hs => h.get b hb (fun k => hs (hT b hb k)), fun m h1 h2 h3 => h.low m h1 h2 (fun b hb k => h3 b hb (hT b hb k))⟩
theorem New.only (h : New σ σ') : Only S σ σ' := ⟨h.le.q, fun b hb _ => h.le.get b hb, fun m h1 h2 _ => h.low m h1 h2⟩
theorem Only.add (σ : St) (y : Blk) : Only S σ (σ.add y) := (New.add σ y).only
theorem Only.put {y : Blk} (hs : σ.q ≤ b ∨ S b) : Only S σ (σ.put b y) := ⟨Nat.le_refl _, fun c hc hs' => by rw [St.put_get, if_neg (by rintro rfl; rcases hs with h | h; omega; exact hs' h)], fun m h1 h2 h3 => by
 simp only [St.put_low]
 rcases hs with h | h
 ·omega
 ·by_cases hb : b < σ.q
  ·have := h3 b hb h; omega
  ·omega⟩
theorem Only.own (hs : σ.q ≤ b ∨ S b) : Only S σ (σ.own b cs n) := Only.put hs
theorem Only.re (σ : St) : Only S σ σ.re := ⟨Nat.le_refl _, fun _ _ _ => rfl, fun _ _ h _ => h⟩
theorem Only.own' (h : Only S σ σ') (k : Own σ b cs n) (hs : ¬ S b) : Own σ' b cs n := ⟨by rw [h.get b k.lt hs]; exact k.get, Nat.lt_of_lt_of_le k.lt h.q⟩
theorem Only.rw' {a : Addr} (h : Only S σ σ') (k : Row σ a cs) (hs : ¬ S a.block) : Row σ' a cs := ⟨by
 have := k.rd
 unfold readRow at this ⊢
 rw [h.get _ k.lt hs]; exact this, Nat.lt_of_lt_of_le k.lt h.q⟩
theorem Only.slp' {len : Nat} {p : Option Addr} (h : Only S σ σ') (k : SlP σ n p len cs) (hs : ∀ a, p = some a → ¬ S a.block) : SlP σ' n p len cs := by
 refine ⟨k.1, ?_⟩
 cases p with
 | none => exact k.2
 | some a => exact h.rw' (show Row σ a cs from k.2) (hs a rfl)
theorem Only.slv' {t len : Nat} {p : Option Addr} {vs : List Value} (h : Only S σ σ') (k : SlV P σ t n p len vs) (hs : ∀ a, p = some a → ¬ S a.block) : SlV P σ' t n p len vs := ⟨h.slp' k.1 hs, k.2⟩
theorem Only.app' {n0 len : Nat} {v : Value} (h : Only S σ σ') (k : App σ n0 n v len cs) (hs : ∀ a l c, v = .slice (some a) l c → ¬ S a.block) : App σ' n0 n v len cs := by
 cases k with
 | nil => exact .nil
 | more g1 g2 g3 g4 g5 g6 g7 => exact .more (by rw [h.get _ g4 (hs _ _ _ rfl)]; exact g1) g2 g3 (Nat.lt_of_lt_of_le g4 h.q) g5 g6 g7
def RangeR (P : Program) (R : Nat → Rec) (g : Operand) (ps : Array Tmp) (as bo : Code) (fr : Fr) (σ : St) (e : Exit) (fr' : Fr) (σ' : St) : Prop := ∃ N0, ∀ N, N0 ≤ N → rangeA (R N) none g ps as bo fr σ = some (e, fr', σ')
def ShutR (ms : List Nat) (σ σ' : St) : Prop := wpMarks ms σ fun s => s = σ'
theorem wpMarks_of : ∀ {ms : List Nat} {σ : St} {K : St → Prop}, ShutR ms σ σ' → K σ' → wpMarks ms σ K
 | [], _, _, h, k => by cases h; exact k
 | _ :: _, _, _, h, k => ⟨h.1, wpMarks_of h.2 k⟩
theorem shut_all : ∀ {ms : List Nat} {σ : St}, (∀ d ∈ ms, getB σ.heap d = some .defd) → ms.Nodup → ∃ σ', ShutR ms σ σ' ∧ σ'.q = σ.q ∧ (∀ b, b ∉ ms → getB σ'.heap b = getB σ.heap b) ∧ ∀ m, m ≤ σ.low → (∀ d ∈ ms, m ≤ d) → m ≤ σ'.low
 | [], σ, _, _ => ⟨σ, rfl, rfl, fun _ _ => rfl, fun _ h _ => h⟩
 | d :: ms, σ, h, hn => by
  have hn := List.nodup_cons.1 hn
  obtain ⟨σ', h1, h2, h3, h4⟩ := shut_all (ms := ms) (σ := σ.shut d) (fun c hc => by
   rw [St.shut_get, if_neg (by rintro rfl; exact hn.1 hc)]; exact h c (by simp [hc])) hn.2
  refine ⟨σ', ⟨h d (by simp), h1⟩, h2, fun b hb => ?_, fun m hm hd => h4 m ?_ (fun c hc => hd c (by simp [hc]))⟩
  ·simp at hb
   rw [h3 b hb.2, St.shut_get, if_neg hb.1]
  ·have := hd d (by simp)
   simp; omega
end
end Go.Lay

namespace Go.Lay
open Go
section
variable {P : Program} {σ σ' : St} {cs : List Value}
def AtP (p : Option Addr) (b : Nat) : Prop := ∃ a, p = some a ∧ a.block = b
theorem AtP.none {b : Nat} : ¬ AtP none b := by rintro ⟨a, h, _⟩; cases h
theorem app_step2 {st xt e n m k len n0 : Nat} {a2 : Addr} {p : Option Addr} {c : Nat} {xs : List Value} (T : AppT P st xt e n) (hA : App σ n0 n (.slice p len c) len cs) (hr : Row σ a2 xs) (hm : xs.length = m * n) (hp : 0 < m) (hroom : len + m ≤ 1073741824)
  (hc : xs.all cellB = true) (hn0 : n0 ≤ σ.q) : ∃ p' c' σ', appendA P st xt (.slice p len c) (.slice (some a2) m k) σ = some (.slice p' (len + m) c', σ') ∧ App σ' n0 n (.slice p' (len + m) c') (len + m) (cs ++ xs) ∧ Only (AtP p) σ σ' ∧ (∀ b, AtP p' b → AtP p b ∨ σ.q ≤ b) := by
 obtain ⟨p', c', σ', h1, h2, h3⟩ := app_step (k := k) T hA hr hm hp hroom hc hn0
 refine ⟨p', c', σ', h1, h2, ?_⟩
 obtain ⟨xd, hxd, hxi⟩ := T.src
 obtain ⟨ei, z, hei, hz, hby, hrz, hzl⟩ := T.info
 have hrd := hr.rd
 rw [hm] at hrd
 have hsrc : appSrc σ n z xd (.slice (some a2) m k) = some (m, xs) := by
  unfold appSrc
  cases xd with
  | int _ => cases hxi
  | _ => simp only [srcCells, hrd, Option.map_some]
 have hcond : (roomy (len + m) n ei.bytes && xs.all cellB && Nat.beq xs.length (m * n) && rigidB RD z && Nat.beq z.cells.toList.length n) = true := by
  unfold roomy
  rw [(ble_iff _ _).2 hroom, (ble_iff _ _).2 T.le, (ble_iff _ _).2 hby, hc, hm, Nat.beq_refl, hrz, hzl]; rfl
 have hble : ∀ x : Nat, Nat.ble (x + m) x = false := fun x => by rw [Bool.eq_false_iff]; intro e; have := (ble_iff _ _).1 e; omega
 cases hA with
 | nil =>
  have hc0 : capLow 0 = 0 := by unfold capLow; have := inex_pos; rw [if_neg (by omega)]
  have hc1 : capExact 0 = true := (capExact_iff 0).2 inex_pos
  unfold appendA at h1
  simp only [T.el, hxd, hei, hz, hsrc, hcond, cond_true, appRows, hc0, hble, cond_false, hc1, Nat.beq_refl, newRow_eq, Option.some.injEq, Prod.mk.injEq, Value.slice.injEq] at h1
  obtain ⟨⟨rfl, _, _⟩, rfl⟩ := h1
  exact ⟨Only.add _ _, fun b' hb => .inr (by obtain ⟨a, e, rfl⟩ := hb; cases e; exact Nat.le_refl _)⟩
 | @more b' s nx _ _ sp log h hs hb hlt hl hpp hsn =>
  have hex : extOf ((s, cs.length) :: log) (stampOf ⟨b', 0, sp⟩) = some cs.length := by
   have : Nat.beq s (stampOf ⟨b', 0, sp⟩) = true := by unfold stampOf; simp only [hs]; exact Nat.beq_refl _
   simp only [extOf, this, cond_true]
  have hlf : logFrom ((s, cs.length) :: log) (stampOf ⟨b', 0, sp⟩) = (s, cs.length) :: log := by
   have : Nat.beq s (stampOf ⟨b', 0, sp⟩) = true := by unfold stampOf; simp only [hs]; exact Nat.beq_refl _
   simp only [logFrom, this, cond_true]
  have hg : (Nat.beq len len && Nat.beq (0 + len * n) cs.length && Nat.beq n n && !false && Nat.blt 0 n) = true := by
   rw [Nat.beq_refl, Nat.zero_add, hl, Nat.beq_refl, Nat.beq_refl, (blt_iff 0 n).2 T.pos]; rfl
  unfold appendA at h1
  simp only [T.el, hxd, hei, hz, hsrc, hcond, cond_true, appRows, capLow_inex, hble, cond_false, capExact_inex, appGrow, h, hex, hg, fVs_eq, fN_eq, St.write_eq, hlf, Option.some.injEq, Prod.mk.injEq, Value.slice.injEq] at h1
  obtain ⟨⟨rfl, _, _⟩, rfl⟩ := h1
  exact ⟨Only.put (.inr ⟨_, rfl, rfl⟩), fun b'' hb => .inl (by obtain ⟨a, e, rfl⟩ := hb; cases e; exact ⟨_, rfl, rfl⟩)⟩
theorem Own.stI {b n i : Nat} {t : TypeId} {v : Value} (h : Own σ b cs n) (hv : v.cells.toList = [v]) (hs : sizeT P t = some 1) (hc : cellB v = true) (hi : i < cs.length) :
  effOp P (evL [.pointer (some (aadd ⟨b, 0, none⟩ (Int.toNat (i : Int) * 1))), v]) σ (.store t (.tmp 0) (.tmp 1)) = some (undef, σ.own b (cs.set i v) n) := by
 have e : aadd ⟨b, 0, none⟩ (Int.toNat (i : Int) * 1) = ⟨b, i, none⟩ := by rw [Int.toNat_natCast, Nat.mul_one]; simp [aadd]
 rw [e]
 refine h.store (k := i) hv hs (by simp [hc]) (by simp; omega) ?_
 rw [List.set_eq_take_append_cons_drop, if_pos hi]; rfl
end
end Go.Lay

namespace Go.Lay
open Go
def isUndef : Value → Bool
 | .tuple ⟨[]⟩ => true
 | _ => false
theorem isUndef_eq {v : Value} (h : isUndef v = true) : v = undef := by
 unfold isUndef at h
 split at h
 ·rfl
 ·cases h
def shp : Nat → Bool → Tr Value → Bool
 | 0, _, .leaf => true
 | d + 1, c, .node (some v) l r => (c || isUndef v) && (shp d false l && shp d true r)
 | _, _, _ => false
def valP : List Bool → Nat
 | [] => 0
 | b :: p => (bif b then 1 else 0) + 2 * valP p
def canP : Bool → List Bool → Prop
 | c, [] => c = true
 | _, b :: p => canP b p
theorem shp_tr {g : Nat → Value} : ∀ (d : Nat) (c : Bool) (t : Tr Value) (w a : Nat), shp d c t = true → (∀ p v, canP c p → Tr.getP p t = some v → g (a + w * valP p) = v) → t = trF g d w a c
 | 0, c, .leaf, w, a, _, _ => rfl
 | 0, c, .node _ _ _, w, a, h, _ => by simp [shp] at h
 | d + 1, c, .leaf, w, a, h, _ => by simp [shp] at h
 | d + 1, c, .node none l r, w, a, h, _ => by simp [shp] at h
 | d + 1, c, .node (some v) l r, w, a, h, hg => by
  simp only [shp, Bool.and_eq_true] at h
  obtain ⟨h1, h2, h3⟩ := h
  have e1 : v = bif c then g a else undef := by
   cases c with
   | true =>
    have := hg [] v rfl rfl
    simp [valP] at this
    simp [this]
   | false => simpa using isUndef_eq (by simpa using h1)
  have e2 := shp_tr d false l (w * 2) a h2 (fun p x hp hx => by
   have := hg (false :: p) x (by cases p <;> exact hp) hx
   simp [valP] at this
   rw [← this]
   congr 1
   rw [Nat.mul_assoc])
  have e3 := shp_tr d true r (w * 2) (a + w) h3 (fun p x hp hx => by
   have := hg (true :: p) x (by cases p <;> exact hp) hx
   simp only [valP, cond_true] at this
   rw [← this]
   congr 1
   rw [Nat.mul_add, Nat.mul_one, Nat.mul_assoc, Nat.add_assoc])
  rw [e2, e3, e1]; rfl
theorem bits_val : ∀ (p : List Bool), canP true p → ∀ f, valP p ≤ f → bits f (valP p) = p
 | [], _, f, _ => by
  cases f with
  | zero => rfl
  | succ f => simp [bits, valP]
 | b :: p, hp, f, hf => by
  have hp : canP b p := hp
  have hpos : 0 < (bif b then 1 else 0) + 2 * valP p := by
   cases p with
   | nil =>
    have : b = true := hp
    subst this; simp [valP]
   | cons b2 q =>
    have key : ∀ (q : List Bool) (b : Bool), canP b q → b = true ∨ 0 < valP q := by
     intro q
     induction q with
     | nil => intro b h; exact .inl h
     | cons c q ih =>
      intro b h
      rcases ih c h with h1 | h1
      ·right; simp [valP, h1]; omega
      ·right; simp only [valP]; omega
    rcases key q b2 hp with h1 | h1
    ·simp [valP, h1]; omega
    ·simp only [valP]; omega
  simp only [valP] at hf ⊢
  match f with
  | 0 => omega
  | f + 1 =>
   have ih : bits f (valP p) = p := by
    cases p with
    | nil => cases f <;> simp [bits, valP]
    | cons b2 q => exact bits_val (b2 :: q) hp f (by cases b <;> simp at hf <;> omega)
   have hb : Nat.beq ((bif b then 1 else 0) + 2 * valP p) 0 = false := by
    rw [Bool.eq_false_iff]; intro e; have := Nat.eq_of_beq_eq_true e; omega
   have h2 : ((bif b then 1 else 0) + 2 * valP p) / 2 = valP p := by cases b <;> simp <;> omega
   have h3 : Nat.beq (((bif b then 1 else 0) + 2 * valP p) % 2) 1 = b := by
    cases b
    ·rw [Bool.eq_false_iff]; intro e; have := Nat.eq_of_beq_eq_true e; simp at this
    ·have : ((bif true then 1 else 0) + 2 * valP p) % 2 = 1 := by simp
     rw [this]; rfl
   simp only [bits, hb, cond_false, h3, h2, ih]
def fits (n : Nat) (f : Tm) : Bool := Nat.beq f.n n && shp ((way n).length + 1) true f.t
def AG (f : Tm) : List (Nat × Value) → Prop
 | [] => True
 | (i, v) :: l => f.nth i = v ∧ AG f l
def ARf : List (Nat × Value) → Prop
 | [] => True
 | (_, v) :: l => v = v ∧ ARf l
theorem arf : ∀ l : List (Nat × Value), ARf l
 | [] => trivial
 | (_, _) :: l => ⟨rfl, arf l⟩
theorem ov_ag {f : Tm} : ∀ {l : List (Nat × Value)}, AG f l → ov l f.nth = f.nth
 | [], _ => rfl
 | (i, v) :: l, h => by
  have ih := ov_ag h.2
  funext j
  unfold ov
  cases hb : Nat.beq i j with
  | false => rw [cond_false, ih]
  | true => rw [cond_true, ← Nat.eq_of_beq_eq_true hb, h.1]
theorem fm_of {n : Nat} {f : Tm} {l : List (Nat × Value)} (h : fits n f = true) (hl : AG f l) : f = Fm n (ov l f.nth) := by
 unfold fits at h
 simp only [Bool.and_eq_true] at h
 obtain ⟨h1, h2⟩ := h
 have h1 := Nat.eq_of_beq_eq_true h1
 subst h1
 rw [ov_ag hl]
 have := shp_tr (g := f.nth) ((way f.n).length + 1) true f.t 1 0 h2 (fun p v hp hv => by
  rw [Nat.zero_add, Nat.one_mul]
  unfold Tm.nth way
  rw [bits_val p hp _ (Nat.le_refl _), hv])
 cases f with
 | mk n t => unfold Fm; exact congrArg (Tm.mk n) this

def CallsE (R : Nat → Rec) : CallP := fun r args σ v σ' => ∃ N0, ∀ N, N0 ≤ N → callA (R N) r args σ = some (v, σ')
def PostA (n : Nat) : List Alt → Exit → Fr → St → Prop
 | [], _, _, _ => False
 | a :: as, e, fr, σ => (e = a.e ∧ ∃ t g, fr = ⟨Fm n (ov (a.l t) g), a.ms t⟩ ∧ a.Q t σ) ∨ PostA n as e fr σ
def PostX : List (Exit × (St → Prop)) → Exit → St → Prop
 | [], _, _ => False
 | a :: as, e, σ => (e = a.1 ∧ a.2 σ) ∨ PostX as e σ
def Conts (n : Nat) : List Alt → (Exit → Fr → St → Prop) → Prop
 | [], _ => True
 | a :: as, K => (∀ (t : a.T) (g : Nat → Value) (σ : St), a.Q t σ → K a.e ⟨Fm n (ov (a.l t) g), a.ms t⟩ σ) ∧ Conts n as K
def ContsX (n : Nat) (l : List (Nat × Value)) (ms : List Nat) : List (Exit × (St → Prop)) → (Exit → Fr → St → Prop) → Prop
 | [], _ => True
 | a :: as, K => (∀ (g : Nat → Value) (σ : St), a.2 σ → K a.1 ⟨Fm n (ov l g), ms⟩ σ) ∧ ContsX n l ms as K
theorem conts_get {n : Nat} {K : Exit → Fr → St → Prop} {e : Exit} {fr : Fr} {σ : St} : ∀ {l : List Alt}, Conts n l K → PostA n l e fr σ → K e fr σ
 | [], _, h => h.elim
 | a :: as, hc, h => by
  rcases h with ⟨rfl, t, g, rfl, hq⟩ | h
  ·exact hc.1 t g σ hq
  ·exact conts_get hc.2 h
theorem contsX_get {n : Nat} {l0 : List (Nat × Value)} {ms : List Nat} {K : Exit → Fr → St → Prop} {e : Exit} {g : Nat → Value} {σ : St} : ∀ {l : List (Exit × (St → Prop))}, ContsX n l0 ms l K → PostX l e σ → K e ⟨Fm n (ov l0 g), ms⟩ σ
 | [], _, h => h.elim
 | a :: as, hc, h => by
  rcases h with ⟨rfl, hq⟩ | h
  ·exact hc.1 g σ hq
  ·exact contsX_get hc.2 h
section
variable (P : Program) (R : Nat → Rec)
def BodyG (rd : Option Nat) (c : Code) (n : Nat) (l : List (Nat × Value)) (ms : List Nat) (alts : List Alt) (σ : St) : Prop :=
 ∀ g : Nat → Value, ∃ e fr' σ', CodeR P R rd c ⟨Fm n (ov l g), ms⟩ σ e fr' σ' ∧ PostA n alts e fr' σ'
def LoopG (rd : Option Nat) (c : Code) (n : Nat) (l : List (Nat × Value)) (ms : List Nat) (alts : List Alt) (σ : St) : Prop :=
 ∀ g : Nat → Value, ∃ e fr' σ', LoopR P R rd c ⟨Fm n (ov l g), ms⟩ σ e fr' σ' ∧ PostA n alts e fr' σ'
def RangeG (gx : Operand) (ps : Array Tmp) (a b : Code) (n : Nat) (l : List (Nat × Value)) (alts : List (Exit × (St → Prop))) (σ : St) : Prop :=
 ∀ (g : Nat → Value) (ms : List Nat), ∃ e σ', RangeR P R gx ps a b ⟨Fm n (ov l g), ms⟩ σ e ⟨Fm n (ov l g), σ.q :: ms⟩ σ' ∧ PostX alts e σ'
def wpE (rd : Option Nat) : Code → List Ans → Fr → St → (Exit → Fr → St → List Ans → Prop) → Prop
 | .skip, as, fr, σ, K => K .normal fr σ as
 | .label _, as, fr, σ, K => K .normal fr σ as
 | .ret, as, fr, σ, K => K .ret fr σ as
 | .exit id, as, fr, σ, K => K (.exit id) fr σ as
 | .seq x y, as, fr, σ, K => wpE rd x as fr σ fun e fr σ as => match e with
  | .normal => wpE rd y as fr σ K
  | e => K e fr σ as
 | .cond c x y, as, fr, σ, K => match as with
  | .cut n l alts :: _ => (fits n fr.f = true ∧ AG fr.f l ∧ BodyG P R rd (.cond c x y) n l fr.marks alts σ) ∧ Conts n alts fun e fr σ => ∃ as, K e fr σ as
  | as => match aeval fr.f c with
   | .bool true => wpE rd x as fr σ K
   | .bool false => wpE rd y as fr σ K
   | _ => False
 | .block id c, as, fr, σ, K => match as with
  | .cut n l alts :: _ => (fits n fr.f = true ∧ AG fr.f l ∧ BodyG P R rd (.block id c) n l fr.marks alts σ) ∧ Conts n alts fun e fr σ => ∃ as, K e fr σ as
  | as => wpE rd c as fr σ fun e fr σ as => match e with
   | .exit i => match Nat.beq i id with
    | true => K .normal fr σ as
    | false => K (.exit i) fr σ as
   | e => K e fr σ as
 | .scope c, as, fr, σ, K => wpE rd c as fr σ K
 | .region _ ops d, as, fr, σ, K => wpReg P (CallsE R) ops d as fr σ K
 | .loop c, as, fr, σ, K => match as with
  | .lf n l alts :: _ => (fits n fr.f = true ∧ AG fr.f l ∧ LoopG P R rd c n l fr.marks alts σ) ∧ Conts n alts fun e fr σ => ∃ as, K e fr σ as
  | _ => False
 | .rangeFunc g ps a b, as, fr, σ, K => match as, rd with
  | .rf n l alts :: _, none => (fits n fr.f = true ∧ AG fr.f l ∧ RangeG P R g ps a b n l alts σ) ∧ ContsX n l (σ.q :: fr.marks) alts fun e fr σ => ∃ as, K e fr σ as
  | _, _ => False
 | .goto _, _, _, _, _ => False
 | .refuse _, _, _, _, _ => False
end
section
variable {P : Program} {R : Nat → Rec} {rd : Option Nat}
theorem wpOp_mono {C : CallP} {f : Tm} {σ : St} {o : Op} {as : List Ans} {K K' : Value → St → List Ans → Prop} (h : wpOp P C f σ o as K) (hk : ∀ v s a, K v s a → K' v s a) : wpOp P C f σ o as K' := by
 unfold wpOp at h ⊢
 repeat' split at h
 all_goals first
  | exact h.elim
  | (simp only [*]; exact ⟨h.1, hk _ _ _ h.2⟩)
  | (simp only [*]; exact hk _ _ _ h)
  | exact ⟨h.1, hk _ _ _ h.2⟩
  | exact hk _ _ _ h
abbrev At3 (v : Value) (σ' : St) (as' : List Ans) : Value → St → List Ans → Prop := fun v2 s2 a2 => v2 = v ∧ s2 = σ' ∧ a2 = as'
theorem wpOp_lift {f : Tm} {σ : St} {o : Op} {as : List Ans} {K : Value → St → List Ans → Prop} (h : wpOp P (CallsE R) f σ o as K) : ∃ v σ' as', K v σ' as' ∧ ∃ N0, ∀ N, N0 ≤ N → wpOp P (callP (R N)) f σ o as (At3 v σ' as') := by
 unfold wpOp at h
 unfold wpOp
 repeat' split at h
 all_goals first
  | exact h.elim
  | (obtain ⟨⟨N0, hN⟩, hk⟩ := h; exact ⟨_, _, _, hk, N0, fun N hl => ⟨hN N hl, rfl, rfl, rfl⟩⟩)
  | exact ⟨_, _, _, h, 0, fun N _ => ⟨rfl, rfl, rfl⟩⟩
  | exact ⟨_, _, _, h.2, 0, fun N _ => by simp only [*]; exact ⟨h.1, rfl, rfl, rfl⟩⟩
  | exact ⟨_, _, _, h, 0, fun N _ => by simp only [*]; exact ⟨rfl, rfl, rfl⟩⟩
  | exact ⟨_, _, _, h.2, 0, fun N _ => ⟨h.1, rfl, rfl, rfl⟩⟩
theorem wpOps_lift {ops : Array Oper} : ∀ (rest : List Oper) (as : List Ans) (f : Tm) (σ : St) (l : List Seen) (K : Tm → St → List Seen → List Ans → Prop), wpOps P (CallsE R) ops rest as f σ l K →
  ∃ f' σ' l' as', K f' σ' l' as' ∧ ∃ N0, ∀ N, N0 ≤ N → wpOps P (callP (R N)) ops rest as f σ l fun f2 s2 l2 a2 => f2 = f' ∧ s2 = σ' ∧ l2 = l' ∧ a2 = as'
 | [], as, f, σ, l, K, h => ⟨f, σ, l, as, h, 0, fun _ _ => ⟨rfl, rfl, rfl, rfl⟩⟩
 | o :: rest, as, f, σ, l, K, h => by
  unfold wpOps at h
  unfold wpOps
  split at h
  ·rename_i hg
   obtain ⟨v, σ1, as1, h1, N1, k1⟩ := wpOp_lift h
   obtain ⟨f', σ', l', as', h2, N2, k2⟩ := wpOps_lift rest _ _ _ _ _ h1
   refine ⟨f', σ', l', as', h2, N1 + N2, fun N hN => ?_⟩
   try simp only [hg]
   refine wpOp_mono (k1 N (by omega)) ?_
   rintro _ _ _ ⟨rfl, rfl, rfl⟩
   exact k2 N (by omega)
  ·rename_i hg
   obtain ⟨f', σ', l', as', h2, N2, k2⟩ := wpOps_lift rest _ _ _ _ _ h
   exact ⟨f', σ', l', as', h2, N2, fun N hN => by (try simp only [hg]); exact k2 N hN⟩
  ·exact h.elim
theorem wpOpsD_lift {ops : Array Oper} : ∀ (rest : List Oper) (as : List Ans) (f : Tm) (σ : St) (l : List Lk) (K : Tm → St → List Lk → List Ans → Prop), wpOpsD P (CallsE R) ops rest as f σ l K →
  ∃ f' σ' l' as', K f' σ' l' as' ∧ ∃ N0, ∀ N, N0 ≤ N → wpOpsD P (callP (R N)) ops rest as f σ l fun f2 s2 l2 a2 => f2 = f' ∧ s2 = σ' ∧ l2 = l' ∧ a2 = as'
 | [], as, f, σ, l, K, h => ⟨f, σ, l, as, h, 0, fun _ _ => ⟨rfl, rfl, rfl, rfl⟩⟩
 | o :: rest, as, f, σ, l, K, h => by
  unfold wpOpsD at h
  unfold wpOpsD
  split at h
  ·rename_i hg
   obtain ⟨v, σ1, as1, h1, N1, k1⟩ := wpOp_lift h
   obtain ⟨f', σ', l', as', h2, N2, k2⟩ := wpOpsD_lift rest _ _ _ _ _ h1
   refine ⟨f', σ', l', as', h2, N1 + N2, fun N hN => ?_⟩
   try simp only [hg]
   refine wpOp_mono (k1 N (by omega)) ?_
   rintro _ _ _ ⟨rfl, rfl, rfl⟩
   exact k2 N (by omega)
  ·rename_i hg
   obtain ⟨f', σ', l', as', h2, N2, k2⟩ := wpOpsD_lift rest _ _ _ _ _ h
   exact ⟨f', σ', l', as', h2, N2, fun N hN => by (try simp only [hg]); exact k2 N hN⟩
  ·exact h.elim
theorem wpOps_mono {C : CallP} {ops : Array Oper} : ∀ (rest : List Oper) (as : List Ans) (f : Tm) (σ : St) (l : List Seen) {K K' : Tm → St → List Seen → List Ans → Prop}, wpOps P C ops rest as f σ l K → (∀ f s l a, K f s l a → K' f s l a) → wpOps P C ops rest as f σ l K'
 | [], as, f, σ, l, K, K', h, hk => hk _ _ _ _ h
 | o :: rest, as, f, σ, l, K, K', h, hk => by
  unfold wpOps at h ⊢
  split at h
  ·rename_i hg
   try simp only [hg]
   exact wpOp_mono h fun v s a hh => wpOps_mono rest _ _ _ _ hh hk
  ·rename_i hg
   try simp only [hg]
   exact wpOps_mono rest _ _ _ _ h hk
  ·exact h.elim
theorem wpOpsD_mono {C : CallP} {ops : Array Oper} : ∀ (rest : List Oper) (as : List Ans) (f : Tm) (σ : St) (l : List Lk) {K K' : Tm → St → List Lk → List Ans → Prop}, wpOpsD P C ops rest as f σ l K → (∀ f s l a, K f s l a → K' f s l a) → wpOpsD P C ops rest as f σ l K'
 | [], as, f, σ, l, K, K', h, hk => hk _ _ _ _ h
 | o :: rest, as, f, σ, l, K, K', h, hk => by
  unfold wpOpsD at h ⊢
  split at h
  ·rename_i hg
   try simp only [hg]
   exact wpOp_mono h fun v s a hh => wpOpsD_mono rest _ _ _ _ hh hk
  ·rename_i hg
   try simp only [hg]
   exact wpOpsD_mono rest _ _ _ _ h hk
  ·exact h.elim
theorem belows_mono {K K' : Prop} : ∀ {l : List Lk}, belows l K → (K → K') → belows l K'
 | [], h, hk => hk h
 | s :: ss, h, hk => by
  unfold belows at h ⊢
  split
  ·rename_i hs; (try simp only [hs] at h); exact ⟨h.1, belows_mono h.2 hk⟩
  ·rename_i hs; (try simp only [hs] at h); exact belows_mono h hk
theorem belows_get {K : Prop} : ∀ {l : List Lk}, belows l K → K
 | [], h => h
 | s :: ss, h => by
  unfold belows at h
  split at h
  ·exact belows_get h.2
  ·exact belows_get h
theorem steadies_mono {K K' : Prop} {l : List Lk} : ∀ {ps : List (Nat × Nat)}, steadies l ps K → (K → K') → steadies l ps K'
 | [], h, hk => hk h
 | p :: ps, h, hk => by
  unfold steadies at h ⊢
  split at h
  ·rename_i sj sk h1 h2
   try simp only [h1, h2]
   split at h
   ·rename_i hw; exact ⟨h.1, h.2.1, steadies_mono h.2.2 hk⟩
   ·rename_i hw; exact steadies_mono h hk
  ·exact h.elim
theorem steadies_get {K : Prop} {l : List Lk} : ∀ {ps : List (Nat × Nat)}, steadies l ps K → K
 | [], h => h
 | p :: ps, h => by
  unfold steadies at h
  split at h
  ·split at h
   ·exact steadies_get h.2.2
   ·exact steadies_get h
  ·exact h.elim
theorem wpReg_sound {id : Nat} {ops : Array Oper} {d : Bool} {as : List Ans} {fr : Fr} {σ : St} {K : Exit → Fr → St → List Ans → Prop} (h : wpReg P (CallsE R) ops d as fr σ K) :
  ∃ e fr' σ' as', CodeR P R rd (.region id ops d) fr σ e fr' σ' ∧ K e fr' σ' as' := by
 have fin : ∀ (f' : Tm) (σ' : St) (as' : List Ans), K .normal ⟨f', fr.marks⟩ σ' as' → (∃ N0, ∀ N, N0 ≤ N → wpReg P (callP (R N)) ops d as fr σ fun e f2 s2 a2 => e = .normal ∧ f2 = ⟨f', fr.marks⟩ ∧ s2 = σ') → ∃ e fr' σ' as', CodeR P R rd (.region id ops d) fr σ e fr' σ' ∧ K e fr' σ' as' := by
  rintro f' σ' as' hk ⟨N0, hN⟩
  refine ⟨.normal, ⟨f', fr.marks⟩, σ', as', ⟨N0, fun N hl => ?_⟩, hk⟩
  obtain ⟨e₂, f₂, s₂, _, h1, rfl, rfl, rfl⟩ := wpReg_code (id := id) (rec := R N) N rd (K := fun e f2 s2 _ => e = .normal ∧ f2 = ⟨f', fr.marks⟩ ∧ s2 = σ') (hN N hl)
  exact h1
 cases d with
 | false =>
  simp only [wpReg] at h
  obtain ⟨f', σ', l', as', h1, N0, hN⟩ := wpOps_lift _ _ _ _ _ _ h
  refine fin f' σ' as' h1 ⟨N0, fun N hl => ?_⟩
  simp only [wpReg]
  exact wpOps_mono _ _ _ _ _ (hN N hl) (by rintro _ _ _ _ ⟨rfl, rfl, rfl, rfl⟩; refine ⟨?_, ?_, ?_⟩ <;> first | rfl | trivial)
 | true =>
  simp only [wpReg] at h
  split at h
  ·rename_i h0 hp hf
   obtain ⟨f', σ', l', as', h1, N0, hN⟩ := wpOps_lift _ _ _ _ _ _ h
   refine fin f' σ' as' h1 ⟨N0, fun N hl => ?_⟩
   unfold wpReg; simp only []
   rw [h0, hp, hf]
   exact wpOps_mono _ _ _ _ _ (hN N hl) (by rintro _ _ _ _ ⟨rfl, rfl, rfl, rfl⟩; refine ⟨?_, ?_, ?_⟩ <;> first | rfl | trivial)
  ·rename_i ps fb h0 hno
   obtain ⟨f', σ', l', as', h1, N0, hN⟩ := wpOpsD_lift _ _ _ _ _ _ h
   refine fin f' σ' as' (steadies_get (belows_get h1)) ⟨N0, fun N hl => ?_⟩
   unfold wpReg; dsimp only
   have key := wpOpsD_mono (K' := fun f2 s2 l2 a2 => belows l2 (steadies l2 (pairsA ops (CheckFast.beforeF ops)) (Exit.normal = Exit.normal ∧ (⟨f2, fr.marks⟩ : Fr) = ⟨f', fr.marks⟩ ∧ s2 = σ'))) _ _ _ _ _ (hN N hl) (by
    rintro _ _ _ _ ⟨rfl, rfl, rfl, rfl⟩
    exact belows_mono h1 (fun x => steadies_mono x (fun _ => ⟨rfl, rfl, rfl⟩)))
   split
   ·rename_i g0 gp gf; exact absurd gf (hno gp)
   ·exact key
   ·rename_i g0; rw [h0] at g0; cases g0
  ·exact h.elim
theorem CodeR.seqN {x y : Code} {fr fr1 fr2 : Fr} {σ σ1 σ2 : St} {e : Exit} (h1 : CodeR P R rd x fr σ .normal fr1 σ1) (h2 : CodeR P R rd y fr1 σ1 e fr2 σ2) : CodeR P R rd (.seq x y) fr σ e fr2 σ2 := by
 obtain ⟨N1, k1⟩ := h1
 obtain ⟨N2, k2⟩ := h2
 refine ⟨N1 + N2, fun N hN => ?_⟩
 simp only [codeA, seqA, k1 N (by omega)]
 exact k2 N (by omega)
theorem CodeR.seqX {x y : Code} {fr fr1 : Fr} {σ σ1 : St} {e : Exit} (h1 : CodeR P R rd x fr σ e fr1 σ1) (he : e ≠ .normal) : CodeR P R rd (.seq x y) fr σ e fr1 σ1 := by
 obtain ⟨N1, k1⟩ := h1
 refine ⟨N1, fun N hN => ?_⟩
 simp only [codeA, seqA, k1 N hN]
 cases e <;> first | rfl | exact absurd rfl he
theorem CodeR.mapD {x y : Code} {fr fr1 : Fr} {σ σ1 : St} {e : Exit} (h1 : CodeR P R rd x fr σ e fr1 σ1) (h : ∀ N, codeA P (R N) N rd y fr σ = codeA P (R N) N rd x fr σ) : CodeR P R rd y fr σ e fr1 σ1 := by
 obtain ⟨N1, k1⟩ := h1
 exact ⟨N1, fun N hN => by rw [h]; exact k1 N hN⟩
theorem LoopR.code {c : Code} {fr fr' : Fr} {σ σ' : St} {e : Exit} (h : LoopR P R rd c fr σ e fr' σ') : CodeR P R rd (.loop c) fr σ e fr' σ' := by
 obtain ⟨N0, hN⟩ := h
 exact ⟨N0, fun N hl => by simp only [codeA]; exact hN N N hl hl⟩
theorem cut_sound {c : Code} {n : Nat} {l : List (Nat × Value)} {alts : List Alt} {fr : Fr} {σ : St} {K : Exit → Fr → St → List Ans → Prop}
  (h : (fits n fr.f = true ∧ AG fr.f l ∧ BodyG P R rd c n l fr.marks alts σ) ∧ Conts n alts fun e fr σ => ∃ as, K e fr σ as) : ∃ e fr' σ' as', CodeR P R rd c fr σ e fr' σ' ∧ K e fr' σ' as' := by
 obtain ⟨⟨h1, h2, h3⟩, h4⟩ := h
 obtain ⟨e, fr', σ', h5, h6⟩ := h3 fr.f.nth
 rw [← fm_of h1 h2] at h5
 obtain ⟨as, hk⟩ := conts_get h4 h6
 exact ⟨e, fr', σ', as, h5, hk⟩
theorem wpE_sound : ∀ (c : Code) (as : List Ans) (fr : Fr) (σ : St) (K : Exit → Fr → St → List Ans → Prop), wpE P R rd c as fr σ K →
  ∃ e fr' σ' as', CodeR P R rd c fr σ e fr' σ' ∧ K e fr' σ' as' := by
 intro c
 induction c with
 | skip => intro as fr σ K h; exact ⟨_, _, _, _, ⟨0, fun _ _ => rfl⟩, h⟩
 | label _ => intro as fr σ K h; exact ⟨_, _, _, _, ⟨0, fun _ _ => rfl⟩, h⟩
 | ret => intro as fr σ K h; exact ⟨_, _, _, _, ⟨0, fun _ _ => rfl⟩, h⟩
 | exit _ => intro as fr σ K h; exact ⟨_, _, _, _, ⟨0, fun _ _ => rfl⟩, h⟩
 | goto _ => intro as fr σ K h; simp [wpE] at h
 | refuse _ => intro as fr σ K h; simp [wpE] at h
 | seq x y ihx ihy =>
  intro as fr σ K h
  simp only [wpE] at h
  obtain ⟨e, fr1, σ1, as1, h1, h2⟩ := ihx _ _ _ _ h
  cases e with
  | normal =>
   obtain ⟨e, fr2, σ2, as2, h3, h4⟩ := ihy _ _ _ _ h2
   exact ⟨e, fr2, σ2, as2, h1.seqN h3, h4⟩
  | _ => exact ⟨_, fr1, σ1, as1, h1.seqX (by simp), h2⟩
 | cond c x y ihx ihy =>
  intro as fr σ K h
  unfold wpE at h
  split at h
  ·exact cut_sound h
  ·split at h
   ·rename_i hc
    obtain ⟨e, fr1, σ1, as1, h1, h2⟩ := ihx _ _ _ _ h
    exact ⟨e, fr1, σ1, as1, h1.mapD (fun N => by simp only [codeA, condA, hc]), h2⟩
   ·rename_i hc
    obtain ⟨e, fr1, σ1, as1, h1, h2⟩ := ihy _ _ _ _ h
    exact ⟨e, fr1, σ1, as1, h1.mapD (fun N => by simp only [codeA, condA, hc]), h2⟩
   ·exact h.elim
 | block id c ih =>
  intro as fr σ K h
  unfold wpE at h
  split at h
  ·exact cut_sound h
  ·obtain ⟨e, fr1, σ1, as1, ⟨N1, h1⟩, h2⟩ := ih _ _ _ _ h
   cases e with
   | exit i =>
    simp only at h2
    cases hb : Nat.beq i id with
    | true =>
     rw [hb] at h2
     exact ⟨_, fr1, σ1, as1, ⟨N1, fun N hN => by simp only [codeA, blockA, h1 N hN, hb, cond_true]⟩, h2⟩
    | false =>
     rw [hb] at h2
     exact ⟨_, fr1, σ1, as1, ⟨N1, fun N hN => by simp only [codeA, blockA, h1 N hN, hb, cond_false]⟩, h2⟩
   | _ => exact ⟨_, fr1, σ1, as1, ⟨N1, fun N hN => by simp only [codeA, blockA, h1 N hN]⟩, h2⟩
 | scope c ih =>
  intro as fr σ K h
  simp only [wpE] at h
  obtain ⟨e, fr1, σ1, as1, h1, h2⟩ := ih _ _ _ _ h
  exact ⟨e, fr1, σ1, as1, h1.mapD (fun N => by simp only [codeA]), h2⟩
 | region id ops d =>
  intro as fr σ K h
  simp only [wpE] at h
  exact wpReg_sound h
 | loop c _ =>
  intro as fr σ K h
  unfold wpE at h
  split at h
  rotate_left
  ·exact h.elim
  obtain ⟨⟨h1, h2, h3⟩, h4⟩ := h
  obtain ⟨e, fr', σ', h5, h6⟩ := h3 fr.f.nth
  rw [← fm_of h1 h2] at h5
  obtain ⟨as, hk⟩ := conts_get h4 h6
  exact ⟨e, fr', σ', as, h5.code, hk⟩
 | rangeFunc g ps a b _ _ =>
  intro as fr σ K h
  unfold wpE at h
  split at h
  rotate_left
  ·exact h.elim
  obtain ⟨⟨h1, h2, h3⟩, h4⟩ := h
  obtain ⟨e, σ', ⟨N0, h5⟩, h6⟩ := h3 fr.f.nth fr.marks
  rw [← fm_of h1 h2] at h5
  obtain ⟨as, hk⟩ := contsX_get (g := fr.f.nth) h4 h6
  rw [← fm_of h1 h2] at hk
  exact ⟨e, _, σ', as, ⟨N0, fun N hN => by simp only [codeA]; exact h5 N hN⟩, hk⟩
end
end Go.Lay

namespace Go.Lay
open Go
@[simp] theorem aadd_blk (a : Addr) (n : Nat) : (aadd a n).block = a.block := rfl
@[simp] theorem re_nx (σ : St) : σ.re.q = σ.q := rfl
@[simp] theorem re_lw (σ : St) : σ.re.low = σ.q := rfl
theorem tt : true = true := rfl
@[irreducible] def Hid (p : Prop) : Prop := p
theorem hid {p : Prop} (h : Hid p) : p := by unfold Hid at h; exact h
theorem kc {a b : Prop} (h : a = b) (x : b) : a := h.mpr x
def In (a : Alt) : List Alt → Prop
 | [] => False
 | b :: l => a = b ∨ In a l
theorem in0 {a : Alt} {l : List Alt} : In a (a :: l) := .inl rfl
theorem inS {a b : Alt} {l : List Alt} (h : In a l) : In a (b :: l) := .inr h
def KFin (n : Nat) (alts : List Alt) : Exit → Fr → St → List Ans → Prop := fun e fr σ as => match as with
 | [.fin a t] => (e = a.e ∧ fits n fr.f = true ∧ AG fr.f (a.l t) ∧ fr.marks = a.ms t) ∧ (a.Q t σ ∧ In a alts)
 | _ => False
def FIN (alts : List Alt) (a : Alt) (t : a.T) (σ : St) : Prop := (a.e = a.e ∧ true = true ∧ ARf (a.l t) ∧ a.ms t = a.ms t) ∧ (a.Q t σ ∧ In a alts)
theorem fin {alts : List Alt} (a : Alt) (t : a.T) {σ : St} (h : a.Q t σ) (hi : In a alts) : FIN alts a t σ := ⟨⟨rfl, rfl, arf _, rfl⟩, h, hi⟩
section
variable {P : Program} {R : Nat → Rec} {rd : Option Nat} {c : Code} {n : Nat} {l : List (Nat × Value)} {ms : List Nat} {alts : List Alt} {σ σ' : St}
theorem postA_of {a : Alt} {t : a.T} {fr : Fr} (h1 : fits n fr.f = true) (h2 : AG fr.f (a.l t)) (h3 : fr.marks = a.ms t) (h4 : a.Q t σ) : ∀ {alts : List Alt}, In a alts → PostA n alts a.e fr σ
 | [], h => h.elim
 | b :: as, h => by
  rcases h with rfl | h
  ·refine .inl ⟨rfl, t, fr.f.nth, ?_, h4⟩
   rw [← fm_of h1 h2, ← h3]
  ·exact .inr (postA_of h1 h2 h3 h4 h)
theorem body_of (as : List Ans) (h : ∀ g : Nat → Value, Hid (wpE P R rd c as ⟨Fm n (ov l g), ms⟩ σ (KFin n alts))) : BodyG P R rd c n l ms alts σ := by
 intro g
 obtain ⟨e, fr', σ', as', h1, h2⟩ := wpE_sound _ _ _ _ _ (hid (h g))
 refine ⟨e, fr', σ', h1, ?_⟩
 unfold KFin at h2
 split at h2
 ·obtain ⟨⟨rfl, k1, k2, k3⟩, k4, k5⟩ := h2
  exact postA_of k1 k2 k3 k4 k5
 ·exact h2.elim
theorem exNe (i : Nat) : Exit.exit i ≠ .normal := fun h => by cases h
theorem retNe : Exit.ret ≠ .normal := fun h => by cases h
def NeAll : List Alt → Prop
 | [] => True
 | a :: l => a.e ≠ .normal ∧ NeAll l
theorem loopG_inv {T : Type} {lf : T → List (Nat × Value)} {mf : T → List Nat} {Inv : Nat → T → St → Prop} (hne : NeAll alts)
  (hb : ∀ k t σ, Inv k t σ → BodyG P R rd c n (lf t) (mf t) (⟨T, .normal, lf, mf, fun t' σ' => ∃ k', k' < k ∧ Inv k' t' σ'⟩ :: alts) σ) : ∀ k t σ, Inv k t σ → LoopG P R rd c n (lf t) (mf t) alts σ := by
 intro k
 induction k using Nat.strongRecOn with
 | ind k ih =>
  intro t σ hi g
  obtain ⟨e, fr', σ', h1, h2⟩ := hb k t σ hi g
  rcases h2 with ⟨rfl, t', g', rfl, k', hk, hi'⟩ | h2
  ·obtain ⟨e2, fr2, σ2, h3, h4⟩ := ih k' hk t' σ' hi' g'
   exact ⟨e2, fr2, σ2, .step h1 h3, h4⟩
  ·have he : e ≠ .normal := by
    clear h1 ih hb hi
    induction alts with
    | nil => exact h2.elim
    | cons a as ih2 =>
     rcases h2 with ⟨rfl, _⟩ | h2
     ·exact hne.1
     ·exact ih2 hne.2 h2
   exact ⟨e, fr', σ', .exit h1 he, h2⟩
def kAt (P : Program) (R : Nat → Rec) (rd : Option Nat) : Code → List Nat → (Exit → Fr → St → List Ans → Prop) → Exit → Fr → St → List Ans → Prop
 | .seq x y, 0 :: p, K => kAt P R rd x p fun e fr σ as => match e with
  | .normal => wpE P R rd y as fr σ K
  | e => K e fr σ as
 | .seq _ y, 1 :: p, K => kAt P R rd y p K
 | .cond _ x _, 0 :: p, K => kAt P R rd x p K
 | .cond _ _ y, 1 :: p, K => kAt P R rd y p K
 | .block id c, 0 :: p, K => kAt P R rd c p fun e fr σ as => match e with
  | .exit i => match Nat.beq i id with
   | true => K .normal fr σ as
   | false => K (.exit i) fr σ as
  | e => K e fr σ as
 | .scope c, 0 :: p, K => kAt P R rd c p K
 | _, _, K => K
def kFn (P : Program) (f : FuncId) (Q : Value → St → Prop) : Exit → Fr → St → List Ans → Prop := fun e fr σ as =>
 match P.funcs[f]? with
 | some fn => match e with
  | .normal => wpDone P fn fr σ as Q
  | .ret => wpDone P fn fr σ as Q
  | _ => False
 | none => False
theorem CallsA.top {aw f : FuncId} {a : Value} {as : List Value} {v : Value} (h : CallsA P f (a :: as) σ v σ') : CallsE (topR P aw) (.func f) (a :: as) σ v σ' := h
def wpFnE (P : Program) (R : Nat → Rec) (f : FuncId) (args : List Value) (as : List Ans) (σ : St) (K : Value → St → Prop) : Prop :=
 match P.funcs[f]? with
 | some fn => match fn.body with
  | some c => wpE P R none c as ⟨(Tm.args 0 args).foldl (fun f p => f.set p.1 p.2) (fresh (args.length + (fn.ntmps - args.length))), []⟩ σ fun e fr σ as => match e with
   | .normal => wpDone P fn fr σ as K
   | .ret => wpDone P fn fr σ as K
   | _ => False
  | none => False
 | none => False
theorem wpFnE_sound {f : FuncId} {args : List Value} {as : List Ans} {K : Value → St → Prop} (h : wpFnE P R f args as σ K) : ∃ v σ', (∃ N0, ∀ N, N0 ≤ N → bodyF P (R N) N f args σ = some (v, σ')) ∧ K v σ' := by
 unfold wpFnE at h
 split at h
 ·rename_i fn hfn
  split at h
  ·rename_i c hc
   obtain ⟨e, fr, σ₁, as', ⟨N0, h1⟩, h2⟩ := wpE_sound _ _ _ _ _ h
   have fin : ∀ (h2 : wpDone P fn fr σ₁ as' K) (he : e = .normal ∨ e = .ret), ∃ v σ', (∃ N0, ∀ N, N0 ≤ N → bodyF P (R N) N f args σ = some (v, σ')) ∧ K v σ' := by
    intro h2 he
    obtain ⟨v, σ', h3, h4⟩ := wpDone_sound h2
    refine ⟨v, σ', ⟨N0, fun N hN => ?_⟩, h4⟩
    have key : endA P fn (codeA P (R N) N none c ⟨(Tm.args 0 args).foldl (fun f p => f.set p.1 p.2) (fresh (args.length + (fn.ntmps - args.length))), []⟩ σ) = bodyF P (R N) N f args σ := by
     simp only [bodyF, hfn, hc, Tm.puts_eq]
    rw [← key, h1 N hN]
    rcases he with rfl | rfl <;> exact h3
   cases e with
   | normal => exact fin h2 (.inl rfl)
   | ret => exact fin h2 (.inr rfl)
   | _ => exact h2.elim
  ·exact h.elim
 ·exact h.elim
def RunsQ (P : Program) (f : FuncId) (args : List Value) (σ : St) (Q : Value → St → Prop) : Prop := ∃ v σ', Runs P f args σ v σ' ∧ Q v σ'
theorem runsQ_of {f : FuncId} {args : List Value} {Q : Value → St → Prop} (as : List Ans) (h : Hid (wpFnE P (runA P) f args as σ Q)) : RunsQ P f args σ Q := by
 obtain ⟨v, σ', ⟨N0, hN⟩, hq⟩ := wpFnE_sound (hid h)
 refine ⟨v, σ', ⟨N0 + 1, fun N hN' => ?_⟩, hq⟩
 obtain ⟨N, rfl⟩ : ∃ M, N = M + 1 := ⟨N - 1, by omega⟩
 exact runA_of (hN N (by omega))
def TopQ (P : Program) (aw : FuncId) (f : FuncId) (args : List Value) (σ : St) (Q : Value → St → Prop) : Prop := ∃ N v σ', bodyF P (topR P aw N) N f args σ = some (v, σ') ∧ Q v σ'
theorem topQ_of {aw f : FuncId} {args : List Value} {Q : Value → St → Prop} (as : List Ans) (h : Hid (wpFnE P (topR P aw) f args as σ Q)) : TopQ P aw f args σ Q := by
 obtain ⟨v, σ', ⟨N0, hN⟩, hq⟩ := wpFnE_sound (hid h)
 exact ⟨N0, v, σ', hN N0 (Nat.le_refl _), hq⟩
theorem topE {aw : FuncId} : CallsE (topR P aw) (.func aw) [] σ (.bool true) σ := ⟨0, fun N _ => top_awake⟩
theorem TopQ.walk {W : World} {ι : Inj} {aw : FuncId} (hP : ProgOk P) (hc : ShutF P aw) {f : FuncId} {avs args : List Value} (h : TopQ P aw f avs σ fun v _ => v = .bool true) (hr : Rep ι σ W) (ho : Ro ι W) (ha : VRs ι avs args) :
  Calls P f ⟨args⟩ W fun e w' => e = .returned (.bool true) ∧ RowKit.Grown W w' := by
 obtain ⟨N, v, σ', hb, rfl⟩ := h
 obtain ⟨_, h2⟩ := bodyF_sound hP (topR_sound hP hc N) hb hr ha
 refine Calls.mono (callsIn_wide.1 (h2 0)) (fun e w' hR => ?_)
 cases e with
 | returned v' =>
  obtain ⟨ι', hv, hg⟩ := hR
  exact ⟨by rw [hv.bool_inv], grown_of hg ho.own⟩
 | panicked _ => exact hR.elim
 | outgrown => exact hR.elim
theorem RunsQ.mono {f : FuncId} {args : List Value} {Q Q' : Value → St → Prop} (h : RunsQ P f args σ Q) (hk : ∀ v s, Q v s → Q' v s) : RunsQ P f args σ Q' := by
 obtain ⟨v, σ', h1, h2⟩ := h
 exact ⟨v, σ', h1, hk _ _ h2⟩
theorem RunsQ.pure {f : FuncId} {args : List Value} {v : Value} (h : RunsQ P f args σ.re fun v' s => v' = v ∧ σ.q ≤ s.low) (hv : rigidB RD v = true := by rfl) : CallsA P f args σ v σ := by
 obtain ⟨_, σ', h1, rfl, h2⟩ := h
 exact pure_c h1 h2 hv
theorem RunsQ.new {f : FuncId} {args : List Value} {Q : Value → St → Prop} (h : RunsQ P f args σ.re fun v s => New σ.re s ∧ Q v s) (hQ : ∀ v s s', Q v s → Le s s' → Q v s') (hQ2 : ∀ v s, rigidB RD v = true → Q v s → Q v σ) : ∃ v σ', CallsA P f args σ v σ' ∧ New σ σ' ∧ Q v σ' := by
 obtain ⟨v, σ', h1, h2, h3⟩ := h
 obtain ⟨v, σ'', k1, k2, k3⟩ := new_c (Q := Q) h1 h2 h3 (fun s s' a b => hQ _ s s' a b) (fun hr => hQ2 _ _ hr h3)
 exact ⟨v, σ'', k1, k2, k3⟩
def endBlk (tm : Tm) (ps : List Tmp) (a b : Code) (db : Nat) : Exit → Blk
 | .ret => .loop tm ps a b .done (some .ret) db
 | .exit id => .loop tm ps a b .done (some (.exit id)) db
 | _ => .loop tm ps a b .ready none db
def goesOn : Exit → Bool
 | .normal => true
 | _ => false
def PostS (alts : List Alt) (e : Exit) (s : St) : Prop := ∃ a, In a alts ∧ e = a.e ∧ ∃ t, a.Q t s
def KFinS (alts : List Alt) : Exit → Fr → St → List Ans → Prop := fun e _ σ as => match as with
 | [.fin a t] => e = a.e ∧ (a.Q t σ ∧ In a alts)
 | _ => False
def FINS (alts : List Alt) (a : Alt) (t : a.T) (σ : St) : Prop := a.e = a.e ∧ (a.Q t σ ∧ In a alts)
theorem finS {alts : List Alt} (a : Alt) (t : a.T) {σ : St} (h : a.Q t σ) (hi : In a alts) : FINS alts a t σ := ⟨rfl, h, hi⟩
def KAs (P : Program) (R : Nat → Rec) (lo : Nat) (b : Code) (τ τ' : St) (K : Exit → Fr → St → List Ans → Prop) : Exit → Fr → St → List Ans → Prop := fun e fr s an => (e = .normal ∧ s = τ) ∧ wpE P R (some lo) b an fr τ' K
def RoundG (P : Program) (lo : Nat) (args : List Value) (τ : St) (tm : Tm) (ps : List Tmp) (a b : Code) (db : Nat) (alts : List Alt) : Prop :=
 ∃ e s, PostS alts e s ∧ (e = .normal ∨ e = .ret ∨ (∃ i, e = .exit i) → lo < τ.q → getB s.heap lo = some (.loop tm ps a b .busy none db) → τ.q ≤ s.q → CallsY P lo args τ (.bool (goesOn e)) ⟨(s.put lo (endBlk tm ps a b db e)).heap, s.q, min τ.low (min s.low lo)⟩)
theorem round_of {lo db : Nat} {tm : Tm} {ps : List Tmp} {a b : Code} {args : List Value} {τ : St} (hl : getB τ.heap lo = some (.loop tm ps a b .ready none db)) (hn : args.length = ps.length) {σ1 : St} (hσ : σ1 = τ.re.put lo (.loop tm ps a b .busy none db)) (as : List Ans)
  (h : Hid (wpE P (runA P) (some lo) a as ⟨(ps.zip args).foldl (fun f p => f.set p.1 p.2) tm, []⟩ τ.re (KAs P (runA P) lo b τ.re σ1 (KFinS alts)))) :
  RoundG P lo args τ tm ps a b db alts := by
 subst hσ
 obtain ⟨e1, fr1, s1, an1, ⟨N1, h1⟩, ⟨rfl, rfl⟩, h2⟩ := wpE_sound _ _ _ _ _ (hid h)
 obtain ⟨e, fr2, s, an2, ⟨N2, h3⟩, h4⟩ := wpE_sound _ _ _ _ _ h2
 unfold KFinS at h4
 split at h4
 rotate_left
 ·exact h4.elim
 obtain ⟨rfl, h5, h6⟩ := h4
 rename_i al t
 refine ⟨_, s, ⟨al, h6, rfl, t, h5⟩, fun he hlt hb hs => ⟨N1 + N2 + 1, fun N hN => ?_⟩⟩
 obtain ⟨N, rfl⟩ : ∃ N', N = N' + 1 := ⟨N - 1, by omega⟩
 have k1 := h1 N (by omega)
 have k3 := h3 N (by omega)
 have hr : (⟨τ.heap, τ.q, τ.q⟩ : St) = τ.re := rfl
 have hlr : getB τ.re.heap lo = some (.loop tm ps a b .ready none db) := hl
 unfold callA
 rw [hr]
 rw [runA_yield]
 simp only [yieldF, hlr, hn, Nat.beq_refl, cond_true, Tm.puts_eq, k1, roundBody, St.write_eq, k3]
 have key : ∀ y : Blk, backA τ (.bool (goesOn al.e)) (s.put lo y) = some (.bool (goesOn al.e), ⟨(s.put lo y).heap, s.q, min τ.low (min s.low lo)⟩) := by
  intro y
  unfold backA
  have e1 : Nat.ble τ.q (s.put lo y).low = false := by
   rw [Bool.eq_false_iff]; intro e; have := (ble_iff _ _).1 e; simp only [St.put_low] at this; omega
  have e2 : Nat.ble τ.q (s.put lo y).q = true := (ble_iff _ _).2 hs
  simp only [e1, Bool.false_and, cond_false, e2, cond_true, fN_eq, cond_ble]
  rfl
 rcases he with e | e | ⟨i, e⟩ <;> (rw [e] at key ⊢; simp only [roundLeft, roundEnd, hb, St.write_eq]; exact key _)
def exitC : Option Code → Exit
 | some .ret => .ret
 | some (.exit id) => .exit id
 | _ => .normal
theorem rangeG_of {gx : Operand} {ps : Array Tmp} {a b : Code} {xs : List (Exit × (St → Prop))} {f : FuncId} {fs : List Value} (hg : ∀ g, aeval (Fm n (ov l g)) gx = .func (.func f) ⟨[]⟩ ⟨fs⟩)
  (h : ∀ g, ∃ v s st pend, CallsA P f (.func (.yield (σ.q + 1)) ⟨[]⟩ ⟨[]⟩ :: fs) ((σ.add .defd).add (.loop (Fm n (ov l g)) ps.toList a b .ready none σ.q)) v s ∧ getB s.heap (σ.q + 1) = some (.loop (Fm n (ov l g)) ps.toList a b st pend σ.q) ∧
   ((st = .ready ∧ pend = none) ∨ (st = .done ∧ (pend = some .ret ∨ ∃ i, pend = some (.exit i)))) ∧ PostX xs (exitC pend) (s.put (σ.q + 1) (.loop (Fm n (ov l g)) ps.toList a b .exhausted pend σ.q))) : RangeG P (runA P) gx ps a b n l xs σ := by
 intro g ms
 obtain ⟨v, s, st, pend, ⟨N0, hN⟩, hb, hst, hq⟩ := h g
 refine ⟨exitC pend, _, ⟨N0, fun N hl => ?_⟩, hq⟩
 have h1 := hN N hl
 simp only [rangeA, rangeGo, St.new_eq, hg, refOf, List.nil_append, List.singleton_append, St.add_next]
 simp only [h1, rangeEnd, hb, St.write_eq]
 rcases hst with ⟨rfl, rfl⟩ | ⟨rfl, rfl | ⟨i, rfl⟩⟩ <;> rfl
end
end Go.Lay

namespace Go.Lay
open Go
section
variable {P : Program} {σ τ τ' : St} {S : Nat → Prop}
theorem New.of_only (h : New σ τ) (k : Only S τ τ') (hs : ∀ b, S b → σ.q ≤ b) : New σ τ' :=
  ⟨⟨Nat.le_trans h.le.q k.q, fun b hb => (k.get b (Nat.lt_of_lt_of_le hb h.le.q) (fun hS => by have := hs b hS; omega)).trans (h.le.get b hb)⟩,
   fun m h1 h2 => k.low m (h.low m h1 h2) (Nat.le_trans h2 h.le.q) (fun b _ hS => Nat.le_trans h2 (hs b hS))⟩
theorem New.own {b n : Nat} {cs : List Value} (h : New σ τ) (hb : σ.q ≤ b) : New σ (τ.own b cs n) := h.of_only (S := (· = b)) (Only.own (.inr rfl)) (by rintro _ rfl; exact hb)
theorem New.row' {cs : List Value} {n : Nat} (h : New σ τ) : New σ (τ.row cs n) := h.trans (New.row _ _ _)
theorem New.nx (h : New σ τ) : σ.q ≤ τ.q := h.le.q
theorem New.lw (h : New σ.re τ) : σ.q ≤ τ.low := h.low _ (Nat.le_refl _) (Nat.le_refl _)
structure Gr (P : Program) (σ : St) (n0 t n : Nat) (p : Option Addr) (len c : Nat) (vs : List Value) : Prop where
 app : App σ n0 n (.slice p len c) len (flat vs)
 len_eq : vs.length = len
 el : ∀ v ∈ vs, elOk P t n v
theorem Gr.nil {n0 t n : Nat} : Gr P σ n0 t n none 0 0 [] := ⟨App.nil, rfl, by simp⟩
theorem Gr.le {n0 t n len c : Nat} {p : Option Addr} {vs : List Value} (h : Gr P σ n0 t n p len c vs) (k : Le σ τ) : Gr P τ n0 t n p len c vs := ⟨h.app.keep k, h.len_eq, h.el⟩
theorem Gr.only {n0 t n len c : Nat} {p : Option Addr} {vs : List Value} (h : Gr P σ n0 t n p len c vs) (k : Only S σ τ) (hs : ∀ b, AtP p b → ¬ S b) : Gr P τ n0 t n p len c vs :=
 ⟨k.app' h.app (by rintro a l c ⟨⟩; exact hs _ ⟨a, rfl, rfl⟩), h.len_eq, h.el⟩
theorem Gr.slv {n0 t n len c : Nat} {p : Option Addr} {vs : List Value} (h : Gr P σ n0 t n p len c vs) : SlV P σ t n p len vs := h.app.slv h.len_eq h.el
theorem Gr.bd {n0 t n len c b : Nat} {p : Option Addr} {vs : List Value} (h : Gr P σ n0 t n p len c vs) (hb : AtP p b) : n0 ≤ b ∧ b < σ.q := by
 obtain ⟨a, e, rfl⟩ := hb; exact ⟨h.app.ge a e, h.app.lt a e⟩
theorem grow1 {st xt t n n0 len c : Nat} {p : Option Addr} {vs : List Value} (v : Value) {cs : List Value} (T : AppT P st xt t n) (h : Gr P σ n0 t n p len c vs) (hle : Le σ τ) (hv : elOk P t n v) (hroom : len + 1 ≤ 1073741824) (hn : n0 ≤ σ.q) (e : v.cells.toList = cs := by rfl) (hc : cs.all cellB = true := by first | rfl | simp) :
  ∃ p' c' τ', appendA P st xt (.slice p len c) (.slice (some ⟨τ.q, 0, none⟩) 1 1) (τ.row cs n) = some (.slice p' (len + 1) c', τ') ∧ Gr P τ' n0 t n p' (len + 1) c' (vs ++ [v]) ∧ Only (AtP p) (τ.row cs n) τ' ∧ (∀ b, AtP p' b → AtP p b ∨ τ.q ≤ b) := by
 subst e
 have hl := hv.len
 obtain ⟨p', c', τ', h1, h2, h3, h4⟩ := app_step2 (k := 1) (m := 1) T ((h.le hle).app.keep (Le.row _ _ _)) (row_new τ v.cells.toList n) (by omega) (by omega) hroom hc (by have := hle.q; simp; omega)
 refine ⟨p', c', τ', h1, ⟨by rw [flat_append]; simpa [flat] using h2, by simp [h.len_eq], ?_⟩, h3, fun b hb => ?_⟩
 ·intro x hx
  simp at hx
  rcases hx with hx | rfl
  ·exact h.el x hx
  ·exact hv
 ·rcases h4 b hb with h5 | h5
  ·exact .inl h5
  ·right; simp at h5; omega
theorem grow {σ0 : St} {st xt t n len c : Nat} {p : Option Addr} {vs : List Value} (v : Value) {cs : List Value} (T : AppT P st xt t n) (h : Gr P σ σ0.q t n p len c vs) (hN : New σ0 σ) (hle : New σ τ) (hv : elOk P t n v) (hroom : len + 1 ≤ 1073741824) (e : v.cells.toList = cs := by rfl) (hc : cs.all cellB = true := by first | rfl | simp) :
  ∃ p' c' τ', appendA P st xt (.slice p len c) (.slice (some ⟨τ.q, 0, none⟩) 1 1) (τ.row cs n) = some (.slice p' (len + 1) c', τ') ∧ Gr P τ' σ0.q t n p' (len + 1) c' (vs ++ [v]) ∧ New σ0 τ' ∧ Only (AtP p) (τ.row cs n) τ' ∧ (∀ b, AtP p' b → AtP p b ∨ τ.q ≤ b) := by
 obtain ⟨p', c', τ', h1, h2, h3, h4⟩ := grow1 v T h hle.le hv hroom hN.nx e hc
 exact ⟨p', c', τ', h1, h2, ((hN.trans hle).row').of_only h3 (fun b hb => (h.bd hb).1), h3, h4⟩
theorem RunsQ.newSl {f : FuncId} {args : List Value} {t n len : Nat} {vs : List Value} (h : RunsQ P f args σ.re fun v s => New σ.re s ∧ ∃ p c, v = .slice p len c ∧ SlV P s t n p len vs ∧ ∀ b, AtP p b → σ.q ≤ b) :
  ∃ p c σ', CallsA P f args σ (.slice p len c) σ' ∧ New σ σ' ∧ SlV P σ' t n p len vs ∧ ∀ b, AtP p b → σ.q ≤ b := by
 obtain ⟨v, σ', h1, h2, p, c, rfl, h3, h4⟩ := RunsQ.new (Q := fun v s => ∃ p c, v = .slice p len c ∧ SlV P s t n p len vs ∧ ∀ b, AtP p b → σ.q ≤ b) h (by
  rintro v s s' ⟨p, c, rfl, g1, g2⟩ hle; exact ⟨p, c, rfl, g1.le hle, g2⟩) (by
  rintro v s hr ⟨p, c, rfl, g1, g2⟩
  cases p with
  | none => exact ⟨none, c, rfl, slv_none g1, fun b hb => (AtP.none hb).elim⟩
  | some a => exact Bool.noConfusion (show false = true from hr))
 exact ⟨p, c, σ', h1, h2, h3, h4⟩
def mkTB (P : Program) (st e n : Nat) (z : Value) : Bool :=
 (match elemOfSlice P st with | some (e', n') => Nat.beq e e' && Nat.beq n n' | none => false) && (match P.info? e with | some ei => Nat.ble ei.bytes 4096 | none => false) && Nat.beq z.cells.toList.length n && Nat.ble n 4096 && Nat.blt 0 n
theorem make_sl {st e n : Nat} {z : Value} (hb : mkTB P st e n z = true) (hz : zeroT P e = some z) {len : Nat} (hl : len ≤ 1073741824) :
  effOp P (evL [.int .i64 (len : Int), .int .i64 (len : Int)]) σ (.makeSlice st (.tmp 0) (.tmp 1)) = some (.slice (some ⟨σ.q, 0, none⟩) len len, σ.row (zerosA z.cells.toList len) n) := by
 unfold mkTB at hb
 simp only [Bool.and_eq_true] at hb
 obtain ⟨⟨⟨⟨h1, h2⟩, h3⟩, h4⟩, h5⟩ := hb
 split at h1
 rotate_left
 ·cases h1
 rename_i e' n' he
 simp only [Bool.and_eq_true] at h1
 rw [← Nat.eq_of_beq_eq_true h1.1, ← Nat.eq_of_beq_eq_true h1.2] at he
 split at h2
 rotate_left
 ·cases h2
 rename_i ei hi
 have k1 : leI 0 (len : Int) = true := (leI_iff _ _).2 (Int.natCast_nonneg _)
 have k2 : leI (len : Int) (len : Int) = true := (leI_iff _ _).2 (Int.le_refl _)
 have k3 : leI (len : Int) 1073741824 = true := (leI_iff _ _).2 (by omega)
 have k4 : roomy len n ei.bytes = true := by unfold roomy; rw [(ble_iff _ _).2 hl, h4, h2]; rfl
 have e0 : ∀ l : List Value, evL l (.tmp 0) = l.getD 0 undef := fun _ => rfl
 have e1 : ∀ l : List Value, evL l (.tmp 1) = l.getD 1 undef := fun _ => rfl
 unfold effOp
 simp only [he, e0, e1, List.getD_cons_zero, List.getD_cons_succ, hz, hi, k1, k2, k3, Int.toNat_natCast, k4, h3, h5, Bool.and_self, cond_true, newRow_eq]
 rfl
theorem Only.lower {m : Nat} (h : Only S σ.re τ) : Only S σ ⟨τ.heap, τ.q, min σ.low τ.low⟩ :=
 ⟨h.q, h.get, fun k h1 h2 h3 => by have := h.low k h2 h2 h3; show k ≤ min _ _; omega⟩
end
end Go.Lay

namespace Go.Lay
open Go
def DiesR (P : Program) (f : FuncId) (args : List Value) (σ : St) (x : Value) (σ' : St) : Prop := ∃ N0, ∀ N, N0 ≤ N → runP P N f args σ = some (x, σ')
def DiesA (P : Program) (f : FuncId) (args : List Value) (σ : St) (x : Value) (σ' : St) : Prop := ∃ N0, ∀ N, N0 ≤ N → panCall (runP P N) f args σ = some (x, σ')
def CodeX (P : Program) (c : Code) (fr : Fr) (σ : St) (e : Exit) (fr' : Fr) (σ' : St) : Prop := ∀ ds, ∃ N0, ∀ N, N0 ≤ N → codeB P (runA P N) (runP P N) N c ⟨fr.f, ds⟩ σ = some (e, ⟨fr'.f, ds⟩, σ')
def LoopXR (P : Program) (c : Code) (fr : Fr) (σ : St) (e : Exit) (fr' : Fr) (σ' : St) : Prop := ∀ ds, ∃ N0, ∀ N m, N0 ≤ N → N0 ≤ m → loopB (codeB P (runA P N) (runP P N) N c) m ⟨fr.f, ds⟩ σ = some (e, ⟨fr'.f, ds⟩, σ')
def BodyX (P : Program) (c : Code) (n : Nat) (l : List (Nat × Value)) (ms : List Nat) (alts : List Alt) (σ : St) : Prop :=
 ∀ g : Nat → Value, ∃ e fr' σ', CodeX P c ⟨Fm n (ov l g), ms⟩ σ e fr' σ' ∧ PostA n alts e fr' σ'
def LoopX (P : Program) (c : Code) (n : Nat) (l : List (Nat × Value)) (ms : List Nat) (alts : List Alt) (σ : St) : Prop :=
 ∀ g : Nat → Value, ∃ e fr' σ', LoopXR P c ⟨Fm n (ov l g), ms⟩ σ e fr' σ' ∧ PostA n alts e fr' σ'
def wpPan (P : Program) (f : Tm) (σ : St) (o : Op) (x : Value) (σ' : St) : Prop :=
 match o with
 | .panic y => match aeval f y with
  | .iface t v => rigidB RD (.iface t v) = true ∧ x = .iface t v ∧ σ' = σ
  | _ => False
 | .call c => match c.callee with
  | .value fx => match refOf (aeval f fx) (c.args.toList.map (aeval f)) with
   | some (.func g, args) => match extC P fx σ (.func g) args with
    | none => DiesA P g args σ x σ'
    | some _ => False
   | _ => False
  | _ => False
 | _ => False
def wpOpsX (P : Program) (C : CallP) (ops : Array Oper) : List Oper → List Ans → Tm → St → (Value → Tm → St → List Ans → Prop) → Prop
 | [], _, _, _, _ => False
 | o :: rest, as, f, σ, K =>
  match guardA ops f o with
  | some true => match as with
   | .dx x σ' :: as => wpPan P f σ o.op x σ' ∧ K x f σ' as
   | as => wpOp P C f σ o.op as fun v σ' as => wpOpsX P C ops rest as (setO f o.dst v) σ' K
  | some false => wpOpsX P C ops rest as (setO f o.dst undef) σ K
  | none => False
def wpDie (P : Program) (C : CallP) (ops : Array Oper) (draw : Bool) (as : List Ans) (fr : Fr) (σ : St) (K : Exit → Fr → St → List Ans → Prop) : Prop :=
 match draw with
 | false => wpOpsX P C ops ops.toList as fr.f σ fun x f σ as => K (died x) ⟨f, fr.marks⟩ σ as
 | true => match ops.back? with
  | some o => lastOk ops.pop o = true ∧ wpReg P C ops.pop true as fr σ fun e fr σ as => match e with
   | .normal => match guardA ops fr.f o with
    | some true => match as with
     | .dx x σ' :: as => wpPan P fr.f σ o.op x σ' ∧ K (died x) fr σ' as
     | _ => False
    | _ => False
   | _ => False
  | none => False
section
variable (P : Program)
def wpX : Code → List Ans → Fr → St → (Exit → Fr → St → List Ans → Prop) → Prop
 | .skip, as, fr, σ, K => K .normal fr σ as
 | .label _, as, fr, σ, K => K .normal fr σ as
 | .ret, as, fr, σ, K => K .ret fr σ as
 | .exit id, as, fr, σ, K => K (.exit id) fr σ as
 | .seq x y, as, fr, σ, K => wpX x as fr σ fun e fr σ as => match e with
  | .normal => wpX y as fr σ K
  | e => K e fr σ as
 | .cond c x y, as, fr, σ, K => match aeval fr.f c with
  | .bool true => wpX x as fr σ K
  | .bool false => wpX y as fr σ K
  | _ => False
 | .block id c, as, fr, σ, K => wpX c as fr σ fun e fr σ as => match e with
  | .exit i => match Nat.beq i id with
   | true => K .normal fr σ as
   | false => K (.exit i) fr σ as
  | e => K e fr σ as
 | .scope c, as, fr, σ, K => wpX c as fr σ K
 | .region _ ops d, as, fr, σ, K => match as with
  | .die :: as => wpDie P (CallsE (runA P)) ops d as fr σ K
  | as => wpReg P (CallsE (runA P)) ops d as fr σ K
 | .loop c, as, fr, σ, K => match as with
  | .lf n l alts :: _ => (fits n fr.f = true ∧ AG fr.f l ∧ LoopX P c n l fr.marks alts σ) ∧ Conts n alts fun e fr σ => ∃ as, K e fr σ as
  | _ => False
 | .rangeFunc _ _ _ _, _, _, _, _ => False
 | .goto _, _, _, _, _ => False
 | .refuse _, _, _, _, _ => False
end
section
variable {P : Program} {c : Code} {n : Nat} {l : List (Nat × Value)} {ms : List Nat} {alts : List Alt} {σ σ' : St}
theorem pan_lift {f : Tm} {o : Op} {x : Value} (h : wpPan P f σ o x σ') : ∃ N0, ∀ N, N0 ≤ N → opA P (runA P N) (aeval f) σ o = none ∧ deferB (aeval f) o = none ∧ panOp (runP P N) (aeval f) σ o = some (x, σ') := by
 unfold wpPan at h
 split at h
 ·rename_i y
  split at h
  ·rename_i t v hv
   obtain ⟨h1, rfl, rfl⟩ := h
   exact ⟨0, fun N _ => ⟨rfl, rfl, by simp only [panOp, hv, h1, cond_true]⟩⟩
  ·exact h.elim
 ·rename_i c₀
  split at h
  ·rename_i fx hc
   split at h
   ·rename_i g args href
    split at h
    ·rename_i hx
     obtain ⟨N0, hN⟩ := h
     refine ⟨N0, fun N hl => ⟨?_, rfl, ?_⟩⟩
     ·have h1 := hN N hl
      have h2 : runA P N (.func g) args ⟨σ.heap, σ.q, σ.q⟩ = none := by
       unfold panCall at h1
       split at h1
       ·cases h1
       ·rename_i hr; exact run_excl hr
      simp only [opA, callOp, hc, href, hx, callA, h2]
     ·simp only [panOp, hc, href]; exact hN N hl
    ·exact h.elim
   ·exact h.elim
  ·exact h.elim
 ·exact h.elim
theorem wpOpsX_lift {ops : Array Oper} : ∀ (rest : List Oper) (as : List Ans) (f : Tm) (σ : St) (K : Value → Tm → St → List Ans → Prop), wpOpsX P (CallsE (runA P)) ops rest as f σ K →
  ∃ x f' σ' as', K x f' σ' as' ∧ ∃ N0, ∀ N, N0 ≤ N → ∀ ds, opsB P (runA P N) (runP P N) ops rest ⟨f, ds⟩ σ = some (some x, ⟨f', ds⟩, σ')
 | [], as, f, σ, K, h => h.elim
 | o :: rest, as, f, σ, K, h => by
  unfold wpOpsX at h
  split at h
  ·rename_i hg
   split at h
   ·rename_i x σ₁ as₁
    obtain ⟨h1, h2⟩ := h
    obtain ⟨N0, hN⟩ := pan_lift h1
    refine ⟨x, f, σ₁, as₁, h2, N0, fun N hl ds => ?_⟩
    obtain ⟨k1, k2, k3⟩ := hN N hl
    simp only [opsB, hg, k1, k2, k3]
   ·obtain ⟨v, σ1, as1, h1, N1, k1⟩ := wpOp_lift h
    obtain ⟨x, f', σ', as', h2, N2, k2⟩ := wpOpsX_lift rest _ _ _ _ h1
    refine ⟨x, f', σ', as', h2, N1 + N2, fun N hN ds => ?_⟩
    obtain ⟨v₁, s₁, a₁, g1, rfl, rfl, rfl⟩ := wpOp_sound (k1 N (by omega))
    simp only [opsB, hg, g1, putA_eq]
    exact k2 N (by omega) ds
  ·rename_i hg
   obtain ⟨x, f', σ', as', h2, N2, k2⟩ := wpOpsX_lift rest _ _ _ _ h
   exact ⟨x, f', σ', as', h2, N2, fun N hN ds => by simp only [opsB, hg, putA_eq]; exact k2 N hN ds⟩
  ·exact h.elim
theorem opsA_congr {rec : Rec} {ops ops' : Array Oper} : ∀ (rest : List Oper), (∀ o ∈ rest, ∀ f, guardA ops f o = guardA ops' f o) → ∀ (f : Tm) (σ : St), opsA P rec ops rest f σ = opsA P rec ops' rest f σ
 | [], _, f, σ => rfl
 | o :: rest, h, f, σ => by
  have ih := opsA_congr (rec := rec) rest fun o ho => h o (List.mem_cons_of_mem _ ho)
  unfold opsA
  rw [h o List.mem_cons_self]
  simp only [putA_eq, ih]
theorem opsA_snoc {rec : Rec} {ops : Array Oper} {o : Oper} : ∀ (rest : List Oper) (f t : Tm) (σ τ : St), opsA P rec ops (rest ++ [o]) f σ = some (t, τ) → ∃ f₁ σ₁, opsA P rec ops rest f σ = some (f₁, σ₁) ∧ opsA P rec ops [o] f₁ σ₁ = some (t, τ)
 | [], f, t, σ, τ, h => ⟨f, σ, rfl, h⟩
 | q :: rest, f, t, σ, τ, h => by
  rw [List.cons_append] at h
  unfold opsA at h
  split at h
  ·rename_i hg
   split at h
   ·rename_i v σ₁ ho
    simp only [putA_eq] at h
    obtain ⟨f₁, s₁, k1, k2⟩ := opsA_snoc rest _ _ _ _ h
    exact ⟨f₁, s₁, by unfold opsA; simp only [hg, ho, putA_eq]; exact k1, k2⟩
   ·cases h
  ·rename_i hg
   simp only [putA_eq] at h
   obtain ⟨f₁, s₁, k1, k2⟩ := opsA_snoc rest _ _ _ _ h
   exact ⟨f₁, s₁, by unfold opsA; simp only [hg, putA_eq]; exact k1, k2⟩
  ·cases h
theorem drawA_ops {rec : Rec} {ops : Array Oper} {f t : Tm} {τ : St} (h : drawA P rec ops f σ = some (t, τ)) : opsA P rec ops ops.toList f σ = some (t, τ) := by
 obtain ⟨_, l, hl, _⟩ := drawA_spec h
 exact seenA_opsA _ _ _ _ _ _ hl
theorem draw_excl {rec : Rec} {ops : Array Oper} {o : Oper} {f f₁ : Tm} {σ₁ : St} (ho : ops.back? = some o) (h : drawA P rec ops.pop f σ = some (f₁, σ₁)) (hg : guardA ops f₁ o = some true) (hn : opA P rec (aeval f₁) σ₁ o.op = none) : drawA P rec ops f σ = none := by
 cases hd : drawA P rec ops f σ with
 | none => rfl
 | some r =>
  exfalso
  obtain ⟨t, τ⟩ := r
  have h1 := drawA_ops hd
  have h2 := drawA_ops h
  obtain ⟨D, _⟩ := drawA_spec h
  obtain ⟨os, rfl⟩ := Array.back?_eq_some_iff.1 ho
  rw [Array.pop_push] at h h2 D
  rw [Array.toList_push] at h1
  obtain ⟨f₂, σ₂, g1, g2⟩ := opsA_snoc _ _ _ _ _ h1
  have hc : opsA P rec (os.push o) os.toList f σ = opsA P rec os os.toList f σ := by
   refine opsA_congr _ (fun q hq f => ?_) f σ
   obtain ⟨j, hj⟩ := List.getElem?_of_mem hq
   have hj' : os[j]? = some q := by simpa using hj
   unfold guardA
   cases hgq : q.guard with
   | none => rfl
   | some p =>
    obtain ⟨i, b⟩ := p
    obtain ⟨e₀, he, hbd, rfl⟩ := D.guard j q hj' i b hgq
    have hlt := D.back j q hj' e₀ he hbd
    have hlt2 := (getD_of hj').2
    have : (os.push o)[e₀.on]? = os[e₀.on]? := by
     rw [Array.getElem?_push, if_neg (by omega)]
    simp only [this]
  rw [hc, h2] at g1
  cases g1
  unfold opsA at g2
  rw [hg] at g2
  simp only [hn] at g2
  cases g2
theorem CodeX.seqN {x y : Code} {fr fr1 fr2 : Fr} {σ σ1 σ2 : St} {e : Exit} (h1 : CodeX P x fr σ .normal fr1 σ1) (h2 : CodeX P y fr1 σ1 e fr2 σ2) : CodeX P (.seq x y) fr σ e fr2 σ2 := fun ds => by
 obtain ⟨N1, k1⟩ := h1 ds
 obtain ⟨N2, k2⟩ := h2 ds
 refine ⟨N1 + N2, fun N hN => ?_⟩
 simp only [codeB, seqB, k1 N (by omega)]
 exact k2 N (by omega)
theorem CodeX.seqX {x y : Code} {fr fr1 : Fr} {σ σ1 : St} {e : Exit} (h1 : CodeX P x fr σ e fr1 σ1) (he : e ≠ .normal) : CodeX P (.seq x y) fr σ e fr1 σ1 := fun ds => by
 obtain ⟨N1, k1⟩ := h1 ds
 refine ⟨N1, fun N hN => ?_⟩
 simp only [codeB, seqB, k1 N hN]
 cases e <;> first | rfl | exact absurd rfl he
theorem CodeX.mapD {x y : Code} {fr fr1 : Fr} {σ σ1 : St} {e : Exit} (h1 : CodeX P x fr σ e fr1 σ1) (h : ∀ N ds, codeB P (runA P N) (runP P N) N y ⟨fr.f, ds⟩ σ = codeB P (runA P N) (runP P N) N x ⟨fr.f, ds⟩ σ) : CodeX P y fr σ e fr1 σ1 := fun ds => by
 obtain ⟨N1, k1⟩ := h1 ds
 exact ⟨N1, fun N hN => by rw [h]; exact k1 N hN⟩
theorem LoopXR.code {c : Code} {fr fr' : Fr} {e : Exit} (h : LoopXR P c fr σ e fr' σ') : CodeX P (.loop c) fr σ e fr' σ' := fun ds => by
 obtain ⟨N0, hN⟩ := h ds
 exact ⟨N0, fun N hl => by simp only [codeB]; exact hN N N hl hl⟩
theorem CodeR.x {id : Nat} {ops : Array Oper} {d : Bool} {fr fr' : Fr} {e : Exit} (h : CodeR P (runA P) none (.region id ops d) fr σ e fr' σ') : CodeX P (.region id ops d) fr σ e fr' σ' := fun ds => by
 obtain ⟨N0, hN⟩ := h
 refine ⟨N0, fun N hl => ?_⟩
 have := hN N hl
 simp only [codeA] at this
 simp only [codeB]
 exact region_of this
theorem wpDie_sound {id : Nat} {ops : Array Oper} {d : Bool} {as : List Ans} {fr : Fr} {K : Exit → Fr → St → List Ans → Prop} (h : wpDie P (CallsE (runA P)) ops d as fr σ K) :
  ∃ e fr' σ' as', CodeX P (.region id ops d) fr σ e fr' σ' ∧ K e fr' σ' as' := by
 unfold wpDie at h
 split at h
 ·obtain ⟨x, f', σ', as', h1, N0, hN⟩ := wpOpsX_lift _ _ _ _ _ h
  exact ⟨_, _, _, _, fun ds => ⟨N0, fun N hl => by simp only [codeB, regionB, hN N hl ds]; rfl⟩, h1⟩
 ·split at h
  rotate_left
  ·exact h.elim
  rename_i o ho
  obtain ⟨hl, h⟩ := h
  obtain ⟨e, fr₁, σ₁, as₁, ⟨N1, h1⟩, h2⟩ := wpReg_sound (id := id) (rd := none) h
  split at h2
  rotate_left
  ·exact h2.elim
  split at h2
  rotate_left
  ·exact h2.elim
  rename_i g2
  split at h2
  rotate_left
  ·exact h2.elim
  rename_i x σ₂ as₂
  obtain ⟨h2, h3⟩ := h2
  obtain ⟨N2, hN⟩ := pan_lift h2
  refine ⟨_, _, _, _, fun ds => ⟨N1 + N2, fun N hl' => ?_⟩, h3⟩
  have k1 := h1 N (by omega)
  obtain ⟨k2, k3, k4⟩ := hN N (by omega)
  simp only [codeA, regionA] at k1
  split at k1
  rotate_left
  ·cases k1
  rename_i f₁ τ₁ hd
  simp at k1
  obtain ⟨rfl, rfl⟩ := k1
  simp only [codeB, regionB, draw_excl ho hd g2 k2, drawP, ho, hl, cond_true, hd, g2, k4]
theorem wpX_sound : ∀ (c : Code) (as : List Ans) (fr : Fr) (σ : St) (K : Exit → Fr → St → List Ans → Prop), wpX P c as fr σ K →
  ∃ e fr' σ' as', CodeX P c fr σ e fr' σ' ∧ K e fr' σ' as' := by
 intro c
 induction c with
 | skip => intro as fr σ K h; exact ⟨_, _, _, _, fun _ => ⟨0, fun _ _ => rfl⟩, h⟩
 | label _ => intro as fr σ K h; exact ⟨_, _, _, _, fun _ => ⟨0, fun _ _ => rfl⟩, h⟩
 | ret => intro as fr σ K h; exact ⟨_, _, _, _, fun _ => ⟨0, fun _ _ => rfl⟩, h⟩
 | exit _ => intro as fr σ K h; exact ⟨_, _, _, _, fun _ => ⟨0, fun _ _ => rfl⟩, h⟩
 | goto _ => intro as fr σ K h; simp [wpX] at h
 | refuse _ => intro as fr σ K h; simp [wpX] at h
 | rangeFunc _ _ _ _ _ _ => intro as fr σ K h; simp [wpX] at h
 | seq x y ihx ihy =>
  intro as fr σ K h
  simp only [wpX] at h
  obtain ⟨e, fr1, σ1, as1, h1, h2⟩ := ihx _ _ _ _ h
  cases e with
  | normal =>
   obtain ⟨e, fr2, σ2, as2, h3, h4⟩ := ihy _ _ _ _ h2
   exact ⟨e, fr2, σ2, as2, h1.seqN h3, h4⟩
  | _ => exact ⟨_, fr1, σ1, as1, h1.seqX (by simp), h2⟩
 | cond c x y ihx ihy =>
  intro as fr σ K h
  simp only [wpX] at h
  split at h
  ·rename_i hc
   obtain ⟨e, fr1, σ1, as1, h1, h2⟩ := ihx _ _ _ _ h
   exact ⟨e, fr1, σ1, as1, h1.mapD (fun N ds => by simp only [codeB, condB, hc]), h2⟩
  ·rename_i hc
   obtain ⟨e, fr1, σ1, as1, h1, h2⟩ := ihy _ _ _ _ h
   exact ⟨e, fr1, σ1, as1, h1.mapD (fun N ds => by simp only [codeB, condB, hc]), h2⟩
  ·exact h.elim
 | block id c ih =>
  intro as fr σ K h
  simp only [wpX] at h
  obtain ⟨e, fr1, σ1, as1, h1, h2⟩ := ih _ _ _ _ h
  cases e with
  | exit i =>
   simp only at h2
   cases hb : Nat.beq i id with
   | true =>
    rw [hb] at h2
    exact ⟨_, fr1, σ1, as1, fun ds => by obtain ⟨N1, h1⟩ := h1 ds; exact ⟨N1, fun N hN => by simp only [codeB, blockB, h1 N hN, hb, cond_true]⟩, h2⟩
   | false =>
    rw [hb] at h2
    exact ⟨_, fr1, σ1, as1, fun ds => by obtain ⟨N1, h1⟩ := h1 ds; exact ⟨N1, fun N hN => by simp only [codeB, blockB, h1 N hN, hb, cond_false]⟩, h2⟩
  | _ => exact ⟨_, fr1, σ1, as1, fun ds => by obtain ⟨N1, h1⟩ := h1 ds; exact ⟨N1, fun N hN => by simp only [codeB, blockB, h1 N hN]⟩, h2⟩
 | scope c ih =>
  intro as fr σ K h
  simp only [wpX] at h
  obtain ⟨e, fr1, σ1, as1, h1, h2⟩ := ih _ _ _ _ h
  exact ⟨e, fr1, σ1, as1, h1.mapD (fun N ds => by simp only [codeB]), h2⟩
 | region id ops d =>
  intro as fr σ K h
  unfold wpX at h
  split at h
  ·exact wpDie_sound h
  ·obtain ⟨e, fr', σ', as', h1, h2⟩ := wpReg_sound (id := id) (rd := none) h
   exact ⟨e, fr', σ', as', h1.x, h2⟩
 | loop c _ =>
  intro as fr σ K h
  unfold wpX at h
  split at h
  rotate_left
  ·exact h.elim
  obtain ⟨⟨h1, h2, h3⟩, h4⟩ := h
  obtain ⟨e, fr', σ', h5, h6⟩ := h3 fr.f.nth
  rw [← fm_of h1 h2] at h5
  obtain ⟨as, hk⟩ := conts_get h4 h6
  exact ⟨e, fr', σ', as, h5.code, hk⟩
theorem body_ofX (as : List Ans) (h : ∀ g : Nat → Value, Hid (wpX P c as ⟨Fm n (ov l g), ms⟩ σ (KFin n alts))) : BodyX P c n l ms alts σ := by
 intro g
 obtain ⟨e, fr', σ', as', h1, h2⟩ := wpX_sound _ _ _ _ _ (hid (h g))
 refine ⟨e, fr', σ', h1, ?_⟩
 unfold KFin at h2
 split at h2
 ·obtain ⟨⟨rfl, k1, k2, k3⟩, k4, k5⟩ := h2
  exact postA_of k1 k2 k3 k4 k5
 ·exact h2.elim
theorem LoopXR.step {fr fr1 fr2 : Fr} {σ1 σ2 : St} {e : Exit} (h1 : CodeX P c fr σ .normal fr1 σ1) (h2 : LoopXR P c fr1 σ1 e fr2 σ2) : LoopXR P c fr σ e fr2 σ2 := fun ds => by
 obtain ⟨N1, k1⟩ := h1 ds
 obtain ⟨N2, k2⟩ := h2 ds
 refine ⟨N1 + N2 + 1, fun N m hN hm => ?_⟩
 obtain ⟨m, rfl⟩ : ∃ m', m = m' + 1 := ⟨m - 1, by omega⟩
 simp only [loopB, k1 N (by omega)]
 exact k2 N m (by omega) (by omega)
theorem LoopXR.exit {fr fr1 : Fr} {σ1 : St} {e : Exit} (h1 : CodeX P c fr σ e fr1 σ1) (he : e ≠ .normal) : LoopXR P c fr σ e fr1 σ1 := fun ds => by
 obtain ⟨N1, k1⟩ := h1 ds
 refine ⟨N1 + 1, fun N m hN hm => ?_⟩
 obtain ⟨m, rfl⟩ : ∃ m', m = m' + 1 := ⟨m - 1, by omega⟩
 simp only [loopB, k1 N (by omega)]
 cases e <;> first | rfl | exact absurd rfl he
theorem diedNe (x : Value) : died x ≠ .normal := fun h => by cases h
theorem loopX_inv {T : Type} {lf : T → List (Nat × Value)} {mf : T → List Nat} {Inv : Nat → T → St → Prop} (hne : NeAll alts)
  (hb : ∀ k t σ, Inv k t σ → BodyX P c n (lf t) (mf t) (⟨T, .normal, lf, mf, fun t' σ' => ∃ k', k' < k ∧ Inv k' t' σ'⟩ :: alts) σ) : ∀ k t σ, Inv k t σ → LoopX P c n (lf t) (mf t) alts σ := by
 intro k
 induction k using Nat.strongRecOn with
 | ind k ih =>
  intro t σ hi g
  obtain ⟨e, fr', σ', h1, h2⟩ := hb k t σ hi g
  rcases h2 with ⟨rfl, t', g', rfl, k', hk, hi'⟩ | h2
  ·obtain ⟨e2, fr2, σ2, h3, h4⟩ := ih k' hk t' σ' hi' g'
   exact ⟨e2, fr2, σ2, .step h1 h3, h4⟩
  ·have he : e ≠ .normal := by
    clear h1 ih hb hi
    induction alts with
    | nil => exact h2.elim
    | cons a as ih2 =>
     rcases h2 with ⟨rfl, _⟩ | h2
     ·exact hne.1
     ·exact ih2 hne.2 h2
   exact ⟨e, fr', σ', .exit h1 he, h2⟩
def kAtX (P : Program) : Code → List Nat → (Exit → Fr → St → List Ans → Prop) → Exit → Fr → St → List Ans → Prop
 | .seq x y, 0 :: p, K => kAtX P x p fun e fr σ as => match e with
  | .normal => wpX P y as fr σ K
  | e => K e fr σ as
 | .seq _ y, 1 :: p, K => kAtX P y p K
 | .cond _ x _, 0 :: p, K => kAtX P x p K
 | .cond _ _ y, 1 :: p, K => kAtX P y p K
 | .block id c, 0 :: p, K => kAtX P c p fun e fr σ as => match e with
  | .exit i => match Nat.beq i id with
   | true => K .normal fr σ as
   | false => K (.exit i) fr σ as
  | e => K e fr σ as
 | .scope c, 0 :: p, K => kAtX P c p K
 | _, _, K => K
def wpEndX (P : Program) (fn : Func) (Q QD : Value → St → Prop) : Exit → Fr → St → List Ans → Prop
 | .normal, fr, σ, as => wpDone P fn ⟨fr.f, []⟩ σ as Q
 | .ret, fr, σ, as => wpDone P fn ⟨fr.f, []⟩ σ as Q
 | .panic [{ v := x, recovered := false, goexit := false }], _, σ, _ => QD x σ
 | _, _, _, _ => False
def kFnX (P : Program) (f : FuncId) (Q QD : Value → St → Prop) : Exit → Fr → St → List Ans → Prop := fun e fr σ as =>
 match P.funcs[f]? with
 | some fn => wpEndX P fn Q QD e fr σ as
 | none => False
def wpFnX (P : Program) (f : FuncId) (args : List Value) (as : List Ans) (σ : St) (Q QD : Value → St → Prop) : Prop :=
 match P.funcs[f]? with
 | some fn => match fn.body with
  | some c => wpX P c as ⟨(Tm.args 0 args).foldl (fun f p => f.set p.1 p.2) (fresh (args.length + (fn.ntmps - args.length))), []⟩ σ (wpEndX P fn Q QD)
  | none => False
 | none => False
def RunsX (P : Program) (f : FuncId) (args : List Value) (σ : St) (Q QD : Value → St → Prop) : Prop := (∃ v σ', Runs P f args σ v σ' ∧ Q v σ') ∨ ∃ x σ', DiesR P f args σ x σ' ∧ QD x σ'
theorem runsX_of {f : FuncId} {args : List Value} {Q QD : Value → St → Prop} (as : List Ans) (h : Hid (wpFnX P f args as σ Q QD)) : RunsX P f args σ Q QD := by
 have h := hid h
 unfold wpFnX at h
 split at h
 rotate_left
 ·exact h.elim
 rename_i fn hfn
 split at h
 rotate_left
 ·exact h.elim
 rename_i c hc
 obtain ⟨e, fr, σ₁, as', h1, h2⟩ := wpX_sound _ _ _ _ _ h
 obtain ⟨N0, h1⟩ := h1 []
 have fin : (e = .normal ∨ e = .ret) → wpDone P fn ⟨fr.f, []⟩ σ₁ as' Q → RunsX P f args σ Q QD := by
  intro he hd
  obtain ⟨v, σ', h3, h4⟩ := wpDone_sound hd
  refine .inl ⟨v, σ', ⟨N0 + 1, fun N hN => ?_⟩, h4⟩
  obtain ⟨N, rfl⟩ : ∃ M, N = M + 1 := ⟨N - 1, by omega⟩
  rw [runA_func]
  refine bodyX_ofN ?_
  unfold bodyN
  simp only [hfn, hc, Tm.puts_eq, h1 N (by omega)]
  rcases he with rfl | rfl <;> exact h3
 unfold wpEndX at h2
 split at h2
 ·exact fin (.inl rfl) h2
 ·exact fin (.inr rfl) h2
 ·rename_i x _ _ _
  refine .inr ⟨_, _, ⟨N0 + 1, fun N hN => ?_⟩, h2⟩
  obtain ⟨N, rfl⟩ : ∃ M, N = M + 1 := ⟨N - 1, by omega⟩
  rw [runP_succ]
  unfold bodyP
  simp only [hfn, hc, Tm.puts_eq, h1 N (by omega)]
  rfl
 ·exact h2.elim
end
end Go.Lay

namespace Go.Lay
open Go
def wpDef (P : Program) (C : CallP) (ops : Array Oper) : List Oper → List Ans → Tm → St → (Value → Tm → St → List Ans → Prop) → Prop
 | [], _, _, _, _ => False
 | o :: rest, as, f, σ, K =>
  match guardA ops f o with
  | some true => match rest with
   | [] => match deferB (aeval f) o.op with
    | some d => K d (setO f o.dst undef) σ as
    | none => False
   | _ :: _ => wpOp P C f σ o.op as fun v σ' as => wpDef P C ops rest as (setO f o.dst v) σ' K
  | some false => wpDef P C ops rest as (setO f o.dst undef) σ K
  | none => False
def wpClos (P : Program) (rv d : Value) (as : List Ans) (σ : St) (K : St → List Ans → Prop) : Prop :=
 match refOf d [] with
 | some (.func g, gas) => match P.funcs[g]? with
  | some fn => match fn.body with
   | some (.seq (.region _ ops false) rest) => match ops.toList with
    | o :: os => match recB o.op && o.guard.isNone with
     | true => match pureOps P os (setO ((Tm.args 0 gas).foldl (fun f p => f.set p.1 p.2) (fresh (gas.length + (fn.ntmps - gas.length)))) o.dst rv) with
      | some tm => wpE P (runA P) none rest as ⟨tm, []⟩ σ fun e fr σ as => match fr.marks, resultsA P fn fr.f σ with
       | [], some _ => match e with
        | .normal => K σ as
        | .ret => K σ as
        | _ => False
       | _, _ => False
      | none => False
     | false => False
    | [] => False
   | _ => False
  | none => False
 | _ => False
def wpEndR (P : Program) (fn : Func) (d : Value) (Q : Value → St → Prop) : Exit → Fr → St → List Ans → Prop := fun e fr σ as =>
 match rvOf e with
 | some rv => match rigidB RD rv with
  | true => wpClos P rv d as σ fun σ as => wpRes P fr.f σ fn.results.toList as [] fun vs => Q (oneOf vs) σ
  | false => False
 | none => False
def kFnR (P : Program) (f : FuncId) (d : Value) (Q : Value → St → Prop) : Exit → Fr → St → List Ans → Prop := fun e fr σ as =>
 match P.funcs[f]? with
 | some fn => wpEndR P fn d Q e fr σ as
 | none => False
def wpRecv (P : Program) (f : FuncId) (args : List Value) (as : List Ans) (σ : St) (Q : Value → St → Prop) : Prop :=
 match P.funcs[f]? with
 | some fn => match fn.body with
  | some (.seq (.region _ ops1 d1) (.seq (.region _ ops2 false) rest)) =>
   wpReg P (CallsE (runA P)) ops1 d1 as ⟨(Tm.args 0 args).foldl (fun f p => f.set p.1 p.2) (fresh (args.length + (fn.ntmps - args.length))), []⟩ σ fun e fr σ as => match e with
    | .normal => wpDef P (CallsE (runA P)) ops2 ops2.toList as fr.f σ fun d f σ as => wpX P rest as ⟨f, []⟩ σ (wpEndR P fn d Q)
    | _ => False
  | _ => False
 | none => False
section
variable {P : Program} {σ σ' : St}
theorem defer_opA {rec : Rec} {ev : Operand → Value} {o : Op} {d : Value} (h : deferB ev o = some d) : opA P rec ev σ o = none := by
 unfold deferB at h
 split at h
 ·rfl
 ·cases h
theorem wpDef_lift {ops : Array Oper} : ∀ (rest : List Oper) (as : List Ans) (f : Tm) (σ : St) (K : Value → Tm → St → List Ans → Prop), wpDef P (CallsE (runA P)) ops rest as f σ K →
  ∃ d f' σ' as', K d f' σ' as' ∧ ∃ N0, ∀ N, N0 ≤ N → ∀ ds, opsB P (runA P N) (runP P N) ops rest ⟨f, ds⟩ σ = some (none, ⟨f', d :: ds⟩, σ')
 | [], as, f, σ, K, h => h.elim
 | o :: rest, as, f, σ, K, h => by
  unfold wpDef at h
  split at h
  ·rename_i hg
   split at h
   ·split at h
    ·rename_i d hd
     refine ⟨d, _, σ, as, h, 0, fun N _ ds => ?_⟩
     simp only [opsB, hg, defer_opA hd, hd, putA_eq]
    ·exact h.elim
   ·obtain ⟨v, σ1, as1, h1, N1, k1⟩ := wpOp_lift h
    obtain ⟨d, f', σ', as', h2, N2, k2⟩ := wpDef_lift _ _ _ _ _ h1
    refine ⟨d, f', σ', as', h2, N1 + N2, fun N hN ds => ?_⟩
    obtain ⟨v₁, s₁, a₁, g1, rfl, rfl, rfl⟩ := wpOp_sound (k1 N (by omega))
    rw [opsB]
    simp only [hg, g1, putA_eq]
    exact k2 N (by omega) ds
  ·rename_i hg
   obtain ⟨d, f', σ', as', h2, N2, k2⟩ := wpDef_lift _ _ _ _ _ h
   exact ⟨d, f', σ', as', h2, N2, fun N hN ds => by simp only [opsB, hg, putA_eq]; exact k2 N hN ds⟩
  ·exact h.elim
theorem wpClos_lift {rv d : Value} {as : List Ans} {K : St → List Ans → Prop} (h : wpClos P rv d as σ K) : ∃ g gas σ' as', refOf d [] = some (.func g, gas) ∧ K σ' as' ∧ ∃ N0, ∀ N, N0 ≤ N → closA P (runA P N) N rv g gas σ = some σ' := by
 unfold wpClos at h
 split at h
 rotate_left
 ·exact h.elim
 rename_i g gas href
 split at h
 rotate_left
 ·exact h.elim
 rename_i fn hfn
 split at h
 rotate_left
 ·exact h.elim
 rename_i id ops rest hc
 split at h
 rotate_left
 ·exact h.elim
 rename_i o os hops
 split at h
 rotate_left
 ·exact h.elim
 rename_i hb
 split at h
 rotate_left
 ·exact h.elim
 rename_i tm hp
 obtain ⟨e, fr, σ₁, as₁, ⟨N0, h1⟩, h2⟩ := wpE_sound _ _ _ _ _ h
 split at h2
 rotate_left
 ·exact h2.elim
 rename_i v hm hres
 have key : ∀ N, N0 ≤ N → (e = .normal ∨ e = .ret) → closA P (runA P N) N rv g gas σ = some σ₁ := by
  intro N hl he
  unfold closA
  simp only [hfn, hc, hops, hb, cond_true, Tm.puts_eq, putA_eq, hp, h1 N hl]
  rcases he with rfl | rfl <;> simp only [shutA, hm, hres, Option.map_some]
 split at h2
 ·exact ⟨g, gas, σ₁, as₁, href, h2, N0, fun N hl => key N hl (.inl rfl)⟩
 ·exact ⟨g, gas, σ₁, as₁, href, h2, N0, fun N hl => key N hl (.inr rfl)⟩
 ·exact h2.elim
theorem recvs_of {f : FuncId} {args : List Value} {Q : Value → St → Prop} (as : List Ans) (h : Hid (wpRecv P f args as σ Q)) : RunsQ P f args σ Q := by
 have h := hid h
 unfold wpRecv at h
 split at h
 rotate_left
 ·exact h.elim
 rename_i fn hfn
 split at h
 rotate_left
 ·exact h.elim
 rename_i id1 ops1 d1 id2 ops2 rest hc
 obtain ⟨e1, fr1, σ1, as1, h1, h2⟩ := wpReg_sound (id := id1) (rd := none) h
 split at h2
 rotate_left
 ·exact h2.elim
 obtain ⟨N1, h1⟩ := h1.x []
 obtain ⟨d, f2, σ2, as2, h3, N2, h4⟩ := wpDef_lift _ _ _ _ _ h2
 obtain ⟨e3, fr3, σ3, as3, h5, h6⟩ := wpX_sound _ _ _ _ _ h3
 obtain ⟨N3, h5⟩ := h5 [d]
 unfold wpEndR at h6
 split at h6
 rotate_left
 ·exact h6.elim
 rename_i rv hrv
 split at h6
 rotate_left
 ·exact h6.elim
 rename_i hrig
 obtain ⟨g, gas, σ4, as4, href, h7, N4, h8⟩ := wpClos_lift h6
 obtain ⟨ws, h9, h10⟩ := wpRes_sound _ _ _ _ h7
 rw [List.nil_append] at h10
 refine ⟨oneOf ws, σ4, ⟨N1 + N2 + N3 + N4 + 1, fun N hN => ?_⟩, h10⟩
 obtain ⟨N, rfl⟩ : ∃ M, N = M + 1 := ⟨N - 1, by omega⟩
 have hcode : codeB P (runA P N) (runP P N) N (.seq (.region id1 ops1 d1) (.seq (.region id2 ops2 false) rest)) ⟨(Tm.args 0 args).foldl (fun f p => f.set p.1 p.2) (fresh (args.length + (fn.ntmps - args.length))), []⟩ σ = some (e3, ⟨fr3.f, [d]⟩, σ3) := by
  have k1 := h1 N (by omega)
  have k2 : codeB P (runA P N) (runP P N) N (.region id2 ops2 false) ⟨fr1.f, []⟩ σ1 = some (.normal, ⟨f2, [d]⟩, σ2) := by
   simp only [codeB, regionB, h4 N (by omega) []]; rfl
  have k3 := h5 N (by omega)
  rw [codeB]
  unfold seqB
  rw [k1]
  simp only
  rw [codeB]
  unfold seqB
  rw [k2]
  exact k3
 have hres : resultsA P fn fr3.f σ4 = some (oneOf ws) := by
  unfold resultsA
  rw [h9]
  match ws with
  | [] => rfl
  | [v] => rfl
  | _ :: _ :: _ => rfl
 have hrecv : recvA P (runA P N) (runP P N) N f args σ = some (oneOf ws, σ4) := by
  unfold recvA
  simp only [hfn, hc, Tm.puts_eq, hcode, recEnd, href, hrv, hrig, cond_true, h8 N (by omega), hres, fV_eq]
 have hF : bodyF P (runA P N) N f args σ = none := by
  unfold bodyF
  simp only [hfn, hc, Tm.puts_eq]
  cases hA : codeA P (runA P N) N none (.seq (.region id1 ops1 d1) (.seq (.region id2 ops2 false) rest)) ⟨(Tm.args 0 args).foldl (fun f p => f.set p.1 p.2) (fresh (args.length + (fn.ntmps - args.length))), []⟩ σ with
  | none => rfl
  | some r =>
   obtain ⟨e', fr', τ⟩ := r
   rcases code_agree (prec := runP P N) N [] _ _ _ _ _ _ hA with g | ⟨g, _⟩
   ·rw [g] at hcode; cases hcode
   ·rw [g] at hcode
    simp at hcode
 rw [runA_func]
 unfold bodyX
 rw [hF]
 simp only [hrecv]
end
end Go.Lay

namespace Go.Lay
open Go
section
variable {P : Program} {σ τ : St}
def ArgS (σ : St) (n : Nat) (p : Option Addr) (len c : Nat) : Prop :=
 (p = none ∧ len = 0 ∧ c = 0) ∨ ∃ b rs nx ro, p = some ⟨b, 0, none⟩ ∧ len ≤ c ∧ capExact c = true ∧ getB σ.heap b = some (.cells rs n [(0, rs.length)] nx ro) ∧ rs.length = len * n ∧ b < σ.q
theorem ArgS.le {n len c : Nat} {p : Option Addr} (h : ArgS σ n p len c) (k : Le σ τ) : ArgS τ n p len c := by
 rcases h with h | ⟨b, rs, nx, ro, h1, h2, h3, h4, h5, h6⟩
 ·exact .inl h
 ·exact .inr ⟨b, rs, nx, ro, h1, h2, h3, by rw [k.get b h6]; exact h4, h5, Nat.lt_of_lt_of_le h6 k.q⟩
theorem capLow_ex {c : Nat} (h : capExact c = true) : capLow c = c := by
 have := (capExact_iff c).1 h
 unfold capLow; rw [if_neg (by omega)]
theorem bound_some {k : IntKind} {x d top : Nat} {i : Int} (hi : i = (x : Int)) (h : x ≤ top) : boundA (some (.int k i)) d top = some x := by
 subst hi
 have h1 : leI 0 (x : Int) = true := (leI_iff _ _).2 (by omega)
 have h2 : leI (x : Int) (.ofNat top) = true := (leI_iff _ _).2 (by show (x : Int) ≤ (top : Int); omega)
 show (bif leI 0 (x : Int) && leI (x : Int) (.ofNat top) then some (x : Int).toNat else none) = some x
 rw [h1, h2]; rfl
def partP (p : Option Addr) (n lo c : Nat) : Option Addr := match p with | none => none | some a => some (bif Nat.beq c lo then a else aadd a (lo * n))
theorem ArgS.part {n len c t e lo hi : Nat} {p : Option Addr} {vs : List Value} {lo' hi' : Option Value} (h : ArgS σ n p len c) (hv : SlV P σ e n p len vs) (hu : P.underlying t = some (.slice e)) (hs : sizeT P e = some n)
  (hlo : boundA lo' 0 hi = some lo) (hhi : boundA hi' len c = some hi) (h1 : lo ≤ hi) (h2 : hi ≤ len) :
  sliceA P σ t (.slice p len c) lo' hi' none = some (.slice (partP p n lo c) (hi - lo) (c - lo)) ∧ SlV P σ e n (partP p n lo c) (hi - lo) ((vs.drop lo).take (hi - lo)) ∧ (∀ a, partP p n lo c = some a → a.block < σ.q) := by
 have hel : ∀ v ∈ (vs.drop lo).take (hi - lo), elOk P e n v := fun v hv' => hv.2.2 v (List.mem_of_mem_drop (List.mem_of_mem_take hv'))
 have hvl := hv.2.1
 have hln : ((vs.drop lo).take (hi - lo)).length = hi - lo := by simp [hvl]; omega
 rcases h with ⟨rfl, rfl, rfl⟩ | ⟨b, rs, nx, ro, rfl, hc1, hc2, hg, hrl, hb⟩
 ·have e1 : hi = 0 := by omega
  have e2 : lo = 0 := by omega
  subst e1 e2
  have hx : capExact 0 = true := (capExact_iff 0).2 inex_pos
  refine ⟨?_, ⟨?_, hln, hel⟩, by simp [partP]⟩
  ·simp [sliceA, hu, hs, hx, sliceNums, hlo, hhi, partP]
  ·have : (vs.drop 0).take (0 - 0) = [] := by simp
   rw [this]; exact SlP.nil _ _
 ·have hL := capLow_ex hc2
  have hok : eszOk σ ⟨b, 0, none⟩ n = true := by simp [eszOk, hg, stampOf, extOf]
  have hle : Nat.ble lo c = true := (ble_iff _ _).2 (by omega)
  have hr0 : Row σ ⟨b, 0, none⟩ [] := by
   refine ⟨?_, hb⟩
   have hbl : Nat.ble 0 rs.length = true := (ble_iff _ _).2 (Nat.zero_le _)
   show readRow σ ⟨b, 0, none⟩ 0 = some []
   simp only [readRow, hg, stampOf, Option.getD_none, extOf, Nat.beq_refl, cond_true, Nat.zero_add, hbl, List.take_zero]
  have hr : Row σ ⟨b, 0, none⟩ (flat vs) := by
   rcases Nat.eq_zero_or_pos len with h0 | h0
   ·have : vs = [] := List.eq_nil_of_length_eq_zero (by omega)
    subst this
    exact hr0
   ·obtain ⟨a, e, h⟩ := hv.1.some h0
    cases e; exact h
  have hfl : (flat vs).length = len * n := by rw [flat_len hv.2.2, hvl]
  have hle2 : lo * n + (hi - lo) * n ≤ len * n := by
   rw [← Nat.add_mul]; exact Nat.mul_le_mul_right _ (by omega)
  have hpart : ((flat vs).drop (lo * n)).take ((hi - lo) * n) = flat ((vs.drop lo).take (hi - lo)) := by
   have key : ∀ (ws : List Value) (k : Nat), (∀ v ∈ ws, elOk P e n v) → k ≤ ws.length → flat (ws.take k) = (flat ws).take (k * n) ∧ flat (ws.drop k) = (flat ws).drop (k * n) := by
    intro ws k hw hk
    have h1 : flat ws = flat (ws.take k) ++ flat (ws.drop k) := by rw [← flat_append, List.take_append_drop]
    have h2 : (flat (ws.take k)).length = k * n := by
     rw [flat_len (fun v hv => hw v (List.mem_of_mem_take hv)), List.length_take, Nat.min_eq_left hk]
    constructor
    ·rw [h1, ← h2, List.take_left]
    ·rw [h1, ← h2, List.drop_left]
   rw [← (key vs lo hv.2.2 (by omega)).2, ← (key (vs.drop lo) (hi - lo) (fun v hv' => hv.2.2 v (List.mem_of_mem_drop hv')) (by simp [hvl]; omega)).1]
  refine ⟨?_, ⟨?_, hln, hel⟩, ?_⟩
  ·simp only [sliceA, hu, hs, hok, cond_true, sliceNums, hL, hhi, hlo, hc2, Bool.or_true, hle, Option.isSome_none, Bool.false_or, partP]
  ·show SlP σ n (some (bif Nat.beq c lo then ⟨b, 0, none⟩ else aadd ⟨b, 0, none⟩ (lo * n))) (hi - lo) _
   cases hbq : Nat.beq c lo with
   | true =>
    have e1 := Nat.eq_of_beq_eq_true hbq
    have e2 : hi - lo = 0 := by omega
    rw [cond_true, e2]
    have : (vs.drop lo).take 0 = [] := by simp
    rw [this]
    exact ⟨by simp [flat], hr0⟩
   | false =>
    rw [cond_false]
    refine ⟨by rw [← hpart, List.length_take, List.length_drop, hfl]; omega, ?_⟩
    rw [← hpart]
    have := hr.part (k := lo * n) (m := (hi - lo) * n) (by omega)
    exact this
  ·rintro a e
   have e : some (bif Nat.beq c lo then (⟨b, 0, none⟩ : Addr) else aadd ⟨b, 0, none⟩ (lo * n)) = some a := e
   cases hbq : Nat.beq c lo <;> rw [hbq] at e <;> cases e <;> exact hb
end
end Go.Lay

namespace Go.Lay
open Go
section
variable {P : Program}
theorem pv_bind {α β : Type} (x : Sem α) (f : α → Sem β) : pureVal P (x >>= f) = (pureVal P x).bind fun a => pureVal P (f a) := by
 induction x with
 | pure a => rfl
 | program k ih => exact ih P
 | _ => rfl
theorem pv_pure {α : Type} (a : α) : pureVal P (pure a : Sem α) = some a := rfl
theorem pv_prog : pureVal P program = some P := rfl
theorem pv_under {t : TypeId} {d : TypeDesc} (h : P.underlying t = some d) : pureVal P (underlying t) = some d := by
 unfold underlying
 rw [pv_bind, pv_prog]
 simp only [Option.bind_some, h]
 rfl
theorem pv_isAgg {t : TypeId} {k : IntKind} (h : P.underlying t = some (.int k)) : pureVal P (isAgg t) = some false := by
 unfold isAgg
 rw [pv_bind, pv_under h]
 rfl
theorem pv_part {t : TypeId} {k : IntKind} (h : P.underlying t = some (.int k)) {cs : Array Value} {off : Nat} {v : Value} (hv : cs[off]? = some v) : pureVal P (part t cs off) = some v := by
 unfold part
 rw [pv_bind, pv_isAgg h]
 simp only [Option.bind_some, Bool.false_eq_true, if_false, hv]
 rfl
theorem pv_equal_int {d : Nat} {t : TypeId} {k : IntKind} (h : P.underlying t = some (.int k)) (q : IntKind) (a b : Int) : pureVal P (Op.equalIn (d + 1) t (.int q a) (.int q b)) = some (a == b) := by
 unfold Op.equalIn
 rw [pv_bind, pv_under h]
 simp only [Option.bind_some, if_true]
 rfl
def intFs (P : Program) : Nat → List Field → Bool
 | _, [] => true
 | i, f :: fs => (match P.underlying f.type with | some (.int _) => true | _ => false) && Nat.beq f.offset i && (f.name != "_") && intFs P (i + 1) fs
theorem int_field {f : Field} (h : (match P.underlying f.type with | some (.int _) => true | _ => false) = true) : ∃ k, P.underlying f.type = some (.int k) := by
 split at h
 ·exact ⟨_, by assumption⟩
 ·cases h
theorem pv_fields {d : Nat} {xs ys : Array Value} {q : Nat → IntKind} : ∀ (fs : List Field) (i : Nat) (as bs : List Int), intFs P i fs = true → as.length = fs.length → bs.length = fs.length → (∀ j x, as[j]? = some x → xs[i + j]? = some (.int (q (i + j)) x)) → (∀ j x, bs[j]? = some x → ys[i + j]? = some (.int (q (i + j)) x)) →
  pureVal P (forIn fs ((none, ()) : Option Bool × Unit) fun f __s =>
   if f.name ≠ "_" then do
    let a ← part f.type xs f.offset
    let b ← part f.type ys f.offset
    let r ← Op.equalIn (d + 1) f.type a b
    if (!r) = true then pure (ForInStep.done (some false, ())) else pure (ForInStep.yield (none, ()))
   else pure (ForInStep.yield (none, ()))) = some (if as = bs then (none, ()) else (some false, ()))
 | [], i, as, bs, _, ha, hb, _, _ => by
  have h1 : as = [] := by simpa using ha
  have h2 : bs = [] := by simpa using hb
  subst h1 h2; rfl
 | f :: fs, i, [], bs, _, ha, _, _, _ => by simp at ha
 | f :: fs, i, a :: as, [], _, _, hb, _, _ => by simp at hb
 | f :: fs, i, a :: as, b :: bs, h, ha, hb, hx, hy => by
  simp only [intFs, Bool.and_eq_true] at h
  obtain ⟨⟨⟨h1, h2⟩, h3⟩, h4⟩ := h
  obtain ⟨ku, hu⟩ := int_field h1
  have ho := Nat.eq_of_beq_eq_true h2
  have hn : f.name ≠ "_" := by simpa using h3
  have ea : xs[f.offset]? = some (.int (q i) a) := by rw [ho]; simpa using hx 0 a rfl
  have eb : ys[f.offset]? = some (.int (q i) b) := by rw [ho]; simpa using hy 0 b rfl
  rw [List.forIn_cons, pv_bind]
  simp only [if_pos hn]
  rw [pv_bind, pv_part hu ea]
  simp only [Option.bind_some]
  rw [pv_bind, pv_part hu eb]
  simp only [Option.bind_some]
  rw [pv_bind, pv_equal_int hu]
  simp only [Option.bind_some]
  by_cases e : a = b
  ·subst e
   simp only [beq_self_eq_true, Bool.not_true, Bool.false_eq_true, if_false, pv_pure, Option.bind_some]
   have ih := pv_fields (d := d) (xs := xs) (ys := ys) fs (i + 1) as bs h4 (by simpa using ha) (by simpa using hb) (fun j x hj => by have := hx (j + 1) x (by simpa using hj); rwa [show i + (j + 1) = i + 1 + j by omega] at this) (fun j x hj => by have := hy (j + 1) x (by simpa using hj); rwa [show i + (j + 1) = i + 1 + j by omega] at this)
   rw [ih]
   by_cases e2 : as = bs
   ·rw [if_pos e2, if_pos (by rw [e2])]
   ·rw [if_neg e2, if_neg (by simpa using e2)]
  ·have e1 : (a == b) = false := by simpa using e
   simp only [e1, Bool.not_false, if_true, pv_pure, Option.bind_some]
   rw [if_neg (by intro k; exact e (by cases k; rfl))]
def intRec (P : Program) (t n : Nat) : Bool := match P.underlying t with
 | some (.struct fs) => intFs P 0 fs.toList && Nat.beq fs.size n && !P.stoodInHeld t
 | _ => false
theorem pv_recK {t n d : Nat} (q : Nat → IntKind) (h : intRec P t n = true) {as bs : List Int} {xs ys : Array Value} (ha : as.length = n) (hb : bs.length = n) (hx : ∀ (j : Nat) (x : Int), as[j]? = some x → xs[j]? = some (Value.int (q j) x)) (hy : ∀ (j : Nat) (x : Int), bs[j]? = some x → ys[j]? = some (Value.int (q j) x)) : pureVal P (Op.equalIn (d + 2) t (.agg xs) (.agg ys)) = some (decide (as = bs)) := by
 unfold intRec at h
 split at h
 rotate_left
 ·cases h
 rename_i fs hu
 simp only [Bool.and_eq_true, Bool.not_eq_true'] at h
 obtain ⟨⟨h1, h2⟩, h3⟩ := h
 have h2 := Nat.eq_of_beq_eq_true h2
 have hl : fs.toList.length = n := by simpa using h2
 have key := pv_fields (d := d) (xs := xs) (ys := ys) (q := q) fs.toList 0 as bs h1 (by omega) (by omega) (fun j x hj => by simpa using hx j x hj) (fun j x hj => by simpa using hy j x hj)
 unfold Op.equalIn
 rw [pv_bind, pv_under hu]
 simp only [Option.bind_some]
 rw [pv_bind, pv_prog]
 simp only [Option.bind_some, h3, Bool.false_eq_true, if_false]
 rw [pv_bind, ← Array.forIn_toList]
 rw [key]
 simp only [Option.bind_some]
 by_cases e : as = bs
 ·rw [if_pos e]; simp [e]; rfl
 ·rw [if_neg e]; simp [e]; rfl
section
variable {κ α : Type} [DecidableEq κ] {σ τ : St} {b kt et mt : Nat} {enc : κ → Value} {vf : α → Value} {F : κ → Option α}
end
end
end Go.Lay

namespace Go.Lay
open Go
section
variable {P : Program} {S : Nat → Prop} {z z' : St} {n0 len c len' c' : Nat} {p p' : Option Addr} {xs xs' : List Value} {sf sf' : List (Nat × Nat)}
end
end Go.Lay
