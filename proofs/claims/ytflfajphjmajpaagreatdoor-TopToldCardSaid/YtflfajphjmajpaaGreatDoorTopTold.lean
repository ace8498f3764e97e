/- Proved: the statement TopToldCard returns true, whatever its arguments; no condition. -/

import Derived.Test.YtflfajphjmajpaaGreatDoorCards
import Derived.Test.YtflfajphjmajpaaGreatDoorTie
import Derived.Test.YtflfajphjmajpaaGreatDoorDA
import Derived.Test.YtflfajphjmajpaaGreatDoorAw
import Derived.WalkKit
import Derived.ProofKit
import Derived.OpenShut
import Derived.Deep.DeepHandedRow
import Derived.LaidMore
namespace Go.Proofs.YtflfajphjmajpaaGreatDoor.topTold
open Go.ChangeShapes Go.WideShapes Go.ChangeAt Go.RowKit
open Go.Lay
theorem own:ownKnob Tryz.prog.godebug=none:=by kernel_rfl
theorem xWM:Kids Tryz.prog (· < Tryz.prog.types.size):=kids_rows (by kernel_rfl) (by kernel_rfl)
theorem xWN:∀ (t:Nat) (e:TypeId),t<Tryz.prog.types.size->Tryz.prog.underlying t=some (.slice e)->0<Tryz.prog.cellsOf e:=slices_full_of Tryz.prog (by kernel_rfl)
theorem xXM:∀ t∈([24,25,26]:List TypeId),t<Tryz.prog.types.size:=of_decide_eq_true (by kernel_rfl)
theorem yKB {H:Type} {enc:TypeId × Value->H} {w:World} {b:Nat} {sp:Nat->Bool} {held:Bool}:∀ {ts:List TypeId} {vs:List Value} {ds:List (DataW H)} {ps:List MemPlace},DataW.TrodAll enc Tryz.prog w b sp held ts vs ds ps->vs.length=ts.length/\ds.length=ts.length
 | [],[],[],_,_=>⟨rfl,rfl⟩
 | _::_,_::_,_::_,_,⟨_,_,_,h,_⟩=>by have:=yKB h;simp [this.1,this.2]
 | [],_::_,_,_,h=>h.elim
 | [],[],_::_,_,h=>h.elim
 | _::_,[],_,_,h=>h.elim
 | _::_,_::_,[],_,h=>h.elim
theorem xTG {H:Type} {enc:TypeId × Value->H} {w:World} {b:Nat} {sp:Nat->Bool} {held:Bool} {vs:List Value} {ds:List (DataW H)} {ps:List MemPlace} (h:DataW.TrodAll enc Tryz.prog w b sp held [24,25,26] vs ds ps):∃ v1 v2 v3 d1 d2 d3,vs=[v1,v2,v3]/\ds=[d1,d2,d3]:=by
 obtain ⟨h1,h2⟩:=yKB h;match vs,ds,h1,h2 with
 | [v1,v2,v3],[d1,d2,d3],_,_=>exact ⟨v1,v2,v3,d1,d2,d3,rfl,rfl⟩
theorem xVW {V:Inj} {v1 v2 v3:Value}:∀ {avs:List Value},VRs V avs [v1,v2,v3]->∃ a1 a2 a3,avs=[a1,a2,a3]/\VR V a1 v1/\VR V a2 v2/\VR V a3 v3
 | [a1,a2,a3],(.cons y1 (.cons y2 (.cons y3 .nil)))=>⟨a1,a2,a3,rfl,y1,y2,y3⟩
set_option maxRecDepth 100000 in
theorem walk {H:Type} {enc:TypeId × Value->H} {W:World} {v1 v2 v3:Value} {ds:List (DataW H)} {ps:List MemPlace} (hA:DataW.TrodAll enc Tryz.prog W 0 (fun _=>true) true [24,25,26] [v1,v2,v3] ds ps)
  (ok1:Value.okWide Tryz.prog W .any 0 24 v1) (ok2:Value.okWide Tryz.prog W .any 0 25 v2) (ok3:Value.okWide Tryz.prog W .any 0 26 v3) :
  Calls Tryz.prog 3 ⟨[v1,v2,v3]⟩ W fun e w'=>e=.returned (.bool true)/\GrownO W w':=by
 obtain ⟨hr,ho⟩:=xHN W;obtain ⟨V,Z,avs,r1,o1,_,_,v1',w1⟩:=yLN (n:=6) hA (by simp only [List.mem_cons,List.not_mem_nil,or_false];rintro t (rfl | rfl | rfl) <;> kernel_rfl) hr ho (by simp only [List.mem_cons,List.not_mem_nil,or_false];rintro v (rfl | rfl | rfl) <;> first | exact zTA ok1 | exact zTA ok2 | exact zTA ok3);obtain ⟨a1,a2,a3,rfl,y1,y2,y3⟩:=xVW v1' ;obtain ⟨T,A,B,C,e0,h0⟩:=xTE w1.1;have k0:=xEJ e0;subst k0;obtain ⟨p1,l1,c1,x1,e1,h1⟩:=xOL w1.2.1;have k1:=yPN e1 (yYS y2 (xTJ Tryz.underlying25 ok2));subst k1;obtain ⟨x2,e2⟩:=xTD w1.2.2.1;have k2:=xEK e2 (yYS y3 (xQE Tryz.underlying26 ok3));subst k2;exact yCY.walk zVH Aw.shut (xBU h0 h1) r1 o1 (.cons y1 (.cons y2 (.cons y3 .nil)))
set_option maxRecDepth 100000 in
theorem xLZ (H:Type) (enc:TypeId × Value->H) (W:World) (base:Nat) (args:Array Value) (ds gs:List (DataW H)) (before:List MemPlace)
  (hval0:∀ (j:Nat) t v,Tryz.f3.params[j]?=some t->args[j]?=some v->Value.okWide Tryz.prog W .any base t v)
  (hW:DataW.Whole enc Tryz.prog Tryz.f3.params.toList Rows.topToldSpec.vars false W args.toList ds gs before) :
  Calls Tryz.prog 3 args W fun e W'=>∃ v,e=.returned v/\Rows.topToldSpec.post enc Tryz.prog Tryz.f3 false true false false W args v W':=by
 have hval:∀ (j:Nat) t v,Tryz.f3.params[j]?=some t->args[j]?=some v->Value.okWide Tryz.prog W .any base t v:=hval0;have hW':=hW;obtain ⟨p,q,hA0,hV,rfl,hfz,hnd⟩:=hW;have hA:DataW.TrodAll enc Tryz.prog W 0 (fun _=>true) true Tryz.f3.params.toList args.toList ds p:=hA0;rw [Tryz.params3] at hA hval;obtain ⟨v1,v2,v3,d1,d2,d3,hargs,rfl⟩:∃ v1 v2 v3 d1 d2 d3,args=#[v1,v2,v3]/\ds=[d1,d2,d3]:=by
  obtain ⟨v1,v2,v3,d1,d2,d3,h1,h2⟩:=xTG hA;exact ⟨v1,v2,v3,d1,d2,d3,by cases args;simp at h1;rw [h1],h2⟩
 subst hargs;obtain ⟨rfl,rfl⟩:=trodVars_none hV;clear hA0 hval0;simp only [List.append_nil] at hW';refine (walk hA (hval 0 24 v1 rfl rfl) (hval 1 25 v2 rfl rfl) (hval 2 26 v3 rfl rfl)).mono fun e W' ⟨he,hg⟩=>?_
 subst he;have hlt:∀ x∈p,x.block<W.heap.size:=fun x hx=>hW'.lt x (by simpa using hx)
 exact ⟨_,rfl,[d1,d2,d3],[],p,[],p,[],hW',trodAll_cons_mk (shut_bool Tryz.underlying4 _) trodAll_mk0,xEN xWM xWN xXM hA hg hlt (fun x hx=>by simpa using hlt x hx),rfl,hg.frame _,fun h=>by cases h⟩
def xUZ:List Value:=([128,191,160,191,128,159,144,191,128,143,0,0,0,0,0,0,0,0,0,0,0,0,0,0,0,0,0,0,0,0,0,0]:List Int).map fun n=>.int .u8 n
def xVA:List Value:=Go.Pinned.utf8FirstZ.map fun n:Nat=>.int .u8 (n:Int)
def yME (cs:List Value):Obj->Obj
 | .cells _ t f=>.cells ⟨cs⟩ t f
 | o=>o
noncomputable def xJR (os:Os):Array Obj:=((World.holding Tryz.prog os ⟨#[],#[],[]⟩).heap.modify 2 (yME xUZ)).modify 1 (yME xVA)
noncomputable def zSL (os:Os):World:={ World.holding Tryz.prog os ⟨#[],#[],[]⟩ with heap:=xJR os }
theorem xJQ (os:Os):laidMet Tryz.prog Rows.topToldRow.laid ((zSL os).forCall (fun _ _=>0) ⟨#[],#[.agg #[.int .i64 0,.slice none 0 0,.slice none 0 0,.slice none 0 0,.int .i64 0],.slice none 0 0,.int .u64 0],[]⟩).memory :=
 laidMet_of_run' 8 (by kernel_rfl) (by kernel_rfl)
theorem reads (os:Os) {H:Type} (enc:TypeId × Value->H):∃ places,DataW.whole enc Tryz.prog ((zSL os).forCall (fun _ _=>0) ⟨#[],#[.agg #[.int .i64 0,.slice none 0 0,.slice none 0 0,.slice none 0 0,.int .i64 0],.slice none 0 0,.int .u64 0],[]⟩).memory Tryz.f3.params.toList Rows.topToldSpec.vars false (#[.agg #[.int .i64 0,.slice none 0 0,.slice none 0 0,.slice none 0 0,.int .i64 0],.slice none 0 0,.int .u64 0]:Array Value).toList 8=some ([.agg [.lit (.int .i64 0),.nil,.nil,.nil,.lit (.int .i64 0)],.nil,.lit (.int .u64 0)],[],places) :=
 ⟨[],by kernel_rfl⟩
set_option maxRecDepth 100000 in
theorem xUI (os:Os) (started:os.Started) (H:Type) (enc:TypeId × Value->H) (F:Stop.Interp) :
  ReturnsInHanded {} Tryz.checked os 3 .any ((OpenSpec.ofChange Rows.topToldSpec).preRow enc Tryz.prog Tryz.f3 Rows.topToldRow.domain false Rows.topToldRow.laid) (((OpenSpec.ofChange Rows.topToldSpec).at F).post enc Tryz.prog Tryz.f3 false true false false):=by
 obtain ⟨places,hx⟩:=reads os enc;refine returnsInHanded_of_row (C:=Tryz.checked) (s:=OpenSpec.ofChange Rows.topToldSpec) own started (by kernel_rfl) Tryz.func3
  (witness_row_at (enc:=enc) (C:=Tryz.checked) false (zSL os) #[.agg #[.int .i64 0,.slice none 0 0,.slice none 0 0,.slice none 0 0,.int .i64 0],.slice none 0 0,.int .u64 0] rfl (by kernel_rfl) (by kernel_rfl) (by kernel_rfl)
   (OpenSpec.preRow_of_cond 8 hx (by kernel_rfl) (fun k hk=>by cases hk) (by kernel_rfl) (xJQ os))) ?_
 intro W base args ds gs before hval hW _ _ _ _ _ _;exact xLZ H enc W base args ds gs before hval hW
theorem over:Rows.TopToldSaid :=
 OpenClaim.holds_of_cond 3 Tryz.f3 rfl rfl rfl rfl rfl rfl rfl ⟨rfl,rfl,rfl,rfl,rfl⟩ rfl rfl rfl rfl rfl (by kernel_rfl) Tryz.func3 (by kernel_rfl)
  (of_decide_eq_true (by kernel_rfl)) (by unfold Func.isWrapper;first | (rw [if_pos (by decide +kernel)];kernel_rfl) | (rw [if_neg (by decide +kernel)];exact ⟨rfl,rfl⟩))
  (fun os started H enc _ F=>by rw [OpenClaim.pre_eq_preRow];exact xUI os started H enc F)
theorem plain (f : FuncId) (fn : Func) (hf : Tryz.pinned.checked.prog.funcNamed "layover/layovertop.TopTold" = some f) (hfn : Tryz.pinned.checked.prog.funcs[f]? = some fn) :
  true=Tryz.pinned.checked.prog.looks []/\∀ (j:Nat) t,fn.params[j]?=some t->Tryz.pinned.checked.prog.wantsStandIn t=false:=by
 obtain rfl : f = 3 := Option.some.inj ((show Tryz.prog.funcNamed "layover/layovertop.TopTold" = some 3 by kernel_rfl).symm.trans hf) |>.symm
 obtain rfl:fn=Tryz.f3:=(Option.some.inj (Tryz.func3.symm.trans hfn)).symm;refine ⟨by kernel_rfl,fun j t ht=>?_⟩
 rw [Tryz.params3] at ht;have hm:t∈([24,25,26]:List TypeId):=by simpa using Array.mem_of_getElem? ht
 have hall:(([24,25,26]:List TypeId).all fun u=>!Tryz.prog.wantsStandIn u)=true:=by kernel_rfl
 exact (show Tryz.prog.wantsStandIn t=false by simpa using List.all_eq_true.1 hall t hm)
theorem proved:Rows.TopToldCardSaid :=
 Claim7.holds_tied_plain_at .later [] _ _ _ _ over (fun _ h=>by cases h) (by kernel_rfl) (fun _ h=>by cases h) topTold_row_tie rfl ⟨rfl,rfl⟩ (by kernel_rfl) rfl plain (by kernel_rfl)
#print axioms proved
end Go.Proofs.YtflfajphjmajpaaGreatDoor.topTold
