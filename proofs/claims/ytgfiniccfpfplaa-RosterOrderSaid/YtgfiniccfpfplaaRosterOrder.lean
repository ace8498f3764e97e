/- Proved: the statement RosterOrder returns true, whatever its arguments; no condition. -/

import Derived.Test.YtgfiniccfpfplaaRows
import Derived.Test.YtgfiniccfpfplaaDA
import Derived.Test.YtgfiniccfpfplaaAw
import Derived.WalkKit
import Derived.ProofKit
import Derived.OpenShut
namespace Go.Proofs.Ytgfiniccfpfplaa.rosterOrder
open Go.ChangeShapes Go.WideShapes Go.ChangeAt Go.RowKit
open Go.Lay
theorem own:ownKnob Try.prog.godebug=none:=by kernel_rfl
theorem xXC:Kids Try.prog (· < Try.prog.types.size):=kids_rows (by kernel_rfl) (by kernel_rfl)
theorem xXD:∀ (t:Nat) (e:TypeId),t<Try.prog.types.size→Try.prog.underlying t=some (.slice e)→0<Try.prog.cellsOf e:=slices_full_of Try.prog (by kernel_rfl)
theorem xYF:∀ t∈([25,26,5]:List TypeId),t<Try.prog.types.size:=of_decide_eq_true (by kernel_rfl)
theorem yJO {H:Type} {enc:TypeId × Value→H} {w:World} {b:Nat} {sp:Nat→Bool} {held:Bool}:∀ {ts:List TypeId} {vs:List Value} {ds:List (DataW H)} {ps:List MemPlace},DataW.TrodAll enc Try.prog w b sp held ts vs ds ps→vs.length=ts.length∧ds.length=ts.length
 | [],[],[],_,_=>⟨rfl,rfl⟩
 | _::_,_::_,_::_,_,⟨_,_,_,h,_⟩=>by have:=yJO h;simp [this.1,this.2]
 | [],_::_,_,_,h=>h.elim
 | [],[],_::_,_,h=>h.elim
 | _::_,[],_,_,h=>h.elim
 | _::_,_::_,[],_,h=>h.elim
theorem xUG {H:Type} {enc:TypeId × Value→H} {w:World} {b:Nat} {sp:Nat→Bool} {held:Bool} {vs:List Value} {ds:List (DataW H)} {ps:List MemPlace} (h:DataW.TrodAll enc Try.prog w b sp held [25,26,5] vs ds ps):∃ v1 v2 v3 d1 d2 d3,vs=[v1,v2,v3]∧ds=[d1,d2,d3]:=by
 obtain ⟨h1,h2⟩:=yJO h;match vs,ds,h1,h2 with
 | [v1,v2,v3],[d1,d2,d3],_,_=>exact ⟨v1,v2,v3,d1,d2,d3,rfl,rfl⟩
theorem xWR {ι:Inj} {v1 v2 v3:Value}:∀ {avs:List Value},VRs ι avs [v1,v2,v3]→∃ a1 a2 a3,avs=[a1,a2,a3]∧VR ι a1 v1∧VR ι a2 v2∧VR ι a3 v3
 | [a1,a2,a3],(.cons y1 (.cons y2 (.cons y3 .nil)))=>⟨a1,a2,a3,rfl,y1,y2,y3⟩
set_option maxRecDepth 100000 in
theorem walk {H:Type} {enc:TypeId × Value→H} {W:World} {v1 v2 v3:Value} {ds:List (DataW H)} {ps:List MemPlace} (hA:DataW.TrodAll enc Try.prog W 0 (fun _=>true) true [25,26,5] [v1,v2,v3] ds ps)
  (ok1:Value.okWide Try.prog W .any 0 25 v1) (ok2:Value.okWide Try.prog W .any 0 26 v2) (ok3:Value.okWide Try.prog W .any 0 5 v3) :
  Calls Try.prog 5 ⟨[v1,v2,v3]⟩ W fun e w'=>e=.returned (.bool true)∧Grown W w':=by
 obtain ⟨hr,ho⟩:=xGX W;obtain ⟨ι,σ,avs,r1,o1,_,_,v1',w1⟩:=yLT (n:=6) hA (by simp only [List.mem_cons,List.not_mem_nil,or_false];rintro t (rfl | rfl | rfl) <;> kernel_rfl) hr ho (by simp only [List.mem_cons,List.not_mem_nil,or_false];rintro v (rfl | rfl | rfl) <;> first | exact zRO ok1 | exact zRO ok2 | exact zRO ok3);obtain ⟨a1,a2,a3,rfl,y1,y2,y3⟩:=xWR v1';obtain ⟨w0,p0,q0,l0,c0,m0,d0,e0,h0,ag0,av0⟩:=xOJ w1.1;have k0:a1=.agg ⟨wkc w0.M p0 l0 c0 q0 m0 d0 w0.rest w0.run w0.j⟩:=by
  cases a1 with
  | agg cs=>cases cs;simp [Value.cells] at e0;rw [e0]
  | _=>simp [Value.cells] at e0
 subst k0;obtain ⟨p1,l1,c1,x1,e1,h1,b1⟩:=xFR w1.2.1;have k1:=yOF e1 (yXY y2 (xUH Try.underlying26 ok2));subst k1;obtain ⟨x2,e2,h2⟩:=xTF w1.2.2.1;have k2:=xEL e2 (yXY y3 (xQW Try.underlying5 ok3));subst k2;exact yIQ.walk zAZ Aw.shut (yTG h0 ag0 h1 b1 h2) r1 o1 (.cons y1 (.cons y2 (.cons y3 .nil)))
set_option maxRecDepth 100000 in
theorem xVN (os:Os) (started:os.Started) (H:Type) (enc:TypeId × Value→H) :
  ReturnsInHanded {} Try.checked os 5 .any (Rows.rosterOrderSpec.pre6 enc Try.prog Try.f5 Rows.rosterOrderRow.domain false) (Rows.rosterOrderSpec.post enc Try.prog Try.f5 false true false false):=by
 refine returnsInHanded_of_change (C:=Try.checked) own started (by kernel_rfl) Try.func5
  (ChangeSpec.witness6 (enc:=enc) (C:=Try.checked) false ⟨#[],#[.agg #[.int .i64 0,.slice none 0 0,.slice none 0 0,.int .i64 0,.int .i64 0,.int .i64 0],.slice none 0 0,.int .u8 0],[]⟩ 5 (by kernel_rfl) (by kernel_rfl) (by kernel_rfl) (by kernel_rfl)) ?_
 intro W base args ds gs before hval0 hW hcnd _;have hval:∀ (j:Nat) t v,Try.f5.params[j]?=some t→args[j]?=some v→Value.okWide Try.prog W .any base t v:=hval0;have hW':=hW;obtain ⟨p,q,hA0,hV,rfl,hfz,hnd⟩:=hW;have hA:DataW.TrodAll enc Try.prog W 0 (fun _=>true) true Try.f5.params.toList args.toList ds p:=hA0;rw [Try.params5] at hA hval;obtain ⟨v1,v2,v3,d1,d2,d3,hargs,rfl⟩:∃ v1 v2 v3 d1 d2 d3,args=#[v1,v2,v3]∧ds=[d1,d2,d3]:=by
  obtain ⟨v1,v2,v3,d1,d2,d3,h1,h2⟩:=xUG hA;exact ⟨v1,v2,v3,d1,d2,d3,by cases args;simp at h1;rw [h1],h2⟩
 subst hargs;obtain ⟨rfl,rfl⟩:=trodVars_none hV;clear hA0 hval0;simp only [List.append_nil] at hW';refine (walk hA (hval 0 25 v1 rfl rfl) (hval 1 26 v2 rfl rfl) (hval 2 5 v3 rfl rfl)).mono fun e W' ⟨he,hg⟩=>?_
 subst he;have hlt:∀ x∈p,x.block<W.heap.size:=fun x hx=>hW'.lt x (by simpa using hx)
 exact ⟨_,rfl,post_of_same (pa:=p) (pv:=[]) hW' (fun b sp hd=>trodAll_cons_mk (shut_bool Try.underlying4 _) trodAll_mk0) (fun sp hs=>xFC xXC xXD xYF hA hg hlt hs) (fun _ _=>rfl) (by simp)
  (hg.frame _) hg.2.1 (ok_one (by kernel_rfl) rfl (okWide_bool_mk Try.underlying4 _))⟩
theorem over:Rows.rosterOrderRow.holds Try.pinned (OpenSpec.ofChange Rows.rosterOrderSpec) :=
 OpenClaim.holds_of_wide 5 Try.f5 rfl rfl rfl rfl rfl rfl rfl ⟨rfl,rfl,rfl,rfl,rfl⟩ rfl rfl rfl rfl rfl (by kernel_rfl) Try.func5 (by kernel_rfl)
  (of_decide_eq_true (by kernel_rfl)) (by unfold Func.isWrapper;first | (rw [if_pos (by decide +kernel)];kernel_rfl) | (rw [if_neg (by decide +kernel)];exact ⟨rfl,rfl⟩))
  (fun os started H enc _=>xVN os started H enc)
theorem proved:Rows.RosterOrderSaid :=
 over
#print axioms proved
end Go.Proofs.Ytgfiniccfpfplaa.rosterOrder
