/- Proved: the statement RosterSenior returns true, whatever its arguments; no condition. -/

import Derived.Test.YtgfiniccfpfplaaGreatRows
import Derived.Test.YtgfiniccfpfplaaGreatDA
import Derived.Test.YtgfiniccfpfplaaGreatAw
import Derived.WalkKit
import Derived.ProofKit
import Derived.OpenShut
namespace Go.Proofs.YtgfiniccfpfplaaGreat.rosterSenior
open Go.ChangeShapes Go.WideShapes Go.ChangeAt Go.RowKit
open Go.Lay
set_option linter.unusedVariables false
theorem own:ownKnob Tryz.prog.godebug=none:=by kernel_rfl
theorem wAH:Kids Tryz.prog (· < Tryz.prog.types.size):=kids_rows (by kernel_rfl) (by kernel_rfl)
theorem wAI:∀ (t:Nat) (e:TypeId),t<Tryz.prog.types.size->Tryz.prog.underlying t=some (.slice e)->0<Tryz.prog.cellsOf e:=slices_full_of Tryz.prog (by kernel_rfl)
theorem wBT:∀ t∈([25,26]:List TypeId),t<Tryz.prog.types.size:=of_decide_eq_true (by kernel_rfl)
theorem yMA {H:Type} {enc:TypeId × Value->H} {w:World} {b:Nat} {sp:Nat->Bool} {held:Bool}:∀ {ts:List TypeId} {vs:List Value} {ds:List (DataW H)} {ps:List MemPlace},DataW.TrodAll enc Tryz.prog w b sp held ts vs ds ps->vs.length=ts.length/\ds.length=ts.length
 | [],[],[],_,_=>⟨rfl,rfl⟩
 | _::_,_::_,_::_,_,⟨_,_,_,h,_⟩=>by have:=yMA h;simp [this.1,this.2]
 | [],_::_,_,_,h=>h.elim
 | [],[],_::_,_,h=>h.elim
 | _::_,[],_,_,h=>h.elim
 | _::_,_::_,[],_,h=>h.elim
theorem xXH {H:Type} {enc:TypeId × Value->H} {w:World} {b:Nat} {sp:Nat->Bool} {held:Bool} {vs:List Value} {ds:List (DataW H)} {ps:List MemPlace} (h:DataW.TrodAll enc Tryz.prog w b sp held [25,26] vs ds ps):∃ v1 v2 d1 d2,vs=[v1,v2]/\ds=[d1,d2]:=by
 obtain ⟨h1,h2⟩:=yMA h;match vs,ds,h1,h2 with
 | [v1,v2],[d1,d2],_,_=>exact ⟨v1,v2,d1,d2,rfl,rfl⟩
theorem xZV {U:Inj} {v1 v2:Value}:∀ {avs:List Value},VRs U avs [v1,v2]->∃ a1 a2,avs=[a1,a2]/\VR U a1 v1/\VR U a2 v2
 | [a1,a2],(.cons y1 (.cons y2 .nil))=>⟨a1,a2,rfl,y1,y2⟩
set_option maxRecDepth 100000 in
theorem walk {H:Type} {enc:TypeId × Value->H} {W:World} {v1 v2:Value} {ds:List (DataW H)} {ps:List MemPlace} (hA:DataW.TrodAll enc Tryz.prog W 0 (fun _=>true) true [25,26] [v1,v2] ds ps)
  (ok1:Value.okWide Tryz.prog W .any 0 25 v1) (ok2:Value.okWide Tryz.prog W .any 0 26 v2) :
  Calls Tryz.prog 7 ⟨[v1,v2]⟩ W fun e w'=>e=.returned (.bool true)/\Grown W w':=by
 obtain ⟨hr,ho⟩:=xKD W;obtain ⟨U,Z,avs,r1,o1,_,_,v1',w1⟩:=yOW (n:=6) hA (by simp only [List.mem_cons,List.not_mem_nil,or_false];rintro t (rfl | rfl) <;> kernel_rfl) hr ho (by simp only [List.mem_cons,List.not_mem_nil,or_false];rintro v (rfl | rfl) <;> first | exact yGN ok1 | exact yGN ok2);obtain ⟨a1,a2,rfl,y1,y2⟩:=xZV v1';obtain ⟨w0,p0,q0,l0,c0,m0,d0,e0,h0,ag0,av0⟩:=xRR w1.1;have k0:a1=.agg ⟨wkc w0.days p0 l0 c0 q0 m0 d0 w0.rest w0.run w0.hours⟩:=by
  cases a1 with
  | agg cs=>cases cs;simp [Value.cells] at e0;rw [e0]
  | _=>simp [Value.cells] at e0
 subst k0;obtain ⟨p1,l1,c1,x1,e1,h1,ag1⟩:=zWB w1.2.1;have k1:=yRK e1 (xTU y2 (xXI Tryz.underlying26 ok2));subst k1;exact yDI.walk zAR Aw.shut (yPH h0 h1) r1 o1 (.cons y1 (.cons y2 .nil))
set_option maxRecDepth 100000 in
theorem xYL (os:Os) (started:os.Started) (H:Type) (enc:TypeId × Value->H) :
  ReturnsInHanded {} Tryz.checked os 7 .any (Rows.rosterSeniorSpec.pre6 enc Tryz.prog Tryz.f7 Rows.rosterSeniorRow.domain false) (Rows.rosterSeniorSpec.post enc Tryz.prog Tryz.f7 false true false false):=by
 refine returnsInHanded_of_change (C:=Tryz.checked) own started (by kernel_rfl) Tryz.func7
  (ChangeSpec.witness6 (enc:=enc) (C:=Tryz.checked) false ⟨#[],#[.agg #[.int .i64 0,.slice none 0 0,.slice none 0 0,.int .i64 0,.int .i64 0,.int .i64 0],.slice none 0 0],[]⟩ 7 (by kernel_rfl) (by kernel_rfl) (by kernel_rfl) (by kernel_rfl)) ?_
 intro W base args ds gs before hval0 hW hcnd _;have hval:∀ (j:Nat) t v,Tryz.f7.params[j]?=some t->args[j]?=some v->Value.okWide Tryz.prog W .any base t v:=hval0;have hW':=hW;obtain ⟨p,q,hA0,hV,rfl,hfz,hnd⟩:=hW;have hA:DataW.TrodAll enc Tryz.prog W 0 (fun _=>true) true Tryz.f7.params.toList args.toList ds p:=hA0;rw [Tryz.params7] at hA hval;obtain ⟨v1,v2,d1,d2,hargs,rfl⟩:∃ v1 v2 d1 d2,args=#[v1,v2]/\ds=[d1,d2]:=by
  obtain ⟨v1,v2,d1,d2,h1,h2⟩:=xXH hA;exact ⟨v1,v2,d1,d2,by cases args;simp at h1;rw [h1],h2⟩
 subst hargs;obtain ⟨rfl,rfl⟩:=trodVars_none hV;clear hA0 hval0;simp only [List.append_nil] at hW';refine (walk hA (hval 0 25 v1 rfl rfl) (hval 1 26 v2 rfl rfl)).mono fun e W' ⟨he,hg⟩=>?_
 subst he;have hlt:∀ x∈p,x.block<W.heap.size:=fun x hx=>hW'.lt x (by simpa using hx)
 exact ⟨_,rfl,post_of_same (pa:=p) (pv:=[]) hW' (fun b sp hd=>trodAll_cons_mk (shut_bool Tryz.underlying4 _) trodAll_mk0) (fun sp hs=>xIO wAH wAI wBT hA hg hlt hs) (fun _ _=>rfl) (by simp)
  (hg.frame _) hg.2.1 (ok_one (by kernel_rfl) rfl (okWide_bool_mk Tryz.underlying4 _))⟩
theorem over:Rows.rosterSeniorRow.holds Tryz.pinned (OpenSpec.ofChange Rows.rosterSeniorSpec) :=
 OpenClaim.holds_of_wide 7 Tryz.f7 rfl rfl rfl rfl rfl rfl rfl ⟨rfl,rfl,rfl,rfl,rfl⟩ rfl rfl rfl rfl rfl (by kernel_rfl) Tryz.func7 (by kernel_rfl)
  (of_decide_eq_true (by kernel_rfl)) (by unfold Func.isWrapper;first | (rw [if_pos (by decide +kernel)];kernel_rfl) | (rw [if_neg (by decide +kernel)];exact ⟨rfl,rfl⟩))
  (fun os started H enc _=>xYL os started H enc)
theorem proved:Rows.RosterSeniorSaid :=
 over
#print axioms proved
end Go.Proofs.YtgfiniccfpfplaaGreat.rosterSenior
