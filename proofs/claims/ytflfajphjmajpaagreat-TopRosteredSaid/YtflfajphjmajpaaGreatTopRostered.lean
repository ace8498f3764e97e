/- Proved: the statement TopRostered returns true, whatever its arguments; no condition. -/

import Derived.Test.YtflfajphjmajpaaGreatRows
import Derived.Test.YtflfajphjmajpaaGreatFJ
import Derived.Test.YtflfajphjmajpaaGreatDA
import Derived.Test.YtflfajphjmajpaaGreatAw
import Derived.WalkKit
import Derived.ProofKit
import Derived.OpenShut
namespace Go.Proofs.YtflfajphjmajpaaGreat.topRostered
open Go.ChangeShapes Go.WideShapes Go.ChangeAt Go.RowKit
open Go.Lay
theorem own:ownKnob Tryz.prog.godebug=none:=by kernel_rfl
theorem wPG:Kids Tryz.prog (· < Tryz.prog.types.size):=kids_rows (by kernel_rfl) (by kernel_rfl)
theorem wPH:∀(t:Nat) (e:TypeId),t<Tryz.prog.types.size->Tryz.prog.underlying t=some (.slice e)->0<Tryz.prog.cellsOf e:=slices_full_of Tryz.prog (by kernel_rfl)
theorem wQF:∀t∈([27,31,32,33]:List TypeId),t<Tryz.prog.types.size:=of_decide_eq_true (by kernel_rfl)
theorem xAR{H:Type}{enc:TypeId×Value->H}{w:World}{b:Nat}{sp:Nat->Bool}{held:Bool}:∀{ts:List TypeId} {vs:List Value} {ds:List (DataW H)} {ps:List MemPlace},DataW.TrodAll enc Tryz.prog w b sp held ts vs ds ps->vs.length=ts.length/\ds.length=ts.length
 |[],[],[],_,_=>⟨rfl,rfl⟩
 |_::_,_::_,_::_,_,⟨_,_,_,h,_⟩=>by have:=xAR h;simp[this.1,this.2]
 |[],_::_,_,_,h=>h.elim
 |[],[],_::_,_,h=>h.elim
 |_::_,[],_,_,h=>h.elim
 |_::_,_::_,[],_,h=>h.elim
theorem wLT{H:Type}{enc:TypeId×Value->H}{w:World}{b:Nat}{sp:Nat->Bool}{held:Bool}{vs:List Value}{ds:List (DataW H)}{ps:List MemPlace}(h:DataW.TrodAll enc Tryz.prog w b sp held [27,31,32,33] vs ds ps):∃v1 v2 v3 v4 d1 d2 d3 d4,vs=[v1,v2,v3,v4]/\ds=[d1,d2,d3,d4]:=by
 obtain⟨h1,h2⟩:=xAR h;match vs,ds,h1,h2 with
 |[v1,v2,v3,v4],[d1,d2,d3,d4],_,_=>exact⟨v1,v2,v3,v4,d1,d2,d3,d4,rfl,rfl⟩
theorem wOX{Z:Inj}{v1 v2 v3 v4:Value}:∀{avs:List Value},VRs Z avs [v1,v2,v3,v4]->∃a1 a2 a3 a4,avs=[a1,a2,a3,a4]/\VR Z a1 v1/\VR Z a2 v2/\VR Z a3 v3/\VR Z a4 v4
 |[a1,a2,a3,a4],(.cons y1 (.cons y2 (.cons y3 (.cons y4 .nil))))=>⟨a1,a2,a3,a4,rfl,y1,y2,y3,y4⟩
set_option maxRecDepth 100000 in
theorem walk{H:Type}{enc:TypeId×Value->H}{W:World}{v1 v2 v3 v4:Value}{ds:List (DataW H)}{ps:List MemPlace}(hA:DataW.TrodAll enc Tryz.prog W 0 (λ_=>true) true [27,31,32,33] [v1,v2,v3,v4] ds ps)
  (ok1:Value.okWide Tryz.prog W .any 0 27 v1) (ok2:Value.okWide Tryz.prog W .any 0 31 v2) (ok3:Value.okWide Tryz.prog W .any 0 32 v3) (ok4:Value.okWide Tryz.prog W .any 0 33 v4) :
  Calls Tryz.prog 3 ⟨[v1,v2,v3,v4]⟩ W λe w'=>e=.returned (.bool true)/\Grown W w':=by
 obtain⟨hr,ho⟩:=xZC W;obtain⟨Z,E,avs,r1,o1,_,_,v1',w1⟩:=xBZ (n:=6) hA (by simp only[List.mem_cons,List.not_mem_nil,or_false];rintro t (rfl|rfl|rfl|rfl) <;> kernel_rfl) hr ho (by simp only[List.mem_cons,List.not_mem_nil,or_false];rintro v (rfl|rfl|rfl|rfl) <;> first|exact zQF ok1|exact zQF ok2|exact zQF ok3|exact zQF ok4);obtain⟨a1,a2,a3,a4,rfl,y1,y2,y3,y4⟩:=wOX v1';obtain⟨L0,b0,k0,bl0,bc0,kl0,kc0,B0,K0,e0,h0⟩:=wLQ w1.1;have g0:a1=.agg ⟨dnc L0 b0 bl0 bc0 k0 kl0 kc0⟩:=by
  cases a1 with
  |agg cs=>cases cs;simp[Value.cells]at e0;rw[e0]
  |_=>simp[Value.cells]at e0
 subst g0;obtain⟨w0,p1,q1,l1,c1,m1,d1,e1,h1⟩:=wFZ w1.2.1;have g1:a2=.agg ⟨wkc w0.J p1 l1 c1 q1 m1 d1 w0.rest w0.run w0.N⟩:=by
  cases a2 with
  |agg cs=>cases cs;simp[Value.cells]at e1;rw[e1]
  |_=>simp[Value.cells]at e1
 subst g1;obtain⟨p2,l2,c2,x2,e2,h2,b2⟩:=xAH Tryz.underlying32 (by kernel_rfl) (by kernel_rfl) (λcs h=>wLL h) w1.2.2.1;have k2:=yCG e2 (xNX y3 (xYO Tryz.underlying32 ok3));subst k2;obtain⟨p3,l3,c3,x3,e3,h3,b3⟩:=xAH Tryz.underlying33 (by kernel_rfl) (by kernel_rfl) (λcs h=>wOU h) w1.2.2.2.1;have k3:=yCG e3 (xNX y4 (xYO Tryz.underlying33 ok4));subst k3;exact zTP.walk xNM Aw.shut (xUC h0 h1 h2 b2 h3 b3) r1 o1 (.cons y1 (.cons y2 (.cons y3 (.cons y4 .nil))))
set_option maxRecDepth 100000 in
theorem wNC(os:Os)(started:os.Started)(H:Type)(enc:TypeId×Value->H) :
  ReturnsInHanded {} Tryz.checked os 3 .any (Rows.topRosteredSpec.pre6 enc Tryz.prog Tryz.f3 Rows.topRosteredRow.domain false) (Rows.topRosteredSpec.post enc Tryz.prog Tryz.f3 false true false false):=by
 refine returnsInHanded_of_change (C:=Tryz.checked) own started (by kernel_rfl) Tryz.func3
  (ChangeSpec.witness6 (enc:=enc) (C:=Tryz.checked) false ⟨#[],#[.agg #[.int .i64 0,.int .i64 0,.int .i64 0,.int .i64 0,.int .i64 0,.int .i64 0,.int .i64 0,.int .i64 0,.slice none 0 0,.slice none 0 0],.agg #[.int .i64 0,.slice none 0 0,.slice none 0 0,.int .i64 0,.int .i64 0,.int .i64 0],.slice none 0 0,.slice none 0 0],[]⟩ 3 (by kernel_rfl) (by kernel_rfl) (by kernel_rfl) (by kernel_rfl)) ?_
 intro W base args ds gs before hval0 hW hcnd _;have hval:∀(j:Nat) t v,Tryz.f3.params[j]?=some t->args[j]?=some v->Value.okWide Tryz.prog W .any base t v:=hval0;have hW':=hW;obtain⟨p,q,hA0,hV,rfl,hfz,hnd⟩:=hW;have hA:DataW.TrodAll enc Tryz.prog W 0 (λ_=>true) true Tryz.f3.params.toList args.toList ds p:=hA0;rw[Tryz.params3]at hA hval;obtain⟨v1,v2,v3,v4,d1,d2,d3,d4,hargs,rfl⟩:∃v1 v2 v3 v4 d1 d2 d3 d4,args=#[v1,v2,v3,v4]/\ds=[d1,d2,d3,d4]:=by
  obtain⟨v1,v2,v3,v4,d1,d2,d3,d4,h1,h2⟩:=wLT hA;exact⟨v1,v2,v3,v4,d1,d2,d3,d4,by cases args;simp at h1;rw[h1],h2⟩
 subst hargs;obtain⟨rfl,rfl⟩:=trodVars_none hV;clear hA0 hval0;simp only[List.append_nil]at hW';refine(walk hA (hval 0 27 v1 rfl rfl) (hval 1 31 v2 rfl rfl) (hval 2 32 v3 rfl rfl) (hval 3 33 v4 rfl rfl)).mono λe W' ⟨he,hg⟩=>?_
 subst he;have hlt:∀x∈p,x.block<W.heap.size:=λx hx=>hW'.lt x (by simpa using hx)
 exact⟨_,rfl,post_of_same (pa:=p) (pv:=[]) hW' (λb sp hd=>trodAll_cons_mk (shut_bool Tryz.underlying4 _) trodAll_mk0) (λsp hs=>xWB wPG wPH wQF hA hg hlt hs) (λ_ _=>rfl) (by simp)
  (hg.frame _) hg.2.1 (ok_one (by kernel_rfl) rfl (okWide_bool_mk Tryz.underlying4 _))⟩
theorem over:Rows.topRosteredRow.holds Tryz.pinned (OpenSpec.ofChange Rows.topRosteredSpec) :=
 OpenClaim.holds_of_wide 3 Tryz.f3 rfl rfl rfl rfl rfl rfl rfl ⟨rfl,rfl,rfl,rfl,rfl⟩ rfl rfl rfl rfl rfl (by kernel_rfl) Tryz.func3 (by kernel_rfl)
  (of_decide_eq_true (by kernel_rfl)) (by unfold Func.isWrapper;first|(rw[if_pos (by decide +kernel)];kernel_rfl)|(rw[if_neg (by decide +kernel)];exact⟨rfl,rfl⟩))
  (λos started H enc _=>wNC os started H enc)
theorem proved:Rows.TopRosteredSaid :=
 over
#print axioms proved
end Go.Proofs.YtflfajphjmajpaaGreat.topRostered
