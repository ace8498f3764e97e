/- Proved: the statement RosterTruth returns true, whatever its arguments; no condition. -/

import Derived.Test.YtgfiniccfpfplaaGreatRows
import Derived.Test.YtgfiniccfpfplaaGreatDA
import Derived.Test.YtgfiniccfpfplaaGreatAw
import Derived.WalkKit
import Derived.ProofKit
import Derived.OpenShut
namespace Go.Proofs.YtgfiniccfpfplaaGreat.rosterTruth
open Go.ChangeShapes Go.WideShapes Go.ChangeAt Go.RowKit
open Go.Lay
theorem own:ownKnob Tryz.prog.godebug=none:=by kernel_rfl
theorem wCO:Kids Tryz.prog (· < Tryz.prog.types.size):=kids_rows (by kernel_rfl) (by kernel_rfl)
theorem wCP:∀ (t:Nat) (e:TypeId),t<Tryz.prog.types.size->Tryz.prog.underlying t=some (.slice e)->0<Tryz.prog.cellsOf e:=slices_full_of Tryz.prog (by kernel_rfl)
theorem wDX:∀ t∈([25,63,63,63]:List TypeId),t<Tryz.prog.types.size:=of_decide_eq_true (by kernel_rfl)
theorem yNM {H:Type} {enc:TypeId × Value->H} {w:World} {b:Nat} {sp:Nat->Bool} {held:Bool}:∀ {ts:List TypeId} {vs:List Value} {ds:List (DataW H)} {ps:List MemPlace},DataW.TrodAll enc Tryz.prog w b sp held ts vs ds ps->vs.length=ts.length/\ds.length=ts.length
 | [],[],[],_,_=>⟨rfl,rfl⟩
 | _::_,_::_,_::_,_,⟨_,_,_,h,_⟩=>by have:=yNM h;simp [this.1,this.2]
 | [],_::_,_,_,h=>h.elim
 | [],[],_::_,_,h=>h.elim
 | _::_,[],_,_,h=>h.elim
 | _::_,_::_,[],_,h=>h.elim
theorem xZO {H:Type} {enc:TypeId × Value->H} {w:World} {b:Nat} {sp:Nat->Bool} {held:Bool} {vs:List Value} {ds:List (DataW H)} {ps:List MemPlace} (h:DataW.TrodAll enc Tryz.prog w b sp held [25,63,63,63] vs ds ps):∃ v1 v2 v3 v4 d1 d2 d3 d4,vs=[v1,v2,v3,v4]/\ds=[d1,d2,d3,d4]:=by
 obtain ⟨h1,h2⟩:=yNM h;match vs,ds,h1,h2 with
 | [v1,v2,v3,v4],[d1,d2,d3,d4],_,_=>exact ⟨v1,v2,v3,v4,d1,d2,d3,d4,rfl,rfl⟩
theorem wCC {U:Inj} {v1 v2 v3 v4:Value}:∀ {avs:List Value},VRs U avs [v1,v2,v3,v4]->∃ a1 a2 a3 a4,avs=[a1,a2,a3,a4]/\VR U a1 v1/\VR U a2 v2/\VR U a3 v3/\VR U a4 v4
 | [a1,a2,a3,a4],(.cons y1 (.cons y2 (.cons y3 (.cons y4 .nil))))=>⟨a1,a2,a3,a4,rfl,y1,y2,y3,y4⟩
set_option maxRecDepth 100000 in
theorem walk {H:Type} {enc:TypeId × Value->H} {W:World} {v1 v2 v3 v4:Value} {ds:List (DataW H)} {ps:List MemPlace} (hA:DataW.TrodAll enc Tryz.prog W 0 (fun _=>true) true [25,63,63,63] [v1,v2,v3,v4] ds ps)
  (ok1:Value.okWide Tryz.prog W .any 0 25 v1) (ok2:Value.okWide Tryz.prog W .any 0 63 v2) (ok3:Value.okWide Tryz.prog W .any 0 63 v3) (ok4:Value.okWide Tryz.prog W .any 0 63 v4) :
  Calls Tryz.prog 9 ⟨[v1,v2,v3,v4]⟩ W fun e w'=>e=.returned (.bool true)/\Grown W w':=by
 obtain ⟨hr,ho⟩:=xML W;obtain ⟨U,Z,avs,r1,o1,_,_,v1',w1⟩:=yPY (n:=6) hA (by simp only [List.mem_cons,List.not_mem_nil,or_false];rintro t (rfl | rfl | rfl | rfl) <;> kernel_rfl) hr ho (by simp only [List.mem_cons,List.not_mem_nil,or_false];rintro v (rfl | rfl | rfl | rfl) <;> first | exact zMM ok1 | exact zMM ok2 | exact zMM ok3 | exact zMM ok4);obtain ⟨a1,a2,a3,a4,rfl,y1,y2,y3,y4⟩:=wCC v1';obtain ⟨w0,p0,q0,l0,c0,m0,d0,e0,h0,ag0,av0⟩:=xUC w1.1;have k0:a1=.agg ⟨wkc w0.M p0 l0 c0 q0 m0 d0 w0.rest w0.run w0.j⟩:=by
  cases a1 with
  | agg cs=>cases cs;simp [Value.cells] at e0;rw [e0]
  | _=>simp [Value.cells] at e0
 subst k0;obtain ⟨p1,l1,c1,x1,e1,h1,b1⟩:=zYB w1.2.1;have k1:=zKW e1 (yKX y2 (yUV Tryz.underlying63 ok2));subst k1;obtain ⟨p2,l2,c2,x2,e2,h2,b2⟩:=zYB w1.2.2.1;have k2:=zKW e2 (yKX y3 (yUV Tryz.underlying63 ok3));subst k2;obtain ⟨p3,l3,c3,x3,e3,h3,b3⟩:=zYB w1.2.2.2.1;have k3:=zKW e3 (yKX y4 (yUV Tryz.underlying63 ok4));subst k3;exact xBL.walk zAZ Aw.shut (yYD h0 h1 b1 h2 b2 h3 b3) r1 o1 (.cons y1 (.cons y2 (.cons y3 (.cons y4 .nil))))
set_option maxRecDepth 100000 in
theorem wAU (os:Os) (started:os.Started) (H:Type) (enc:TypeId × Value->H) :
  ReturnsInHanded {} Tryz.checked os 9 .any (Rows.rosterTruthSpec.pre6 enc Tryz.prog Tryz.f9 Rows.rosterTruthRow.domain false) (Rows.rosterTruthSpec.post enc Tryz.prog Tryz.f9 false true false false):=by
 refine returnsInHanded_of_change (C:=Tryz.checked) own started (by kernel_rfl) Tryz.func9
  (ChangeSpec.witness6 (enc:=enc) (C:=Tryz.checked) false ⟨#[],#[.agg #[.int .i64 0,.slice none 0 0,.slice none 0 0,.int .i64 0,.int .i64 0,.int .i64 0],.slice none 0 0,.slice none 0 0,.slice none 0 0],[]⟩ 9 (by kernel_rfl) (by kernel_rfl) (by kernel_rfl) (by kernel_rfl)) ?_
 intro W base args ds gs before hval0 hW hcnd _;have hval:∀ (j:Nat) t v,Tryz.f9.params[j]?=some t->args[j]?=some v->Value.okWide Tryz.prog W .any base t v:=hval0;have hW':=hW;obtain ⟨p,q,hA0,hV,rfl,hfz,hnd⟩:=hW;have hA:DataW.TrodAll enc Tryz.prog W 0 (fun _=>true) true Tryz.f9.params.toList args.toList ds p:=hA0;rw [Tryz.params9] at hA hval;obtain ⟨v1,v2,v3,v4,d1,d2,d3,d4,hargs,rfl⟩:∃ v1 v2 v3 v4 d1 d2 d3 d4,args=#[v1,v2,v3,v4]/\ds=[d1,d2,d3,d4]:=by
  obtain ⟨v1,v2,v3,v4,d1,d2,d3,d4,h1,h2⟩:=xZO hA;exact ⟨v1,v2,v3,v4,d1,d2,d3,d4,by cases args;simp at h1;rw [h1],h2⟩
 subst hargs;obtain ⟨rfl,rfl⟩:=trodVars_none hV;clear hA0 hval0;simp only [List.append_nil] at hW';refine (walk hA (hval 0 25 v1 rfl rfl) (hval 1 63 v2 rfl rfl) (hval 2 63 v3 rfl rfl) (hval 3 63 v4 rfl rfl)).mono fun e W' ⟨he,hg⟩=>?_
 subst he;have hlt:∀ x∈p,x.block<W.heap.size:=fun x hx=>hW'.lt x (by simpa using hx)
 exact ⟨_,rfl,post_of_same (pa:=p) (pv:=[]) hW' (fun b sp hd=>trodAll_cons_mk (shut_bool Tryz.underlying4 _) trodAll_mk0) (fun sp hs=>xKC wCO wCP wDX hA hg hlt hs) (fun _ _=>rfl) (by simp)
  (hg.frame _) hg.2.1 (ok_one (by kernel_rfl) rfl (okWide_bool_mk Tryz.underlying4 _))⟩
theorem over:Rows.rosterTruthRow.holds Tryz.pinned (OpenSpec.ofChange Rows.rosterTruthSpec) :=
 OpenClaim.holds_of_wide 9 Tryz.f9 rfl rfl rfl rfl rfl rfl rfl ⟨rfl,rfl,rfl,rfl,rfl⟩ rfl rfl rfl rfl rfl (by kernel_rfl) Tryz.func9 (by kernel_rfl)
  (of_decide_eq_true (by kernel_rfl)) (by unfold Func.isWrapper;first | (rw [if_pos (by decide +kernel)];kernel_rfl) | (rw [if_neg (by decide +kernel)];exact ⟨rfl,rfl⟩))
  (fun os started H enc _=>wAU os started H enc)
theorem proved:Rows.RosterTruthSaid :=
 over
#print axioms proved
end Go.Proofs.YtgfiniccfpfplaaGreat.rosterTruth
