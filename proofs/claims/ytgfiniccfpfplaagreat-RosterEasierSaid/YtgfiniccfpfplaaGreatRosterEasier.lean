/- Proved: the statement RosterEasier returns true, whatever its arguments; no condition. -/

import Derived.Test.YtgfiniccfpfplaaGreatRows
import Derived.Test.YtgfiniccfpfplaaGreatTP
import Derived.Test.YtgfiniccfpfplaaGreatAw
import Derived.WalkKit
import Derived.ProofKit
import Derived.OpenShut
namespace Go.Proofs.YtgfiniccfpfplaaGreat.rosterEasier
open Go.ChangeShapes Go.WideShapes Go.ChangeAt Go.RowKit
open Go.Lay
theorem own:ownKnob Tryz.prog.godebug=none:=by kernel_rfl
theorem xZM:Kids Tryz.prog (· < Tryz.prog.types.size):=kids_rows (by kernel_rfl) (by kernel_rfl)
theorem xZN:∀ (t:Nat) (e:TypeId),t<Tryz.prog.types.size->Tryz.prog.underlying t=some (.slice e)->0<Tryz.prog.cellsOf e:=slices_full_of Tryz.prog (by kernel_rfl)
theorem wAQ:∀ t∈([25,63,5,5,5,73]:List TypeId),t<Tryz.prog.types.size:=of_decide_eq_true (by kernel_rfl)
theorem yLF {H:Type} {enc:TypeId × Value->H} {w:World} {b:Nat} {sp:Nat->Bool} {held:Bool}:∀ {ts:List TypeId} {vs:List Value} {ds:List (DataW H)} {ps:List MemPlace},DataW.TrodAll enc Tryz.prog w b sp held ts vs ds ps->vs.length=ts.length/\ds.length=ts.length
 | [],[],[],_,_=>⟨rfl,rfl⟩
 | _::_,_::_,_::_,_,⟨_,_,_,h,_⟩=>by have:=yLF h;simp [this.1,this.2]
 | [],_::_,_,_,h=>h.elim
 | [],[],_::_,_,h=>h.elim
 | _::_,[],_,_,h=>h.elim
 | _::_,_::_,[],_,h=>h.elim
theorem xWJ {H:Type} {enc:TypeId × Value->H} {w:World} {b:Nat} {sp:Nat->Bool} {held:Bool} {vs:List Value} {ds:List (DataW H)} {ps:List MemPlace} (h:DataW.TrodAll enc Tryz.prog w b sp held [25,63,5,5,5,73] vs ds ps):∃ v1 v2 v3 v4 v5 v6 d1 d2 d3 d4 d5 d6,vs=[v1,v2,v3,v4,v5,v6]/\ds=[d1,d2,d3,d4,d5,d6]:=by
 obtain ⟨h1,h2⟩:=yLF h;match vs,ds,h1,h2 with
 | [v1,v2,v3,v4,v5,v6],[d1,d2,d3,d4,d5,d6],_,_=>exact ⟨v1,v2,v3,v4,v5,v6,d1,d2,d3,d4,d5,d6,rfl,rfl⟩
theorem xYY {U:Inj} {v1 v2 v3 v4 v5 v6:Value} {avs:List Value} (h:VRs U avs [v1,v2,v3,v4,v5,v6]):∃ a1 a2 a3 a4 a5 a6,avs=[a1,a2,a3,a4,a5,a6]/\VR U a1 v1/\VR U a2 v2/\VR U a3 v3/\VR U a4 v4/\VR U a5 v5/\VR U a6 v6:=by
 cases h with
 | cons y1 h =>
 cases h with
 | cons y2 h =>
 cases h with
 | cons y3 h =>
 cases h with
 | cons y4 h =>
 cases h with
 | cons y5 h =>
 cases h with
 | cons y6 h =>
 cases h
 exact ⟨_,_,_,_,_,_,rfl,y1,y2,y3,y4,y5,y6⟩
set_option maxRecDepth 100000 in
theorem walk {H:Type} {enc:TypeId × Value->H} {W:World} {v1 v2 v3 v4 v5 v6:Value} {ds:List (DataW H)} {ps:List MemPlace} (hA:DataW.TrodAll enc Tryz.prog W 0 (fun _=>true) true [25,63,5,5,5,73] [v1,v2,v3,v4,v5,v6] ds ps)
  (ok1:Value.okWide Tryz.prog W .any 0 25 v1) (ok2:Value.okWide Tryz.prog W .any 0 63 v2) (ok3:Value.okWide Tryz.prog W .any 0 5 v3) (ok4:Value.okWide Tryz.prog W .any 0 5 v4) (ok5:Value.okWide Tryz.prog W .any 0 5 v5) (ok6:Value.okWide Tryz.prog W .any 0 73 v6) :
  Calls Tryz.prog 13 ⟨[v1,v2,v3,v4,v5,v6]⟩ W fun e w'=>e=.returned (.bool true)/\Grown W w':=by
 obtain ⟨hr,ho⟩:=xJH W;obtain ⟨U,Z,avs,r1,o1,_,_,v1',w1⟩:=yNP (n:=6) hA (by simp only [List.mem_cons,List.not_mem_nil,or_false];rintro t (rfl | rfl | rfl | rfl | rfl | rfl) <;> kernel_rfl) hr ho (by simp only [List.mem_cons,List.not_mem_nil,or_false];rintro v (rfl | rfl | rfl | rfl | rfl | rfl) <;> first | exact zDF ok1 | exact zDF ok2 | exact zDF ok3 | exact zDF ok4 | exact zDF ok5 | exact zDF ok6);obtain ⟨a1,a2,a3,a4,a5,a6,rfl,y1,y2,y3,y4,y5,y6⟩:=xYY v1';obtain ⟨w0,p0,q0,l0,c0,m0,d0,e0,h0,ag0,av0⟩:=xQR w1.1;have k0:a1=.agg ⟨wkc w0.days p0 l0 c0 q0 m0 d0 w0.rest w0.run w0.hours⟩:=by
  cases a1 with
  | agg cs=>cases cs;simp [Value.cells] at e0;rw [e0]
  | _=>simp [Value.cells] at e0
 subst k0;obtain ⟨p1,l1,c1,x1,e1,h1,b1⟩:=xIC w1.2.1;have k1:=yQQ e1 (zPT y2 (xWK Tryz.underlying63 ok2));subst k1;obtain ⟨x2,e2,h2⟩:=yZG w1.2.2.1;have k2:=zLX e2 (zPT y3 (zWI Tryz.underlying5 ok3));subst k2;obtain ⟨x3,e3,h3⟩:=yZG w1.2.2.2.1;have k3:=zLX e3 (zPT y4 (zWI Tryz.underlying5 ok4));subst k3;obtain ⟨x4,e4,h4⟩:=yZG w1.2.2.2.2.1;have k4:=zLX e4 (zPT y5 (zWI Tryz.underlying5 ok5));subst k4;obtain ⟨x5,e5,h5⟩:=xWE w1.2.2.2.2.2.1;have k5:=zLX e5 (zPT y6 (zWI Tryz.underlying73 ok6));subst k5;exact yKH.walk zAX Aw.shut (yOA h0 ag0 av0 h1 b1 h2 h3 h4 h5) r1 o1 (.cons y1 (.cons y2 (.cons y3 (.cons y4 (.cons y5 (.cons y6 .nil))))))
set_option maxRecDepth 100000 in
theorem xXS (os:Os) (started:os.Started) (H:Type) (enc:TypeId × Value->H) :
  ReturnsInHanded {} Tryz.checked os 13 .any (Rows.rosterEasierSpec.pre6 enc Tryz.prog Tryz.f13 Rows.rosterEasierRow.domain false) (Rows.rosterEasierSpec.post enc Tryz.prog Tryz.f13 false true false false):=by
 refine returnsInHanded_of_change (C:=Tryz.checked) own started (by kernel_rfl) Tryz.func13
  (ChangeSpec.witness6 (enc:=enc) (C:=Tryz.checked) false ⟨#[],#[.agg #[.int .i64 0,.slice none 0 0,.slice none 0 0,.int .i64 0,.int .i64 0,.int .i64 0],.slice none 0 0,.int .u8 0,.int .u8 0,.int .u8 0,.int .u16 0],[]⟩ 13 (by kernel_rfl) (by kernel_rfl) (by kernel_rfl) (by kernel_rfl)) ?_
 intro W base args ds gs before hval0 hW hcnd _;have hval:∀ (j:Nat) t v,Tryz.f13.params[j]?=some t->args[j]?=some v->Value.okWide Tryz.prog W .any base t v:=hval0;have hW':=hW;obtain ⟨p,q,hA0,hV,rfl,hfz,hnd⟩:=hW;have hA:DataW.TrodAll enc Tryz.prog W 0 (fun _=>true) true Tryz.f13.params.toList args.toList ds p:=hA0;rw [Tryz.params13] at hA hval;obtain ⟨v1,v2,v3,v4,v5,v6,d1,d2,d3,d4,d5,d6,hargs,rfl⟩:∃ v1 v2 v3 v4 v5 v6 d1 d2 d3 d4 d5 d6,args=#[v1,v2,v3,v4,v5,v6]/\ds=[d1,d2,d3,d4,d5,d6]:=by
  obtain ⟨v1,v2,v3,v4,v5,v6,d1,d2,d3,d4,d5,d6,h1,h2⟩:=xWJ hA;exact ⟨v1,v2,v3,v4,v5,v6,d1,d2,d3,d4,d5,d6,by cases args;simp at h1;rw [h1],h2⟩
 subst hargs;obtain ⟨rfl,rfl⟩:=trodVars_none hV;clear hA0 hval0;simp only [List.append_nil] at hW';refine (walk hA (hval 0 25 v1 rfl rfl) (hval 1 63 v2 rfl rfl) (hval 2 5 v3 rfl rfl) (hval 3 5 v4 rfl rfl) (hval 4 5 v5 rfl rfl) (hval 5 73 v6 rfl rfl)).mono fun e W' ⟨he,hg⟩=>?_
 subst he;have hlt:∀ x∈p,x.block<W.heap.size:=fun x hx=>hW'.lt x (by simpa using hx)
 exact ⟨_,rfl,post_of_same (pa:=p) (pv:=[]) hW' (fun b sp hd=>trodAll_cons_mk (shut_bool Tryz.underlying4 _) trodAll_mk0) (fun sp hs=>xHQ xZM xZN wAQ hA hg hlt hs) (fun _ _=>rfl) (by simp)
  (hg.frame _) hg.2.1 (ok_one (by kernel_rfl) rfl (okWide_bool_mk Tryz.underlying4 _))⟩
theorem over:Rows.rosterEasierRow.holds Tryz.pinned (OpenSpec.ofChange Rows.rosterEasierSpec) :=
 OpenClaim.holds_of_wide 13 Tryz.f13 rfl rfl rfl rfl rfl rfl rfl ⟨rfl,rfl,rfl,rfl,rfl⟩ rfl rfl rfl rfl rfl (by kernel_rfl) Tryz.func13 (by kernel_rfl)
  (of_decide_eq_true (by kernel_rfl)) (by unfold Func.isWrapper;first | (rw [if_pos (by decide +kernel)];kernel_rfl) | (rw [if_neg (by decide +kernel)];exact ⟨rfl,rfl⟩))
  (fun os started H enc _=>xXS os started H enc)
theorem proved:Rows.RosterEasierSaid :=
 over
#print axioms proved
end Go.Proofs.YtgfiniccfpfplaaGreat.rosterEasier
