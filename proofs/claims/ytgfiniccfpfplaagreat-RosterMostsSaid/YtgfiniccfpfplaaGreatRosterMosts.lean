/- Proved: the statement RosterMosts returns true, whatever its arguments; no condition. -/

import Derived.Test.YtgfiniccfpfplaaGreatRows
import Derived.Test.YtgfiniccfpfplaaGreatSW
import Derived.Test.YtgfiniccfpfplaaGreatAw
import Derived.WalkKit
import Derived.ProofKit
import Derived.OpenShut
namespace Go.Proofs.YtgfiniccfpfplaaGreat.rosterMosts
open Go.ChangeShapes Go.WideShapes Go.ChangeAt Go.RowKit
open Go.Lay
set_option linter.unusedVariables false
theorem own:ownKnob Tryz.prog.godebug=none:=by kernel_rfl
theorem hkids:Kids Tryz.prog (· < Tryz.prog.types.size):=kids_rows (by kernel_rfl) (by kernel_rfl)
theorem hfull:∀ (t:Nat) (e:TypeId),t<Tryz.prog.types.size→Tryz.prog.underlying t=some (.slice e)→0<Tryz.prog.cellsOf e:=slices_full_of Tryz.prog (by kernel_rfl)
theorem htys:∀ t∈([25]:List TypeId),t<Tryz.prog.types.size:=of_decide_eq_true (by kernel_rfl)
theorem trod_n {H:Type} {enc:TypeId × Value→H} {w:World} {b:Nat} {sp:Nat→Bool} {held:Bool} {vs:List Value} {ds:List (DataW H)} {ps:List MemPlace} (h:DataW.TrodAll enc Tryz.prog w b sp held [25] vs ds ps):∃ v1 d1,vs=[v1]∧ds=[d1]:=yVE h
theorem vrs_n {ι:Inj} {v1:Value}:∀ {avs:List Value},VRs ι avs [v1]→∃ a1,avs=[a1]∧VR ι a1 v1
 | [a1],(.cons y1 .nil)=>⟨a1,rfl,y1⟩
set_option maxRecDepth 100000 in
theorem walk {H:Type} {enc:TypeId × Value→H} {W:World} {v1:Value} {ds:List (DataW H)} {ps:List MemPlace} (hA:DataW.TrodAll enc Tryz.prog W 0 (fun _=>true) true [25] [v1] ds ps)
  (ok1:Value.okWide Tryz.prog W .any 0 25 v1) :
  Calls Tryz.prog 8 ⟨[v1]⟩ W fun e w'=>e=.returned (.bool true)∧Grown W w':=by
 obtain ⟨hr,ho⟩:=yVR W
 obtain ⟨ι,σ,avs,r1,o1,_,_,v1',w1⟩:=yHQ (n:=6) hA (by simp only [List.mem_cons,List.not_mem_nil,or_false];rintro t (rfl) <;> kernel_rfl) hr ho (by simp only [List.mem_cons,List.not_mem_nil,or_false];rintro v (rfl) <;> first | exact yTL ok1)
 obtain ⟨a1,rfl,y1⟩:=vrs_n v1'
 obtain ⟨w0,p0,q0,l0,c0,m0,d0,e0,h0,ag0,av0⟩:=wt_week w1.1
 have k0:a1=.agg ⟨wkc w0.days p0 l0 c0 q0 m0 d0 w0.rest w0.run w0.hours⟩:=by
  cases a1 with
  | agg cs=>cases cs;simp [Value.cells] at e0;rw [e0]
  | _=>simp [Value.cells] at e0
 subst k0
 exact zYS.walk zCS Aw.shut (yNF h0) r1 o1 (.cons y1 .nil)
set_option maxRecDepth 100000 in
theorem lifted (os:Os) (started:os.Started) (H:Type) (enc:TypeId × Value→H) :
  ReturnsInHanded {} Tryz.checked os 8 .any (Rows.rosterMostsSpec.pre6 enc Tryz.prog Tryz.f8 Rows.rosterMostsRow.domain false) (Rows.rosterMostsSpec.post enc Tryz.prog Tryz.f8 false true false false):=by
 refine returnsInHanded_of_change (C:=Tryz.checked) own started (by kernel_rfl) Tryz.func8
  (ChangeSpec.witness6 (enc:=enc) (C:=Tryz.checked) false ⟨#[],#[.agg #[.int .i64 0,.slice none 0 0,.slice none 0 0,.int .i64 0,.int .i64 0,.int .i64 0]],[]⟩ 8 (by kernel_rfl) (by kernel_rfl) (by kernel_rfl) (by kernel_rfl)) ?_
 intro W base args ds gs before hval0 hW hcnd _
 have hval:∀ (j:Nat) t v,Tryz.f8.params[j]?=some t→args[j]?=some v→Value.okWide Tryz.prog W .any base t v:=hval0
 have hW':=hW
 obtain ⟨p,q,hA0,hV,rfl,hfz,hnd⟩:=hW
 have hA:DataW.TrodAll enc Tryz.prog W 0 (fun _=>true) true Tryz.f8.params.toList args.toList ds p:=hA0
 rw [Tryz.params8] at hA hval
 obtain ⟨v1,d1,hargs,rfl⟩:∃ v1 d1,args=#[v1]∧ds=[d1]:=by
  obtain ⟨v1,d1,h1,h2⟩:=trod_n hA
  exact ⟨v1,d1,by cases args;simp at h1;rw [h1],h2⟩
 subst hargs
 obtain ⟨rfl,rfl⟩:=trodVars_none hV
 clear hA0 hval0
 simp only [List.append_nil] at hW'
 refine (walk hA (hval 0 25 v1 rfl rfl)).mono fun e W' ⟨he,hg⟩=>?_
 subst he
 have hlt:∀ x∈p,x.block<W.heap.size:=fun x hx=>hW'.lt x (by simpa using hx)
 exact ⟨_,rfl,post_of_same (pa:=p) (pv:=[]) hW' (fun b sp hd=>trodAll_cons_mk (shut_bool Tryz.underlying4 _) trodAll_mk0) (fun sp hs=>yUO hkids hfull htys hA hg hlt hs) (fun _ _=>rfl) (by simp)
  (hg.frame _) hg.2.1 (ok_one (by kernel_rfl) rfl (okWide_bool_mk Tryz.underlying4 _))⟩
theorem over:Rows.rosterMostsRow.holds Tryz.pinned (OpenSpec.ofChange Rows.rosterMostsSpec) :=
 OpenClaim.holds_of_wide 8 Tryz.f8 rfl rfl rfl rfl rfl rfl rfl ⟨rfl,rfl,rfl,rfl,rfl⟩ rfl rfl rfl rfl rfl (by kernel_rfl) Tryz.func8 (by kernel_rfl)
  (of_decide_eq_true (by kernel_rfl)) (by unfold Func.isWrapper;first | (rw [if_pos (by decide +kernel)];kernel_rfl) | (rw [if_neg (by decide +kernel)];exact ⟨rfl,rfl⟩))
  (fun os started H enc _=>lifted os started H enc)
theorem proved:Rows.RosterMostsSaid :=
 over
#print axioms proved
end Go.Proofs.YtgfiniccfpfplaaGreat.rosterMosts
