import Derived.Test.YtgfiniccfpfplaaGreatRB
import Derived.Test.YtgfiniccfpfplaaGreatTy
import Derived.Test.YtgfiniccfpfplaaGreatRF

namespace Go.Proofs.YtgfiniccfpfplaaGreat
open Go Go.Lay
set_option linter.unusedVariables false
set_option linter.unusedSimpArgs false
set_option maxRecDepth 20000
def zZ (rs:List Int) (i:Nat):Int:=rs.getD i 0
section
variable {w:Wk} {ros tru:Nat->Int} {k D i:Nat}
end
section
variable {Z:St} {w:Wk} {p q r t:Option Addr} {l m c d rc tc:Nat} {rs ts:List Int} {k D:Nat}
end
end Go.Proofs.YtgfiniccfpfplaaGreat

namespace Go.Proofs.YtgfiniccfpfplaaGreat
open Go Go.Lay
open Tryz renaming prog -> Pg
set_option linter.unusedVariables false
set_option maxRecDepth 20000
section
variable (l:oAa) (l_l l_c BA:Nat) (q0:Int->St->Prop) (q2:St->Prop) (t4_1:Bool) (q1:Bool->St->Prop) (ce:Int) (Z:St) (Q:vPa) (Nx:Int->St->Prop) (Qr:Bool->St->Prop) (Q0:St->Prop)
noncomputable def zQE:Code:=(Code.part [1,0,1,0,0] (zU Pg 21))
def uK:lNa:=[(1,.slice l l_l l_c),(2,pt BA 0),(5,iV ce)]
def yBG:Alt:=⟨Int,.normal,fun t=>uK l l_l l_c BA t,fun t=>[],fun t Z=>q0 t Z⟩
def zKJ (l:oAa) (l_l l_c BA:Nat) (t4_1:Bool):lNa:=[(4,.bool t4_1)]
def zAT:Alt:=⟨Bool,.ret,fun t=>zKJ l l_l l_c BA t,fun t=>[],fun t Z=>q1 t Z⟩
def zKK:lNa:=[(1,.slice l l_l l_c),(2,pt BA 0)]
def zAU:Alt:=⟨Unit,(.exit 0),fun t=>zKK l l_l l_c BA,fun t=>[],fun t Z=>q2 Z⟩
def zCY:Prop:=yR Pg (zX Pg) none zQE 28 (uK l l_l l_c BA ce) [] [yBG l l_l l_c BA Nx,zAT l l_l l_c BA Qr,zAU l l_l l_c BA Q0] Z
def zQF:Prop:=xD Pg (zX Pg) none zQE 28 (uK l l_l l_c BA ce) [] [zAT l l_l l_c BA Qr,zAU l l_l l_c BA Q0] Z
def zKL:Prop:=kZ (zX Pg) (zU Pg 21) [1,0,1,0] (kFn Pg 21 Q) .ret 28 (zKJ l l_l l_c BA t4_1) Z
def zEF:Prop:=kZ (zX Pg) (zU Pg 21) [1,0,1,0] (kFn Pg 21 Q) (.exit 0) 28 (zKK l l_l l_c BA) Z
end
variable {l qD af ae qK:oAa} {l_l l_c BA lG cE ac ad aa ab lN cL:Nat} {Inv:Nat->Int->St->Prop} {Qr Pr:Bool->St->Prop} {Q0 P0:St->Prop} {ce nF ak am au aj:Int} {l_a:Addr} {Z:St} {Nx:Int->St->Prop} {Q:vPa} {t4_1:Bool}
theorem zVE (hb:∀ k ce Z,Inv k ce Z->zCY l l_l l_c BA ce Z (fun i5_1' Z'=>∃ k',k' < k/\Inv k' i5_1' Z') Qr Q0):∀ k ce Z,Inv k ce Z->zQF l l_l l_c BA ce Z Qr Q0 :=
 fun k ce Z h=>zY (alts:=[zAT l l_l l_c BA Qr,zAU l l_l l_c BA Q0]) (T:=Int) (lf:=fun t=>uK l l_l l_c BA t) (mf:=fun t=>[]) (Inv:=fun k t Z=>Inv k t Z) (ai zBD (ai (xZ 0) trivial)) (fun k t Z h=>hb k t Z h) k ce Z h
theorem yBF (h1:lz Z 3 (zM l_a (Int.toNat ce*1)) (iV nF)) (h2:lz Z 23 (qe BA 2) (.slice qD lG cE)) (h3:zD Pg 33 [iV nF,iV (-1),iV ((lG:Int)-1)] Z (.bool true) Z) (nx:Nx (ce+1) Z) (u1:ce<(l_l:Int):=by omega) (u2:Ix ce l_l:=by omega) (u3:I6 ((lG:Int)-1):=by omega) (u4:I6 (ce+1):=by omega):zCY (some l_a) l_l l_c BA ce Z Nx Qr Q0 :=
 kO 0 (ce+1) [.g,.g,.g,.b true,.g,.g,.i,.l (iV nF),.g,.l (.slice qD lG cE),.g,.n ((lG:Int)-1),.c (.bool true) Z,.g,.g,.n (ce+1),.g] (fun _ f=>(ai (zR u1) (an6 u2 h1 h2 (w64 u3) h3 (w64 u4) f))) nx
theorem yBE (h1:lz Z 3 (zM l_a (Int.toNat ce*1)) (iV nF)) (h2:lz Z 23 (qe BA 2) (.slice qD lG cE)) (h3:zD Pg 33 [iV nF,iV (-1),iV ((lG:Int)-1)] Z (.bool false) Z) (nx:Qr false Z) (u1:ce<(l_l:Int):=by omega) (u2:Ix ce l_l:=by omega) (u3:I6 ((lG:Int)-1):=by omega):zCY (some l_a) l_l l_c BA ce Z Nx Qr Q0 :=
 kO 1 false [.g,.g,.g,.b true,.g,.g,.i,.l (iV nF),.g,.l (.slice qD lG cE),.g,.n ((lG:Int)-1),.c (.bool false) Z,.g,.g] (fun _ f=>(an6 (zR u1) u2 h1 h2 (w64 u3) h3 f)) nx
theorem yBD (nx:Q0 Z) (u1:¬ ce<(l_l:Int):=by omega):zCY l l_l l_c BA ce Z Nx Qr Q0 :=
 kO 2 () [.g,.g,.g,.b false] (fun _ f=>(ai (zT u1) f)) nx
theorem yGR (hL:zQF l l_l l_c Z.next 0 (Z.row (wkc ak af ac ad ae aa ab am au aj) 6) Pr P0) (kr:∀ t4_1' Z',Pr t4_1' Z'->zKL l l_l l_c Z.next t4_1' Z' Q) (k0:∀ Z',P0 Z'->zEF l l_l l_c Z.next Z' Q):zO Pg 21 [qf (wkc ak af ac ad ae aa ab am au aj),.slice l l_l l_c] Z Q :=
 zG [.g,.g,.g,.lf 28 (uK l l_l l_c Z.next 0) [zAT l l_l l_c Z.next Pr,zAU l l_l l_c Z.next P0]] (kd (ai (ai tt (ai (arf (uK l l_l l_c Z.next 0)) hL)) (ai (kz1 kr) (ai (kz0 k0) trivial))))
theorem zVB (nx:Q (.bool t4_1) Z):zKL l l_l l_c BA t4_1 Z Q :=
 sK [] nx
theorem zVD (h1:lz Z 22 (qe BA 1) (.slice qK lN cL)) (nx:Q (.bool true) Z) (u1:(l_l:Int)=(lN:Int):=by omega):zEF l l_l l_c BA Z Q :=
 sK [.g,.g,.g,.l (.slice qK lN cL),.g,.b true,.g] (an2 h1 (xI u1) nx)
theorem zVC (h1:lz Z 22 (qe BA 1) (.slice qK lN cL)) (nx:Q (.bool false) Z) (u1:¬ (l_l:Int)=(lN:Int):=by omega):zEF l l_l l_c BA Z Q :=
 sK [.g,.g,.g,.l (.slice qK lN cL),.g,.b false,.g] (an2 h1 (xG u1) nx)
end Go.Proofs.YtgfiniccfpfplaaGreat

namespace Go.Proofs.YtgfiniccfpfplaaGreat
open Go Go.Lay
set_option linter.unusedVariables false
set_option linter.unusedSimpArgs false
set_option maxRecDepth 20000
structure Sane (w:Wk) (l m:Nat):Prop where
 l12:l<=12
 m6:m<=6
 duty:∀ i,i<l->0<=(dty w i).day/\(dty w i).day<=6/\0<=(dty w i).on/\(dty w i).on<=1439/\(dty w i).on<=(dty w i).lo/\(dty w i).lo<=(dty w i).hi/\(dty w i).hi<=(dty w i).on+1440
 dr:∀ k,k<m->-10080<=(drv w k).off/\(drv w k).off<=1440/\0<=(drv w k).row/\(drv w k).row<=14/\0<=(drv w k).used/\(drv w k).used<=20000
 kn:∀ k,k<m->(drv w k).knows.length<=1000/\(drv w k).leave.length<=1000/\(drv w k).wish.length<=1000
 rest:0<=w.rest/\w.rest<=3000
 run:1<=w.run/\w.run<=14
 hours:0<=w.hours/\w.hours<=20000
theorem yWL {n:Nat} {p q r:Option Addr} {l c m d j e:Nat} {x y z:Int} (h1:∀ a,p=some a->a.block<n) (h2:∀ a,q=some a->a.block<n) (h3:∀ a,r=some a->a.block<n):yU RD n (.agg ⟨zL p l c q m d r j e x y z⟩)=true:=by
 have e1:∀ a b:Nat,a<b->Nat.blt a b=true:=fun a b h=>by rw [Nat.blt_eq];exact h
 show List.all (zL p l c q m d r j e x y z) (yU (RD-1) n)=true;rcases p with _ | p <;> rcases q with _ | q <;> rcases r with _ | r <;> simp [yU,RD] <;> simp_all
theorem zSX {n:Nat} {p q:Option Addr} {l c m d:Nat} {a x y z:Int} (h1:∀ a,p=some a->a.block<n) (h2:∀ a,q=some a->a.block<n):yU RD n (.agg ⟨wkc a p l c q m d x y z⟩)=true:=by
 have e1:∀ a b:Nat,a<b->Nat.blt a b=true:=fun a b h=>by rw [Nat.blt_eq];exact h
 show List.all (wkc a p l c q m d x y z) (yU (RD-1) n)=true;rcases p with _ | p <;> rcases q with _ | q <;> simp [yU,RD] <;> simp_all
section
variable {Z:St} {w:Wk} {p q r t:Option Addr} {l m c d rc tc:Nat} {rs ts:List Int} {k i:Nat}
end
end Go.Proofs.YtgfiniccfpfplaaGreat

namespace Go.Proofs.YtgfiniccfpfplaaGreat
open Go Go.Lay
set_option linter.unusedVariables false
set_option linter.unusedSimpArgs false
set_option maxRecDepth 20000
abbrev yPJ (b:Bch):Value:=.agg ⟨rcd b.kind b.drv b.dut⟩
section
variable {w:Wk} {ros tru:Nat->Int} {k q j:Nat}
end
section
variable {Z:St} {w:Wk} {p q r t:Option Addr} {l m c d rc tc:Nat} {rs ts:List Int} {k i:Nat}
end
end Go.Proofs.YtgfiniccfpfplaaGreat

namespace Go.Proofs.YtgfiniccfpfplaaGreat
open Go Go.Lay
set_option linter.unusedVariables false
set_option linter.unusedSimpArgs false
set_option maxRecDepth 20000
def zEN (w:Wk) (rs:List Int):Bool:=rs.all (fun x=>inB x (-1) ((w.drivers.length:Int)-1)) && decide (rs.length=w.duties.length)
def zBE (w:Wk):List Int:=w.duties.map Dty.hi
section
variable {Z:St} {w:Wk} {p q r t:Option Addr} {l m c d rl rc tl tc:Nat} {rs ts:List Int} {td tv:Nat}
theorem yLD (h:WkP Z 92 76 w p l q m) (hr:yG Z r rl rs) (hl:rl<=1073741824) (hm:m<=1073741824):zD Tryz.prog 21 [.agg ⟨wkc w.days p l c q m d w.rest w.run w.hours⟩,.slice r rl rc] Z (.bool (zEN w rs)) Z:=by
 have hn:=h.len.1;have hmm:=h.len.2;have el:=hr.len;obtain ⟨Z1,hZ1⟩:∃ Z1,Z1=Z.re.row (wkc w.days p l c q m d w.rest w.run w.hours) 6:=⟨_,rfl⟩;have hk0:=xP Z.re (wkc w.days p l c q m d w.rest w.run w.hours) 6;rw [<- hZ1] at hk0;have hr0:yG Z1 r rl rs:=by rw [hZ1];exact SlV.le hr ((le0 Z).trans (Le.row _ _ _))
 have lD:zB Tryz.prog Z1 22 ⟨Z.re.next,1,none⟩=some (.slice p l c):=hk0.ld zCU rfl;have lV:zB Tryz.prog Z1 23 ⟨Z.re.next,2,none⟩=some (.slice q m d):=hk0.ld zHG rfl;have low1:Z.next<=Z1.low:=by rw [hZ1];exact Nat.le_refl _
 refine (yGR (zVE (Inv:=fun k i τ=>τ=Z1/\∃ j:Nat,i=j/\j+k=rl/\(rs.take j).all (fun x=>inB x (-1) ((w.drivers.length:Int)-1))=true) (Qr:=fun b τ=>τ=Z1/\b=false/\zEN w rs=false)
  (Q0:=fun τ=>τ=Z1/\rs.all (fun x=>inB x (-1) ((w.drivers.length:Int)-1))=true) ?_ rl 0 _ ⟨hZ1.symm,0,rfl,by omega,rfl⟩) ?_ ?_).pure
 ·rintro k i τ ⟨rfl,j,rfl,hk,ha⟩;by_cases hj:j<rl;rotate_left
  ·exact yBD ⟨rfl,by rwa [List.take_of_length_le (by omega)] at ha⟩ (by omega)
  obtain ⟨a,rfl,x,hx,lx⟩:=vF hr0 hj;have cin:=rIn_c (Z:=τ) (n:=x) (lo:=-1) (hi:=(m:Int)-1);cases hb:inB x (-1) ((m:Int)-1) with
  | true=>rw [hb] at cin;exact yBF lx lV cin ⟨k-1,by omega,rfl,j+1,by omega,by omega,zRJ hx ha (by rw [hmm];exact hb)⟩ (by omega) (by omega) (by omega) (by omega)
  | false=>rw [hb] at cin;exact yBE lx lV cin ⟨rfl,rfl,by unfold zEN;rw [yJB (f:=fun x=>inB x (-1) ((w.drivers.length:Int)-1)) (List.mem_of_getElem? hx) (by rw [hmm];exact hb)];rfl⟩ (by omega) (by omega) (by omega)
 ·rintro b τ ⟨rfl,rfl,e⟩;exact zVB ⟨by rw [e],low1⟩
 ·rintro τ ⟨rfl,e⟩;by_cases hh:rl=l
  ·exact zVD lD ⟨by unfold zEN;rw [e,decide_eq_true (by omega)];rfl,low1⟩ (by omega)
  ·exact zVC lD ⟨by unfold zEN;rw [e,decide_eq_false (by omega)];rfl,low1⟩ (by omega)
end
end Go.Proofs.YtgfiniccfpfplaaGreat
