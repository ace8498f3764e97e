
import Derived.Test.YtgfiniccfpfplaaGreatTy
namespace Go.Proofs.YtgfiniccfpfplaaGreat
open Go Go.Lay
open Tryz renaming prog -> Pg
set_option linter.unusedVariables false
set_option maxRecDepth 20000
section
variable (s:oAa) (s_l s_c:Nat) (f:FuncId) (v:Int) (f_a f_c:lVa) (q0:St->Prop) (Q:Int->St->Prop) (aC bt:Int) (Z:St) (q2:vPa) (Nx Qr:Int->St->Prop) (Q0:St->Prop)
noncomputable def yZD:Code:=(Code.part [1,0,1,0,0] (zU Pg 87))
def zNG:lNa:=[(0,.slice s s_l s_c),(1,.func (.func f) ⟨f_a⟩ ⟨f_c⟩),(7,iV (s_l:Int)),(8,iV aC)]
def idxD_a1n:Alt:=⟨Int,.normal,fun t=>zNG s s_l s_c f f_a f_c t,fun t=>[],fun t Z=>Q t Z⟩
def yEN (s:oAa) (s_l s_c:Nat) (f:FuncId) (f_a f_c:lVa) (bt:Int):lNa:=[(4,iV bt)]
def zNH:Alt:=⟨Int,.ret,fun t=>yEN s s_l s_c f f_a f_c t,fun t=>[],fun t Z=>Q t Z⟩
def yEO (s:oAa) (s_l s_c:Nat) (f:FuncId) (f_a f_c:lVa):lNa:=[]
def zNI:Alt:=⟨Unit,(.exit 0),fun t=>yEO s s_l s_c f f_a f_c,fun t=>[],fun t Z=>q0 Z⟩
def zVZ:Prop:=yR Pg (zX Pg) none yZD 19 (zNG s s_l s_c f f_a f_c aC) [] [idxD_a1n s s_l s_c f f_a f_c Nx,zNH s s_l s_c f f_a f_c Qr,zNI s s_l s_c f f_a f_c Q0] Z
def yZE:Prop:=xD Pg (zX Pg) none yZD 19 (zNG s s_l s_c f f_a f_c aC) [] [zNH s s_l s_c f f_a f_c Qr,zNI s s_l s_c f f_a f_c Q0] Z
def yEP:Prop:=kZ (zX Pg) (zU Pg 87) [1,0,1,0] (kFn Pg 87 q2) .ret 19 (yEN s s_l s_c f f_a f_c bt) Z
def yEQ:Prop:=kZ (zX Pg) (zU Pg 87) [1,0,1,0] (kFn Pg 87 q2) (.exit 0) 19 (yEO s s_l s_c f f_a f_c) Z
noncomputable def yYW:Code:=(Code.part [1,0,1,0,0] (zU Pg 88))
def zMW:lNa:=[(0,.slice s s_l s_c),(1,.func (.func f) ⟨f_a⟩ ⟨f_c⟩),(7,iV (s_l:Int)),(8,iV aC)]
def idxV_a1n:Alt:=⟨Int,.normal,fun t=>zMW s s_l s_c f f_a f_c t,fun t=>[],fun t Z=>Q t Z⟩
def yEB (s:oAa) (s_l s_c:Nat) (f:FuncId) (f_a f_c:lVa) (bt:Int):lNa:=[(4,iV bt)]
def zMX:Alt:=⟨Int,.ret,fun t=>yEB s s_l s_c f f_a f_c t,fun t=>[],fun t Z=>Q t Z⟩
def yEC (s:oAa) (s_l s_c:Nat) (f:FuncId) (f_a f_c:lVa):lNa:=[]
def zMY:Alt:=⟨Unit,(.exit 0),fun t=>yEC s s_l s_c f f_a f_c,fun t=>[],fun t Z=>q0 Z⟩
def zVW:Prop:=yR Pg (zX Pg) none yYW 19 (zMW s s_l s_c f f_a f_c aC) [] [idxV_a1n s s_l s_c f f_a f_c Nx,zMX s s_l s_c f f_a f_c Qr,zMY s s_l s_c f f_a f_c Q0] Z
def yYX:Prop:=xD Pg (zX Pg) none yYW 19 (zMW s s_l s_c f f_a f_c aC) [] [zMX s s_l s_c f f_a f_c Qr,zMY s s_l s_c f f_a f_c Q0] Z
def yED:Prop:=kZ (zX Pg) (zU Pg 88) [1,0,1,0] (kFn Pg 88 q2) .ret 19 (yEB s s_l s_c f f_a f_c bt) Z
def yEE:Prop:=kZ (zX Pg) (zU Pg 88) [1,0,1,0] (kFn Pg 88 q2) (.exit 0) 19 (yEC s s_l s_c f f_a f_c) Z
noncomputable def yZB:Code:=(Code.part [1,0,1,0,0] (zU Pg 105))
def zND:lNa:=[(0,.slice s s_l s_c),(1,.func (.func f) ⟨[]⟩ ⟨f_c⟩),(7,iV (s_l:Int)),(8,iV aC)]
def idxI_a1n:Alt:=⟨Int,.normal,fun t=>zND s s_l s_c f f_c t,fun t=>[],fun t Z=>Q t Z⟩
def yEJ (s:oAa) (s_l s_c:Nat) (f:FuncId) (f_c:lVa) (bt:Int):lNa:=[(4,iV bt)]
def zNE:Alt:=⟨Int,.ret,fun t=>yEJ s s_l s_c f f_c t,fun t=>[],fun t Z=>Q t Z⟩
def yEK (s:oAa) (s_l s_c:Nat) (f:FuncId) (f_c:lVa):lNa:=[]
def zNF:Alt:=⟨Unit,(.exit 0),fun t=>yEK s s_l s_c f f_c,fun t=>[],fun t Z=>q0 Z⟩
def zVY:Prop:=yR Pg (zX Pg) none yZB 19 (zND s s_l s_c f f_c aC) [] [idxI_a1n s s_l s_c f f_c Nx,zNE s s_l s_c f f_c Qr,zNF s s_l s_c f f_c Q0] Z
def yZC:Prop:=xD Pg (zX Pg) none yZB 19 (zND s s_l s_c f f_c aC) [] [zNE s s_l s_c f f_c Qr,zNF s s_l s_c f f_c Q0] Z
def yEL:Prop:=kZ (zX Pg) (zU Pg 105) [1,0,1,0] (kFn Pg 105 q2) .ret 19 (yEJ s s_l s_c f f_c bt) Z
def yEM:Prop:=kZ (zX Pg) (zU Pg 105) [1,0,1,0] (kFn Pg 105 q2) (.exit 0) 19 (yEK s s_l s_c f f_c) Z
noncomputable def yND:Code:=(Code.part [1,0,1,0,0] (zU Pg 83))
def zGX:lNa:=[(0,.slice s s_l s_c),(1,iV v),(7,iV (s_l:Int)),(8,iV aC)]
def index_a1n:Alt:=⟨Int,.normal,fun t=>zGX s s_l s_c v t,fun t=>[],fun t Z=>Q t Z⟩
def zYO (s:oAa) (s_l s_c:Nat) (v bt:Int):lNa:=[(4,iV bt)]
def zIL:Alt:=⟨Int,.ret,fun t=>zYO s s_l s_c v t,fun t=>[],fun t Z=>Q t Z⟩
def zYP (s:oAa) (s_l s_c:Nat) (v:Int):lNa:=[]
def zIM:Alt:=⟨Unit,(.exit 0),fun t=>zYP s s_l s_c v,fun t=>[],fun t Z=>q0 Z⟩
def zQW:Prop:=yR Pg (zX Pg) none yND 19 (zGX s s_l s_c v aC) [] [index_a1n s s_l s_c v Nx,zIL s s_l s_c v Qr,zIM s s_l s_c v Q0] Z
def yNE:Prop:=xD Pg (zX Pg) none yND 19 (zGX s s_l s_c v aC) [] [zIL s s_l s_c v Qr,zIM s s_l s_c v Q0] Z
def zYQ:Prop:=kZ (zX Pg) (zU Pg 83) [1,0,1,0] (kFn Pg 83 q2) .ret 19 (zYO s s_l s_c v bt) Z
def zYR:Prop:=kZ (zX Pg) (zU Pg 83) [1,0,1,0] (kFn Pg 83 q2) (.exit 0) 19 (zYP s s_l s_c v) Z
end
variable {s dD dC dR l qE qD qF af ae aU aY bh q1:oAa} {s_l s_c bV bW bT bU cf cj l_l l_c lF cF lG cE lH cG ac ad aa ab aH aI aJ aK aO aP l1 c1:Nat} {f f1 right:FuncId} {f_c f_a dK f1_a bu dd:lVa} {n1 eG ff cx cy dB eF eE dS aC nF nG nD nB nA bt nE ak am au aj aA aN ax ay aD bx bz bn x n v:Int} {Z:St} {Q:vPa} {v0 s_a:Addr} {Inv:Nat->Int->St->Prop} {Qr Nx Pr:Int->St->Prop} {Q0 P0:St->Prop} {b3 b6 b2 b1:Bool}
theorem conD_ra (h1:zD Pg 87 [.slice s s_l s_c,.func (.func f) ⟨f_a⟩ ⟨f_c⟩] Z (iV n1) Z) (nx:Q (.bool true) Z) (u1:0<=n1:=by omega):zO Pg 67 [.slice s s_l s_c,.func (.func f) ⟨f_a⟩ ⟨f_c⟩] Z Q :=
 zG [.g,.g,.g,.c (iV n1) Z,.b true,.g] (kd (an2 h1 (yE u1) nx))
theorem conD_rb (h1:zD Pg 87 [.slice s s_l s_c,.func (.func f) ⟨f_a⟩ ⟨f_c⟩] Z (iV n1) Z) (nx:Q (.bool false) Z) (u1:¬ 0<=n1:=by omega):zO Pg 67 [.slice s s_l s_c,.func (.func f) ⟨f_a⟩ ⟨f_c⟩] Z Q :=
 zG [.g,.g,.g,.c (iV n1) Z,.b false,.g] (kd (an2 h1 (yH u1) nx))
theorem allD1_ra:let s1:=Z.row (zF eG ff cx cy dB) 5;∀ (h1:lz s1 86 v0 (.func (.func f1) ⟨f1_a⟩ ⟨dK⟩)) (h2:zD Pg f1 (f1_a ++ (qf (zF eG ff cx cy dB)::dK)) s1 (.bool true) s1) (nx:Q (.bool false) s1),zO Pg 68 [qf (zF eG ff cx cy dB),pz v0] Z Q:=
 let s1:=Z.row (zF eG ff cx cy dB) 5;fun h1 h2 nx=>zG [.g,.g,.l (.func (.func f1) ⟨f1_a⟩ ⟨dK⟩),.l (qf (zF eG ff cx cy dB)),.c (.bool true) s1,.g,.g] (kd (an3 h1 ((zC _ _ _).rw.ldN zOU vX (k:=0) rfl rfl (nle rfl):lz s1 85 (qe Z.next 0) (qf (zF eG ff cx cy dB))) h2 nx))
theorem allD1_rb:let s1:=Z.row (zF eG ff cx cy dB) 5;∀ (h1:lz s1 86 v0 (.func (.func f1) ⟨f1_a⟩ ⟨dK⟩)) (h2:zD Pg f1 (f1_a ++ (qf (zF eG ff cx cy dB)::dK)) s1 (.bool false) s1) (nx:Q (.bool true) s1),zO Pg 68 [qf (zF eG ff cx cy dB),pz v0] Z Q:=
 let s1:=Z.row (zF eG ff cx cy dB) 5;fun h1 h2 nx=>zG [.g,.g,.l (.func (.func f1) ⟨f1_a⟩ ⟨dK⟩),.l (qf (zF eG ff cx cy dB)),.c (.bool false) s1,.g,.g] (kd (an3 h1 ((zC _ _ _).rw.ldN zOU vX (k:=0) rfl rfl (nle rfl):lz s1 85 (qe Z.next 0) (qf (zF eG ff cx cy dB))) h2 nx))
theorem conV_ra (h1:zD Pg 88 [.slice s s_l s_c,.func (.func f) ⟨f_a⟩ ⟨f_c⟩] Z (iV n1) Z) (nx:Q (.bool true) Z) (u1:0<=n1:=by omega):zO Pg 69 [.slice s s_l s_c,.func (.func f) ⟨f_a⟩ ⟨f_c⟩] Z Q :=
 zG [.g,.g,.g,.c (iV n1) Z,.b true,.g] (kd (an2 h1 (yE u1) nx))
theorem conV_rb (h1:zD Pg 88 [.slice s s_l s_c,.func (.func f) ⟨f_a⟩ ⟨f_c⟩] Z (iV n1) Z) (nx:Q (.bool false) Z) (u1:¬ 0<=n1:=by omega):zO Pg 69 [.slice s s_l s_c,.func (.func f) ⟨f_a⟩ ⟨f_c⟩] Z Q :=
 zG [.g,.g,.g,.c (iV n1) Z,.b false,.g] (kd (an2 h1 (yH u1) nx))
theorem allV1_ra:let s1:=Z.row (zL dD bV bW dC bT bU dR cf cj eF eE dS) 6;∀ (h1:lz s1 89 v0 (.func (.func f1) ⟨f1_a⟩ ⟨dK⟩)) (h2:zD Pg f1 (f1_a ++ (qf (zL dD bV bW dC bT bU dR cf cj eF eE dS)::dK)) s1 (.bool true) s1) (nx:Q (.bool false) s1),zO Pg 70 [qf (zL dD bV bW dC bT bU dR cf cj eF eE dS),pz v0] Z Q:=
 let s1:=Z.row (zL dD bV bW dC bT bU dR cf cj eF eE dS) 6;fun h1 h2 nx=>zG [.g,.g,.l (.func (.func f1) ⟨f1_a⟩ ⟨dK⟩),.l (qf (zL dD bV bW dC bT bU dR cf cj eF eE dS)),.c (.bool true) s1,.g,.g] (kd (an3 h1 ((zC _ _ _).rw.ldN yFP zFZ (k:=0) rfl rfl (nle rfl):lz s1 88 (qe Z.next 0) (qf (zL dD bV bW dC bT bU dR cf cj eF eE dS))) h2 nx))
theorem allV1_rb:let s1:=Z.row (zL dD bV bW dC bT bU dR cf cj eF eE dS) 6;∀ (h1:lz s1 89 v0 (.func (.func f1) ⟨f1_a⟩ ⟨dK⟩)) (h2:zD Pg f1 (f1_a ++ (qf (zL dD bV bW dC bT bU dR cf cj eF eE dS)::dK)) s1 (.bool false) s1) (nx:Q (.bool true) s1),zO Pg 70 [qf (zL dD bV bW dC bT bU dR cf cj eF eE dS),pz v0] Z Q:=
 let s1:=Z.row (zL dD bV bW dC bT bU dR cf cj eF eE dS) 6;fun h1 h2 nx=>zG [.g,.g,.l (.func (.func f1) ⟨f1_a⟩ ⟨dK⟩),.l (qf (zL dD bV bW dC bT bU dR cf cj eF eE dS)),.c (.bool false) s1,.g,.g] (kd (an3 h1 ((zC _ _ _).rw.ldN yFP zFZ (k:=0) rfl rfl (nle rfl):lz s1 88 (qe Z.next 0) (qf (zL dD bV bW dC bT bU dR cf cj eF eE dS))) h2 nx))
theorem allD_ra:let Y1:=Z.row [.func (.func right) ⟨dd⟩ ⟨bu⟩] 1;∀ (h1:zD Pg 67 [.slice l l_l l_c,.func (.func 68) ⟨[]⟩ ⟨[pt Z.next 0]⟩] Y1 (.bool true) Y1) (nx:Q (.bool false) Y1),zO Pg 48 [.slice l l_l l_c,.func (.func right) ⟨dd⟩ ⟨bu⟩] Z Q:=
 fun h1 nx=>zG [.g,.g,.g,.g,.c (.bool true) (Z.row [.func (.func right) ⟨dd⟩ ⟨bu⟩] 1),.g,.g] (kd (ai h1 nx))
theorem allD_rb:let Y1:=Z.row [.func (.func right) ⟨dd⟩ ⟨bu⟩] 1;∀ (h1:zD Pg 67 [.slice l l_l l_c,.func (.func 68) ⟨[]⟩ ⟨[pt Z.next 0]⟩] Y1 (.bool false) Y1) (nx:Q (.bool true) Y1),zO Pg 48 [.slice l l_l l_c,.func (.func right) ⟨dd⟩ ⟨bu⟩] Z Q:=
 fun h1 nx=>zG [.g,.g,.g,.g,.c (.bool false) (Z.row [.func (.func right) ⟨dd⟩ ⟨bu⟩] 1),.g,.g] (kd (ai h1 nx))
theorem allV_ra:let Y1:=Z.row [.func (.func right) ⟨dd⟩ ⟨bu⟩] 1;∀ (h1:zD Pg 69 [.slice l l_l l_c,.func (.func 70) ⟨[]⟩ ⟨[pt Z.next 0]⟩] Y1 (.bool true) Y1) (nx:Q (.bool false) Y1),zO Pg 50 [.slice l l_l l_c,.func (.func right) ⟨dd⟩ ⟨bu⟩] Z Q:=
 fun h1 nx=>zG [.g,.g,.g,.g,.c (.bool true) (Z.row [.func (.func right) ⟨dd⟩ ⟨bu⟩] 1),.g,.g] (kd (ai h1 nx))
theorem allV_rb:let Y1:=Z.row [.func (.func right) ⟨dd⟩ ⟨bu⟩] 1;∀ (h1:zD Pg 69 [.slice l l_l l_c,.func (.func 70) ⟨[]⟩ ⟨[pt Z.next 0]⟩] Y1 (.bool false) Y1) (nx:Q (.bool true) Y1),zO Pg 50 [.slice l l_l l_c,.func (.func right) ⟨dd⟩ ⟨bu⟩] Z Q:=
 fun h1 nx=>zG [.g,.g,.g,.g,.c (.bool false) (Z.row [.func (.func right) ⟨dd⟩ ⟨bu⟩] 1),.g,.g] (kd (ai h1 nx))
theorem yUL (hb:∀ k aC Z,Inv k aC Z->zVZ s s_l s_c f f_a f_c aC Z (fun i8_1' Z'=>∃ k',k' < k/\Inv k' i8_1' Z') Qr Q0):∀ k aC Z,Inv k aC Z->yZE s s_l s_c f f_a f_c aC Z Qr Q0 :=
 fun k aC Z h=>zY (alts:=[zNH s s_l s_c f f_a f_c Qr,zNI s s_l s_c f f_a f_c Q0]) (T:=Int) (lf:=fun t=>zNG s s_l s_c f f_a f_c t) (mf:=fun t=>[]) (Inv:=fun k t Z=>Inv k t Z) (ai zBD (ai (xZ 0) trivial)) (fun k t Z h=>hb k t Z h) k aC Z h
theorem idxD_s1a (h1:lz Z 85 (zM s_a (Int.toNat aC*5)) (qf (zF nF nG nD nB nA))) (h2:zD Pg f (f_a ++ (qf (zF nF nG nD nB nA)::f_c)) Z (.bool true) Z) (nx:Qr aC Z) (u1:aC<(s_l:Int):=by omega) (u2:Ix aC s_l:=by omega):zVZ (some s_a) s_l s_c f f_a f_c aC Z Nx Qr Q0 :=
 kO 1 aC [.b true,.g,.g,.g,.g,.g,.i,.l (qf (zF nF nG nD nB nA)),.c (.bool true) Z,.g,.g] (fun _ f=>(an4 (zR u1) u2 h1 h2 f)) nx
theorem idxD_s1b (h1:lz Z 85 (zM s_a (Int.toNat aC*5)) (qf (zF nF nG nD nB nA))) (h2:zD Pg f (f_a ++ (qf (zF nF nG nD nB nA)::f_c)) Z (.bool false) Z) (nx:Nx (aC+1) Z) (u1:aC<(s_l:Int):=by omega) (u2:Ix aC s_l:=by omega) (u3:I6 (aC+1):=by omega):zVZ (some s_a) s_l s_c f f_a f_c aC Z Nx Qr Q0 :=
 kO 0 (aC+1) [.b true,.g,.g,.g,.g,.g,.i,.l (qf (zF nF nG nD nB nA)),.c (.bool false) Z,.n (aC+1),.g] (fun _ f=>(an5 (zR u1) u2 h1 h2 (w64 u3) f)) nx
theorem idxD_s1c (nx:Q0 Z) (u1:¬ aC<(s_l:Int):=by omega):zVZ s s_l s_c f f_a f_c aC Z Nx Qr Q0 :=
 kO 2 () [.b false] (fun _ f=>(ai (zT u1) f)) nx
theorem idxD_ra (hL:yZE s s_l s_c f f_a f_c 0 Z Pr P0) (kr:∀ i4_1' Z',Pr i4_1' Z'->yEP s s_l s_c f f_a f_c i4_1' Z' Q) (k0:∀ Z',P0 Z'->yEQ s s_l s_c f f_a f_c Z' Q):zO Pg 87 [.slice s s_l s_c,.func (.func f) ⟨f_a⟩ ⟨f_c⟩] Z Q :=
 zG [.g,.g,.g,.g,.lf 19 (zNG s s_l s_c f f_a f_c 0) [zNH s s_l s_c f f_a f_c Pr,zNI s s_l s_c f f_a f_c P0]] (kd (ai (ai tt (ai (arf (zNG s s_l s_c f f_a f_c 0)) hL)) (ai (kz1 kr) (ai (kz0 k0) trivial))))
theorem yUJ (nx:Q (iV bt) Z):yEP s s_l s_c f f_a f_c bt Z Q :=
 sK [] nx
theorem yUK (nx:Q (iV (-1)) Z):yEQ s s_l s_c f f_a f_c Z Q :=
 sK [.g] nx
theorem yUD (hb:∀ k aC Z,Inv k aC Z->zVW s s_l s_c f f_a f_c aC Z (fun i8_1' Z'=>∃ k',k' < k/\Inv k' i8_1' Z') Qr Q0):∀ k aC Z,Inv k aC Z->yYX s s_l s_c f f_a f_c aC Z Qr Q0 :=
 fun k aC Z h=>zY (alts:=[zMX s s_l s_c f f_a f_c Qr,zMY s s_l s_c f f_a f_c Q0]) (T:=Int) (lf:=fun t=>zMW s s_l s_c f f_a f_c t) (mf:=fun t=>[]) (Inv:=fun k t Z=>Inv k t Z) (ai zBD (ai (xZ 0) trivial)) (fun k t Z h=>hb k t Z h) k aC Z h
theorem idxV_s1a (h1:lz Z 88 (zM s_a (Int.toNat aC*6)) (qf (zL qE lF cF qD lG cE qF lH cG nB nA nE))) (h2:zD Pg f (f_a ++ (qf (zL qE lF cF qD lG cE qF lH cG nB nA nE)::f_c)) Z (.bool true) Z) (nx:Qr aC Z) (u1:aC<(s_l:Int):=by omega) (u2:Ix aC s_l:=by omega):zVW (some s_a) s_l s_c f f_a f_c aC Z Nx Qr Q0 :=
 kO 1 aC [.b true,.g,.g,.g,.g,.g,.i,.l (qf (zL qE lF cF qD lG cE qF lH cG nB nA nE)),.c (.bool true) Z,.g,.g] (fun _ f=>(an4 (zR u1) u2 h1 h2 f)) nx
theorem idxV_s1b (h1:lz Z 88 (zM s_a (Int.toNat aC*6)) (qf (zL qE lF cF qD lG cE qF lH cG nB nA nE))) (h2:zD Pg f (f_a ++ (qf (zL qE lF cF qD lG cE qF lH cG nB nA nE)::f_c)) Z (.bool false) Z) (nx:Nx (aC+1) Z) (u1:aC<(s_l:Int):=by omega) (u2:Ix aC s_l:=by omega) (u3:I6 (aC+1):=by omega):zVW (some s_a) s_l s_c f f_a f_c aC Z Nx Qr Q0 :=
 kO 0 (aC+1) [.b true,.g,.g,.g,.g,.g,.i,.l (qf (zL qE lF cF qD lG cE qF lH cG nB nA nE)),.c (.bool false) Z,.n (aC+1),.g] (fun _ f=>(an5 (zR u1) u2 h1 h2 (w64 u3) f)) nx
theorem idxV_s1c (nx:Q0 Z) (u1:¬ aC<(s_l:Int):=by omega):zVW s s_l s_c f f_a f_c aC Z Nx Qr Q0 :=
 kO 2 () [.b false] (fun _ f=>(ai (zT u1) f)) nx
theorem idxV_ra (hL:yYX s s_l s_c f f_a f_c 0 Z Pr P0) (kr:∀ i4_1' Z',Pr i4_1' Z'->yED s s_l s_c f f_a f_c i4_1' Z' Q) (k0:∀ Z',P0 Z'->yEE s s_l s_c f f_a f_c Z' Q):zO Pg 88 [.slice s s_l s_c,.func (.func f) ⟨f_a⟩ ⟨f_c⟩] Z Q :=
 zG [.g,.g,.g,.g,.lf 19 (zMW s s_l s_c f f_a f_c 0) [zMX s s_l s_c f f_a f_c Pr,zMY s s_l s_c f f_a f_c P0]] (kd (ai (ai tt (ai (arf (zMW s s_l s_c f f_a f_c 0)) hL)) (ai (kz1 kr) (ai (kz0 k0) trivial))))
theorem yUB (nx:Q (iV bt) Z):yED s s_l s_c f f_a f_c bt Z Q :=
 sK [] nx
theorem yUC (nx:Q (iV (-1)) Z):yEE s s_l s_c f f_a f_c Z Q :=
 sK [.g] nx
theorem wduty_ra:let s1:=Z.row (wkc ak af ac ad ae aa ab am au aj) 6;let s2:=s1.row (zF aA aN ax ay aD) 5;∀ (h1:zD Pg 47 [iV aA,iV 0,iV (ak-1)] s2 (.bool true) s2) (h2:zD Pg 47 [iV aN,iV 0,iV 1439] s2 (.bool true) s2) (h3:zD Pg 47 [iV aD,iV 0,iV 15] s2 (.bool b3) s2) (nx:Q (.bool b3) s2) (u1:I6 (ak-1):=by omega) (u2:aN<=ax:=by omega) (u3:ax<=ay:=by omega) (u4:I6 (aN+1440):=by omega) (u5:ay<=(aN+1440):=by omega),zO Pg 49 [qf (wkc ak af ac ad ae aa ab am au aj),qf (zF aA aN ax ay aD)] Z Q:=
 let s1:=Z.row (wkc ak af ac ad ae aa ab am au aj) 6;let s2:=s1.row (zF aA aN ax ay aD) 5;let s3:=Z.next+1;fun h1 h2 h3 nx u1 u2 u3 u4 u5=>zG [.g,.g,.g,.g,.l (iV aA),.g,.l (iV ak),.n (ak-1),.c (.bool true) s2,.g,.g,.l (iV aN),.c (.bool true) s2,.g,.g,.g,.l (iV aN),.g,.g,.l (iV ax),.b true,.g,.g,.g,.g,.l (iV ax),.g,.g,.l (iV ay),.b true,.g,.g,.g,.g,.l (iV ay),.g,.l (iV aN),.n (aN+1440),.b true,.g,.g,.g,.l (iV aD),.c (.bool b3) s2,.g,.g] (kd (an6 ((zC _ _ _).rw.ld zS (k:=0) rfl:lz s2 3 (qe s3 0) (iV aA)) ((zC _ _ _).row.rw.ld zS (k:=0) rfl:lz s2 3 (qe Z.next 0) (iV ak)) (w64 u1) h1 ((zC _ _ _).rw.ld zS (k:=1) rfl:lz s2 3 (qe s3 1) (iV aN)) h2 (an6 ((zC _ _ _).rw.ld zS (k:=1) rfl:lz s2 3 (qe s3 1) (iV aN)) ((zC _ _ _).rw.ld zS (k:=2) rfl:lz s2 3 (qe s3 2) (iV ax)) (yE u2) ((zC _ _ _).rw.ld zS (k:=2) rfl:lz s2 3 (qe s3 2) (iV ax)) ((zC _ _ _).rw.ld zS (k:=3) rfl:lz s2 3 (qe s3 3) (iV ay)) (yE u3) (an6 ((zC _ _ _).rw.ld zS (k:=3) rfl:lz s2 3 (qe s3 3) (iV ay)) ((zC _ _ _).rw.ld zS (k:=1) rfl:lz s2 3 (qe s3 1) (iV aN)) (w64 u4) (yE u5) ((zC _ _ _).rw.ld zS (k:=4) rfl:lz s2 3 (qe s3 4) (iV aD)) h3 nx))))
theorem wduty_rb:let s1:=Z.row (wkc ak af ac ad ae aa ab am au aj) 6;let s2:=s1.row (zF aA aN ax ay aD) 5;∀ (h1:zD Pg 47 [iV aA,iV 0,iV (ak-1)] s2 (.bool true) s2) (h2:zD Pg 47 [iV aN,iV 0,iV 1439] s2 (.bool true) s2) (nx:Q (.bool false) s2) (u1:I6 (ak-1):=by omega) (u2:aN<=ax:=by omega) (u3:ax<=ay:=by omega) (u4:I6 (aN+1440):=by omega) (u5:¬ ay<=(aN+1440):=by omega),zO Pg 49 [qf (wkc ak af ac ad ae aa ab am au aj),qf (zF aA aN ax ay aD)] Z Q:=
 let s1:=Z.row (wkc ak af ac ad ae aa ab am au aj) 6;let s2:=s1.row (zF aA aN ax ay aD) 5;let s3:=Z.next+1;fun h1 h2 nx u1 u2 u3 u4 u5=>zG [.g,.g,.g,.g,.l (iV aA),.g,.l (iV ak),.n (ak-1),.c (.bool true) s2,.g,.g,.l (iV aN),.c (.bool true) s2,.g,.g,.g,.l (iV aN),.g,.g,.l (iV ax),.b true,.g,.g,.g,.g,.l (iV ax),.g,.g,.l (iV ay),.b true,.g,.g,.g,.g,.l (iV ay),.g,.l (iV aN),.n (aN+1440),.b false,.g,.g,.g,.g] (kd (an4 ((zC _ _ _).rw.ld zS (k:=0) rfl:lz s2 3 (qe s3 0) (iV aA)) ((zC _ _ _).row.rw.ld zS (k:=0) rfl:lz s2 3 (qe Z.next 0) (iV ak)) (w64 u1) h1 (an6 ((zC _ _ _).rw.ld zS (k:=1) rfl:lz s2 3 (qe s3 1) (iV aN)) h2 ((zC _ _ _).rw.ld zS (k:=1) rfl:lz s2 3 (qe s3 1) (iV aN)) ((zC _ _ _).rw.ld zS (k:=2) rfl:lz s2 3 (qe s3 2) (iV ax)) (yE u2) ((zC _ _ _).rw.ld zS (k:=2) rfl:lz s2 3 (qe s3 2) (iV ax)) (an6 ((zC _ _ _).rw.ld zS (k:=3) rfl:lz s2 3 (qe s3 3) (iV ay)) (yE u3) ((zC _ _ _).rw.ld zS (k:=3) rfl:lz s2 3 (qe s3 3) (iV ay)) ((zC _ _ _).rw.ld zS (k:=1) rfl:lz s2 3 (qe s3 1) (iV aN)) (w64 u4) (yH u5) nx))))
theorem wduty_rc:let s1:=Z.row (wkc ak af ac ad ae aa ab am au aj) 6;let s2:=s1.row (zF aA aN ax ay aD) 5;∀ (h1:zD Pg 47 [iV aA,iV 0,iV (ak-1)] s2 (.bool true) s2) (h2:zD Pg 47 [iV aN,iV 0,iV 1439] s2 (.bool true) s2) (nx:Q (.bool false) s2) (u1:I6 (ak-1):=by omega) (u2:aN<=ax:=by omega) (u3:¬ ax<=ay:=by omega),zO Pg 49 [qf (wkc ak af ac ad ae aa ab am au aj),qf (zF aA aN ax ay aD)] Z Q:=
 let s1:=Z.row (wkc ak af ac ad ae aa ab am au aj) 6;let s2:=s1.row (zF aA aN ax ay aD) 5;let s3:=Z.next+1;fun h1 h2 nx u1 u2 u3=>zG [.g,.g,.g,.g,.l (iV aA),.g,.l (iV ak),.n (ak-1),.c (.bool true) s2,.g,.g,.l (iV aN),.c (.bool true) s2,.g,.g,.g,.l (iV aN),.g,.g,.l (iV ax),.b true,.g,.g,.g,.g,.l (iV ax),.g,.g,.l (iV ay),.b false,.g,.g,.g,.g,.g,.g] (kd (an6 ((zC _ _ _).rw.ld zS (k:=0) rfl:lz s2 3 (qe s3 0) (iV aA)) ((zC _ _ _).row.rw.ld zS (k:=0) rfl:lz s2 3 (qe Z.next 0) (iV ak)) (w64 u1) h1 ((zC _ _ _).rw.ld zS (k:=1) rfl:lz s2 3 (qe s3 1) (iV aN)) h2 (an6 ((zC _ _ _).rw.ld zS (k:=1) rfl:lz s2 3 (qe s3 1) (iV aN)) ((zC _ _ _).rw.ld zS (k:=2) rfl:lz s2 3 (qe s3 2) (iV ax)) (yE u2) ((zC _ _ _).rw.ld zS (k:=2) rfl:lz s2 3 (qe s3 2) (iV ax)) ((zC _ _ _).rw.ld zS (k:=3) rfl:lz s2 3 (qe s3 3) (iV ay)) (yH u3) nx)))
theorem wduty_rd:let s1:=Z.row (wkc ak af ac ad ae aa ab am au aj) 6;let s2:=s1.row (zF aA aN ax ay aD) 5;∀ (h1:zD Pg 47 [iV aA,iV 0,iV (ak-1)] s2 (.bool true) s2) (h2:zD Pg 47 [iV aN,iV 0,iV 1439] s2 (.bool true) s2) (nx:Q (.bool false) s2) (u1:I6 (ak-1):=by omega) (u2:¬ aN<=ax:=by omega),zO Pg 49 [qf (wkc ak af ac ad ae aa ab am au aj),qf (zF aA aN ax ay aD)] Z Q:=
 let s1:=Z.row (wkc ak af ac ad ae aa ab am au aj) 6;let s2:=s1.row (zF aA aN ax ay aD) 5;let s3:=Z.next+1;fun h1 h2 nx u1 u2=>zG [.g,.g,.g,.g,.l (iV aA),.g,.l (iV ak),.n (ak-1),.c (.bool true) s2,.g,.g,.l (iV aN),.c (.bool true) s2,.g,.g,.g,.l (iV aN),.g,.g,.l (iV ax),.b false,.g,.g,.g,.g,.g,.g,.g,.g] (kd (an3 ((zC _ _ _).rw.ld zS (k:=0) rfl:lz s2 3 (qe s3 0) (iV aA)) ((zC _ _ _).row.rw.ld zS (k:=0) rfl:lz s2 3 (qe Z.next 0) (iV ak)) (w64 u1) (an6 h1 ((zC _ _ _).rw.ld zS (k:=1) rfl:lz s2 3 (qe s3 1) (iV aN)) h2 ((zC _ _ _).rw.ld zS (k:=1) rfl:lz s2 3 (qe s3 1) (iV aN)) ((zC _ _ _).rw.ld zS (k:=2) rfl:lz s2 3 (qe s3 2) (iV ax)) (yH u2) nx)))
theorem wduty_re:let s1:=Z.row (wkc ak af ac ad ae aa ab am au aj) 6;let s2:=s1.row (zF aA aN ax ay aD) 5;∀ (h1:zD Pg 47 [iV aA,iV 0,iV (ak-1)] s2 (.bool true) s2) (h2:zD Pg 47 [iV aN,iV 0,iV 1439] s2 (.bool false) s2) (nx:Q (.bool false) s2) (u1:I6 (ak-1):=by omega),zO Pg 49 [qf (wkc ak af ac ad ae aa ab am au aj),qf (zF aA aN ax ay aD)] Z Q:=
 let s1:=Z.row (wkc ak af ac ad ae aa ab am au aj) 6;let s2:=s1.row (zF aA aN ax ay aD) 5;fun h1 h2 nx u1=>zG [.g,.g,.g,.g,.l (iV aA),.g,.l (iV ak),.n (ak-1),.c (.bool true) s2,.g,.g,.l (iV aN),.c (.bool false) s2,.g,.g,.g,.g,.g,.g,.g,.g,.g,.g] (kd (an6 ((zC _ _ _).rw.ld zS (k:=0) rfl:lz s2 3 ⟨(Z.next+1),0,none⟩ (iV aA)) ((zC _ _ _).row.rw.ld zS (k:=0) rfl:lz s2 3 (qe Z.next 0) (iV ak)) (w64 u1) h1 ((zC _ _ _).rw.ld zS (k:=1) rfl:lz s2 3 ⟨(Z.next+1),1,none⟩ (iV aN)) h2 nx))
theorem wduty_rf:let s1:=Z.row (wkc ak af ac ad ae aa ab am au aj) 6;let s2:=s1.row (zF aA aN ax ay aD) 5;∀ (h1:zD Pg 47 [iV aA,iV 0,iV (ak-1)] s2 (.bool false) s2) (nx:Q (.bool false) s2) (u1:I6 (ak-1):=by omega),zO Pg 49 [qf (wkc ak af ac ad ae aa ab am au aj),qf (zF aA aN ax ay aD)] Z Q:=
 let s1:=Z.row (wkc ak af ac ad ae aa ab am au aj) 6;let s2:=s1.row (zF aA aN ax ay aD) 5;fun h1 nx u1=>zG [.g,.g,.g,.g,.l (iV aA),.g,.l (iV ak),.n (ak-1),.c (.bool false) s2,.g,.g,.g,.g,.g,.g,.g,.g,.g,.g,.g] (kd (an4 ((zC _ _ _).rw.ld zS (k:=0) rfl:lz s2 3 ⟨(Z.next+1),0,none⟩ (iV aA)) ((zC _ _ _).row.rw.ld zS (k:=0) rfl:lz s2 3 (qe Z.next 0) (iV ak)) (w64 u1) h1 nx))
theorem yQJ:let s1:=Z.row (wkc ak af ac ad ae aa ab am au aj) 6;let s2:=s1.row (zL aU aH aI aY aJ aK bh aO aP bx bz bn) 6;∀ (h1:zD Pg 71 [.slice aU aH aI,iV 0,iV 15] s2 (.bool true) s2) (h2:zD Pg 71 [.slice aY aJ aK,iV 0,iV (ak-1)] s2 (.bool true) s2) (h3:zD Pg 71 [.slice bh aO aP,iV 0,iV (ak-1)] s2 (.bool true) s2) (h4:zD Pg 47 [iV bx,iV (-10080),iV 1440] s2 (.bool true) s2) (h5:zD Pg 47 [iV bz,iV 0,iV 14] s2 (.bool true) s2) (h6:zD Pg 47 [iV bn,iV 0,iV aj] s2 (.bool b6) s2) (nx:Q (.bool b6) s2) (u1:I6 (ak-1):=by omega),zO Pg 51 [qf (wkc ak af ac ad ae aa ab am au aj),qf (zL aU aH aI aY aJ aK bh aO aP bx bz bn)] Z Q:=
 let s1:=Z.row (wkc ak af ac ad ae aa ab am au aj) 6;let s2:=s1.row (zL aU aH aI aY aJ aK bh aO aP bx bz bn) 6;let s3:=Z.next+1;fun h1 h2 h3 h4 h5 h6 nx u1=>zG [.g,.g,.g,.g,.l (.slice aU aH aI),.c (.bool true) s2,.g,.g,.l (.slice aY aJ aK),.g,.l (iV ak),.n (ak-1),.c (.bool true) s2,.g,.g,.g,.l (.slice bh aO aP),.g,.l (iV ak),.n (ak-1),.c (.bool true) s2,.g,.g,.g,.l (iV bx),.c (.bool true) s2,.g,.g,.g,.l (iV bz),.c (.bool true) s2,.g,.g,.g,.l (iV bn),.g,.l (iV aj),.c (.bool b6) s2,.g,.g] (kd (an5 ((zC _ _ _).rw.ld yS (k:=0) rfl:lz s2 26 (qe s3 0) (.slice aU aH aI)) h1 ((zC _ _ _).rw.ld yS (k:=1) rfl:lz s2 26 (qe s3 1) (.slice aY aJ aK)) ((zC _ _ _).row.rw.ld zS (k:=0) rfl:lz s2 3 (qe Z.next 0) (iV ak)) (w64 u1) (an6 h2 ((zC _ _ _).rw.ld yS (k:=2) rfl:lz s2 26 (qe s3 2) (.slice bh aO aP)) ((zC _ _ _).row.rw.ld zS (k:=0) rfl:lz s2 3 (qe Z.next 0) (iV ak)) (w64 u1) h3 ((zC _ _ _).rw.ld zS (k:=3) rfl:lz s2 3 (qe s3 3) (iV bx)) (an6 h4 ((zC _ _ _).rw.ld zS (k:=4) rfl:lz s2 3 (qe s3 4) (iV bz)) h5 ((zC _ _ _).rw.ld zS (k:=5) rfl:lz s2 3 (qe s3 5) (iV bn)) ((zC _ _ _).row.rw.ld zS (k:=5) rfl:lz s2 3 (qe Z.next 5) (iV aj)) h6 nx))))
theorem yQI:let s1:=Z.row (wkc ak af ac ad ae aa ab am au aj) 6;let s2:=s1.row (zL aU aH aI aY aJ aK bh aO aP bx bz bn) 6;∀ (h1:zD Pg 71 [.slice aU aH aI,iV 0,iV 15] s2 (.bool true) s2) (h2:zD Pg 71 [.slice aY aJ aK,iV 0,iV (ak-1)] s2 (.bool true) s2) (h3:zD Pg 71 [.slice bh aO aP,iV 0,iV (ak-1)] s2 (.bool true) s2) (h4:zD Pg 47 [iV bx,iV (-10080),iV 1440] s2 (.bool true) s2) (h5:zD Pg 47 [iV bz,iV 0,iV 14] s2 (.bool false) s2) (nx:Q (.bool false) s2) (u1:I6 (ak-1):=by omega),zO Pg 51 [qf (wkc ak af ac ad ae aa ab am au aj),qf (zL aU aH aI aY aJ aK bh aO aP bx bz bn)] Z Q:=
 let s1:=Z.row (wkc ak af ac ad ae aa ab am au aj) 6;let s2:=s1.row (zL aU aH aI aY aJ aK bh aO aP bx bz bn) 6;let s3:=Z.next+1;fun h1 h2 h3 h4 h5 nx u1=>zG [.g,.g,.g,.g,.l (.slice aU aH aI),.c (.bool true) s2,.g,.g,.l (.slice aY aJ aK),.g,.l (iV ak),.n (ak-1),.c (.bool true) s2,.g,.g,.g,.l (.slice bh aO aP),.g,.l (iV ak),.n (ak-1),.c (.bool true) s2,.g,.g,.g,.l (iV bx),.c (.bool true) s2,.g,.g,.g,.l (iV bz),.c (.bool false) s2,.g,.g,.g,.g] (kd (an2 ((zC _ _ _).rw.ld yS (k:=0) rfl:lz s2 26 (qe s3 0) (.slice aU aH aI)) h1 (an6 ((zC _ _ _).rw.ld yS (k:=1) rfl:lz s2 26 (qe s3 1) (.slice aY aJ aK)) ((zC _ _ _).row.rw.ld zS (k:=0) rfl:lz s2 3 (qe Z.next 0) (iV ak)) (w64 u1) h2 ((zC _ _ _).rw.ld yS (k:=2) rfl:lz s2 26 (qe s3 2) (.slice bh aO aP)) ((zC _ _ _).row.rw.ld zS (k:=0) rfl:lz s2 3 (qe Z.next 0) (iV ak)) (an6 (w64 u1) h3 ((zC _ _ _).rw.ld zS (k:=3) rfl:lz s2 3 (qe s3 3) (iV bx)) h4 ((zC _ _ _).rw.ld zS (k:=4) rfl:lz s2 3 (qe s3 4) (iV bz)) h5 nx))))
theorem yQH:let s1:=Z.row (wkc ak af ac ad ae aa ab am au aj) 6;let s2:=s1.row (zL aU aH aI aY aJ aK bh aO aP bx bz bn) 6;∀ (h1:zD Pg 71 [.slice aU aH aI,iV 0,iV 15] s2 (.bool true) s2) (h2:zD Pg 71 [.slice aY aJ aK,iV 0,iV (ak-1)] s2 (.bool true) s2) (h3:zD Pg 71 [.slice bh aO aP,iV 0,iV (ak-1)] s2 (.bool true) s2) (h4:zD Pg 47 [iV bx,iV (-10080),iV 1440] s2 (.bool false) s2) (nx:Q (.bool false) s2) (u1:I6 (ak-1):=by omega),zO Pg 51 [qf (wkc ak af ac ad ae aa ab am au aj),qf (zL aU aH aI aY aJ aK bh aO aP bx bz bn)] Z Q:=
 let s1:=Z.row (wkc ak af ac ad ae aa ab am au aj) 6;let s2:=s1.row (zL aU aH aI aY aJ aK bh aO aP bx bz bn) 6;let s3:=Z.next+1;fun h1 h2 h3 h4 nx u1=>zG [.g,.g,.g,.g,.l (.slice aU aH aI),.c (.bool true) s2,.g,.g,.l (.slice aY aJ aK),.g,.l (iV ak),.n (ak-1),.c (.bool true) s2,.g,.g,.g,.l (.slice bh aO aP),.g,.l (iV ak),.n (ak-1),.c (.bool true) s2,.g,.g,.g,.l (iV bx),.c (.bool false) s2,.g,.g,.g,.g,.g,.g] (kd (an6 ((zC _ _ _).rw.ld yS (k:=0) rfl:lz s2 26 (qe s3 0) (.slice aU aH aI)) h1 ((zC _ _ _).rw.ld yS (k:=1) rfl:lz s2 26 (qe s3 1) (.slice aY aJ aK)) ((zC _ _ _).row.rw.ld zS (k:=0) rfl:lz s2 3 (qe Z.next 0) (iV ak)) (w64 u1) h2 (an6 ((zC _ _ _).rw.ld yS (k:=2) rfl:lz s2 26 (qe s3 2) (.slice bh aO aP)) ((zC _ _ _).row.rw.ld zS (k:=0) rfl:lz s2 3 (qe Z.next 0) (iV ak)) (w64 u1) h3 ((zC _ _ _).rw.ld zS (k:=3) rfl:lz s2 3 (qe s3 3) (iV bx)) h4 nx)))
theorem yQG:let s1:=Z.row (wkc ak af ac ad ae aa ab am au aj) 6;let s2:=s1.row (zL aU aH aI aY aJ aK bh aO aP bx bz bn) 6;∀ (h1:zD Pg 71 [.slice aU aH aI,iV 0,iV 15] s2 (.bool true) s2) (h2:zD Pg 71 [.slice aY aJ aK,iV 0,iV (ak-1)] s2 (.bool true) s2) (h3:zD Pg 71 [.slice bh aO aP,iV 0,iV (ak-1)] s2 (.bool false) s2) (nx:Q (.bool false) s2) (u1:I6 (ak-1):=by omega),zO Pg 51 [qf (wkc ak af ac ad ae aa ab am au aj),qf (zL aU aH aI aY aJ aK bh aO aP bx bz bn)] Z Q:=
 let s1:=Z.row (wkc ak af ac ad ae aa ab am au aj) 6;let s2:=s1.row (zL aU aH aI aY aJ aK bh aO aP bx bz bn) 6;let s3:=Z.next+1;fun h1 h2 h3 nx u1=>zG [.g,.g,.g,.g,.l (.slice aU aH aI),.c (.bool true) s2,.g,.g,.l (.slice aY aJ aK),.g,.l (iV ak),.n (ak-1),.c (.bool true) s2,.g,.g,.g,.l (.slice bh aO aP),.g,.l (iV ak),.n (ak-1),.c (.bool false) s2,.g,.g,.g,.g,.g,.g,.g,.g] (kd (an4 ((zC _ _ _).rw.ld yS (k:=0) rfl:lz s2 26 (qe s3 0) (.slice aU aH aI)) h1 ((zC _ _ _).rw.ld yS (k:=1) rfl:lz s2 26 (qe s3 1) (.slice aY aJ aK)) ((zC _ _ _).row.rw.ld zS (k:=0) rfl:lz s2 3 (qe Z.next 0) (iV ak)) (an6 (w64 u1) h2 ((zC _ _ _).rw.ld yS (k:=2) rfl:lz s2 26 (qe s3 2) (.slice bh aO aP)) ((zC _ _ _).row.rw.ld zS (k:=0) rfl:lz s2 3 (qe Z.next 0) (iV ak)) (w64 u1) h3 nx)))
theorem yQF:let s1:=Z.row (wkc ak af ac ad ae aa ab am au aj) 6;let s2:=s1.row (zL aU aH aI aY aJ aK bh aO aP bx bz bn) 6;∀ (h1:zD Pg 71 [.slice aU aH aI,iV 0,iV 15] s2 (.bool true) s2) (h2:zD Pg 71 [.slice aY aJ aK,iV 0,iV (ak-1)] s2 (.bool false) s2) (nx:Q (.bool false) s2) (u1:I6 (ak-1):=by omega),zO Pg 51 [qf (wkc ak af ac ad ae aa ab am au aj),qf (zL aU aH aI aY aJ aK bh aO aP bx bz bn)] Z Q:=
 let s1:=Z.row (wkc ak af ac ad ae aa ab am au aj) 6;let s2:=s1.row (zL aU aH aI aY aJ aK bh aO aP bx bz bn) 6;fun h1 h2 nx u1=>zG [.g,.g,.g,.g,.l (.slice aU aH aI),.c (.bool true) s2,.g,.g,.l (.slice aY aJ aK),.g,.l (iV ak),.n (ak-1),.c (.bool false) s2,.g,.g,.g,.g,.g,.g,.g,.g,.g,.g] (kd (an6 ((zC _ _ _).rw.ld yS (k:=0) rfl:lz s2 26 ⟨(Z.next+1),0,none⟩ (.slice aU aH aI)) h1 ((zC _ _ _).rw.ld yS (k:=1) rfl:lz s2 26 ⟨(Z.next+1),1,none⟩ (.slice aY aJ aK)) ((zC _ _ _).row.rw.ld zS (k:=0) rfl:lz s2 3 (qe Z.next 0) (iV ak)) (w64 u1) h2 nx))
theorem yQE:let s1:=Z.row (wkc ak af ac ad ae aa ab am au aj) 6;let s2:=s1.row (zL aU aH aI aY aJ aK bh aO aP bx bz bn) 6;∀ (h1:zD Pg 71 [.slice aU aH aI,iV 0,iV 15] s2 (.bool false) s2) (nx:Q (.bool false) s2),zO Pg 51 [qf (wkc ak af ac ad ae aa ab am au aj),qf (zL aU aH aI aY aJ aK bh aO aP bx bz bn)] Z Q:=
 let s1:=Z.row (wkc ak af ac ad ae aa ab am au aj) 6;let s2:=s1.row (zL aU aH aI aY aJ aK bh aO aP bx bz bn) 6;fun h1 nx=>zG [.g,.g,.g,.g,.l (.slice aU aH aI),.c (.bool false) s2,.g,.g,.g,.g,.g,.g,.g,.g,.g,.g,.g] (kd (an2 ((zC _ _ _).rw.ld yS (k:=0) rfl:lz s2 26 ⟨(Z.next+1),0,none⟩ (.slice aU aH aI)) h1 nx))
theorem allI_ra:let Y1:=Z.row [.func (.func right) ⟨[]⟩ ⟨bu⟩] 1;∀ (h1:zD Pg 89 [.slice l l_l l_c,.func (.func 90) ⟨[]⟩ ⟨[pt Z.next 0]⟩] Y1 (.bool true) Y1) (nx:Q (.bool false) Y1),zO Pg 72 [.slice l l_l l_c,.func (.func right) ⟨[]⟩ ⟨bu⟩] Z Q:=
 fun h1 nx=>zG [.g,.g,.g,.g,.c (.bool true) (Z.row [.func (.func right) ⟨[]⟩ ⟨bu⟩] 1),.g,.g] (kd (ai h1 nx))
theorem allI_rb:let Y1:=Z.row [.func (.func right) ⟨[]⟩ ⟨bu⟩] 1;∀ (h1:zD Pg 89 [.slice l l_l l_c,.func (.func 90) ⟨[]⟩ ⟨[pt Z.next 0]⟩] Y1 (.bool false) Y1) (nx:Q (.bool true) Y1),zO Pg 72 [.slice l l_l l_c,.func (.func right) ⟨[]⟩ ⟨bu⟩] Z Q:=
 fun h1 nx=>zG [.g,.g,.g,.g,.c (.bool false) (Z.row [.func (.func right) ⟨[]⟩ ⟨bu⟩] 1),.g,.g] (kd (ai h1 nx))
theorem conJ_ra (h1:zD Pg 105 [.slice s s_l s_c,.func (.func f) ⟨[]⟩ ⟨f_c⟩] Z (iV n1) Z) (nx:Q (.bool true) Z) (u1:0<=n1:=by omega):zO Pg 89 [.slice s s_l s_c,.func (.func f) ⟨[]⟩ ⟨f_c⟩] Z Q :=
 zG [.g,.g,.g,.c (iV n1) Z,.b true,.g] (kd (an2 h1 (yE u1) nx))
theorem conJ_rb (h1:zD Pg 105 [.slice s s_l s_c,.func (.func f) ⟨[]⟩ ⟨f_c⟩] Z (iV n1) Z) (nx:Q (.bool false) Z) (u1:¬ 0<=n1:=by omega):zO Pg 89 [.slice s s_l s_c,.func (.func f) ⟨[]⟩ ⟨f_c⟩] Z Q :=
 zG [.g,.g,.g,.c (iV n1) Z,.b false,.g] (kd (an2 h1 (yH u1) nx))
theorem allI1_ra (h1:lz Z 105 v0 (.func (.func f1) ⟨[]⟩ ⟨dK⟩)) (h2:zD Pg f1 (iV x::dK) Z (.bool true) Z) (nx:Q (.bool false) Z):zO Pg 90 [iV x,pz v0] Z Q :=
 zG [.g,.l (.func (.func f1) ⟨[]⟩ ⟨dK⟩),.g,.c (.bool true) Z,.g,.g] (kd (an2 h1 h2 nx))
theorem allI1_rb (h1:lz Z 105 v0 (.func (.func f1) ⟨[]⟩ ⟨dK⟩)) (h2:zD Pg f1 (iV x::dK) Z (.bool false) Z) (nx:Q (.bool true) Z):zO Pg 90 [iV x,pz v0] Z Q :=
 zG [.g,.l (.func (.func f1) ⟨[]⟩ ⟨dK⟩),.g,.c (.bool false) Z,.g,.g] (kd (an2 h1 h2 nx))
theorem yUI (hb:∀ k aC Z,Inv k aC Z->zVY s s_l s_c f f_c aC Z (fun i8_1' Z'=>∃ k',k' < k/\Inv k' i8_1' Z') Qr Q0):∀ k aC Z,Inv k aC Z->yZC s s_l s_c f f_c aC Z Qr Q0 :=
 fun k aC Z h=>zY (alts:=[zNE s s_l s_c f f_c Qr,zNF s s_l s_c f f_c Q0]) (T:=Int) (lf:=fun t=>zND s s_l s_c f f_c t) (mf:=fun t=>[]) (Inv:=fun k t Z=>Inv k t Z) (ai zBD (ai (xZ 0) trivial)) (fun k t Z h=>hb k t Z h) k aC Z h
theorem idxI_s1a (h1:lz Z 3 (zM s_a (Int.toNat aC*1)) (iV nF)) (h2:zD Pg f (iV nF::f_c) Z (.bool true) Z) (nx:Qr aC Z) (u1:aC<(s_l:Int):=by omega) (u2:Ix aC s_l:=by omega):zVY (some s_a) s_l s_c f f_c aC Z Nx Qr Q0 :=
 kO 1 aC [.b true,.g,.g,.g,.g,.g,.i,.l (iV nF),.c (.bool true) Z,.g,.g] (fun _ f=>(an4 (zR u1) u2 h1 h2 f)) nx
theorem idxI_s1b (h1:lz Z 3 (zM s_a (Int.toNat aC*1)) (iV nF)) (h2:zD Pg f (iV nF::f_c) Z (.bool false) Z) (nx:Nx (aC+1) Z) (u1:aC<(s_l:Int):=by omega) (u2:Ix aC s_l:=by omega) (u3:I6 (aC+1):=by omega):zVY (some s_a) s_l s_c f f_c aC Z Nx Qr Q0 :=
 kO 0 (aC+1) [.b true,.g,.g,.g,.g,.g,.i,.l (iV nF),.c (.bool false) Z,.n (aC+1),.g] (fun _ f=>(an5 (zR u1) u2 h1 h2 (w64 u3) f)) nx
theorem idxI_s1c (nx:Q0 Z) (u1:¬ aC<(s_l:Int):=by omega):zVY s s_l s_c f f_c aC Z Nx Qr Q0 :=
 kO 2 () [.b false] (fun _ f=>(ai (zT u1) f)) nx
theorem idxI_ra (hL:yZC s s_l s_c f f_c 0 Z Pr P0) (kr:∀ i4_1' Z',Pr i4_1' Z'->yEL s s_l s_c f f_c i4_1' Z' Q) (k0:∀ Z',P0 Z'->yEM s s_l s_c f f_c Z' Q):zO Pg 105 [.slice s s_l s_c,.func (.func f) ⟨[]⟩ ⟨f_c⟩] Z Q :=
 zG [.g,.g,.g,.g,.lf 19 (zND s s_l s_c f f_c 0) [zNE s s_l s_c f f_c Pr,zNF s s_l s_c f f_c P0]] (kd (ai (ai tt (ai (arf (zND s s_l s_c f f_c 0)) hL)) (ai (kz1 kr) (ai (kz0 k0) trivial))))
theorem yUG (nx:Q (iV bt) Z):yEL s s_l s_c f f_c bt Z Q :=
 sK [] nx
theorem yUH (nx:Q (iV (-1)) Z):yEM s s_l s_c f f_c Z Q :=
 sK [.g] nx
theorem yRB (h1:lz Z 32 (zM v0 2) (.slice q1 l1 c1)) (h2:zD Pg 47 [iV n,iV (-1),iV ((l1:Int)-1)] Z (.bool b2) Z) (nx:Q (.bool b2) Z) (u1:I6 ((l1:Int)-1):=by omega):zO Pg 73 [iV n,pz v0] Z Q :=
 zG [.g,.g,.g,.l (.slice q1 l1 c1),.g,.n ((l1:Int)-1),.c (.bool b2) Z,.g] (kd (an3 h1 (w64 u1) h2 nx))
theorem yQC:let s1:=Z.row (wkc ak af ac ad ae aa ab am au aj) 6;∀ (h1:zD Pg 72 [.slice l l_l l_c,.func (.func 73) ⟨[]⟩ ⟨[pt Z.next 0]⟩] s1 (.bool b1) s1) (nx:Q (.bool b1) s1) (u1:(l_l:Int)=(ac:Int):=by omega),zO Pg 52 [qf (wkc ak af ac ad ae aa ab am au aj),.slice l l_l l_c] Z Q:=
 let s1:=Z.row (wkc ak af ac ad ae aa ab am au aj) 6;fun h1 nx u1=>zG [.g,.g,.g,.g,.g,.l (.slice af ac ad),.g,.b true,.g,.g,.g,.c (.bool b1) s1,.g,.g] (kd (an3 ((zC _ _ _).rw.ld zBB (k:=1) rfl:lz s1 31 (qe Z.next 1) (.slice af ac ad)) (xI u1) h1 nx))
theorem yQB (nx:Q (.bool false) (Z.row (wkc ak af ac ad ae aa ab am au aj) 6)) (u1:¬ (l_l:Int)=(ac:Int):=by omega):zO Pg 52 [qf (wkc ak af ac ad ae aa ab am au aj),.slice l l_l l_c] Z Q :=
 zG [.g,.g,.g,.g,.g,.l (.slice af ac ad),.g,.b false,.g,.g,.g] (kd (an2 ((zC _ _ _).rw.ld zBB (k:=1) rfl:lz (Z.row (wkc ak af ac ad ae aa ab am au aj) 6) 31 (qe Z.next 1) (.slice af ac ad)) (xG u1) nx))
theorem yNC (hb:∀ k aC Z,Inv k aC Z->zQW s s_l s_c v aC Z (fun i8_1' Z'=>∃ k',k' < k/\Inv k' i8_1' Z') Qr Q0):∀ k aC Z,Inv k aC Z->yNE s s_l s_c v aC Z Qr Q0 :=
 fun k aC Z h=>zY (alts:=[zIL s s_l s_c v Qr,zIM s s_l s_c v Q0]) (T:=Int) (lf:=fun t=>zGX s s_l s_c v t) (mf:=fun t=>[]) (Inv:=fun k t Z=>Inv k t Z) (ai zBD (ai (xZ 0) trivial)) (fun k t Z h=>hb k t Z h) k aC Z h
theorem index_s1a (h1:lz Z 3 (zM s_a (Int.toNat aC*1)) (iV nF)) (nx:Qr aC Z) (u1:aC<(s_l:Int):=by omega) (u2:Ix aC s_l:=by omega) (u3:v=nF:=by omega):zQW (some s_a) s_l s_c v aC Z Nx Qr Q0 :=
 kO 1 aC [.b true,.g,.g,.g,.g,.g,.i,.l (iV nF),.b true,.g,.g] (fun _ f=>(an4 (zR u1) u2 h1 (xI u3) f)) nx
theorem index_s1b (h1:lz Z 3 (zM s_a (Int.toNat aC*1)) (iV nF)) (nx:Nx (aC+1) Z) (u1:aC<(s_l:Int):=by omega) (u2:Ix aC s_l:=by omega) (u3:¬ v=nF:=by omega) (u4:I6 (aC+1):=by omega):zQW (some s_a) s_l s_c v aC Z Nx Qr Q0 :=
 kO 0 (aC+1) [.b true,.g,.g,.g,.g,.g,.i,.l (iV nF),.b false,.n (aC+1),.g] (fun _ f=>(an5 (zR u1) u2 h1 (xG u3) (w64 u4) f)) nx
theorem index_s1c (nx:Q0 Z) (u1:¬ aC<(s_l:Int):=by omega):zQW s s_l s_c v aC Z Nx Qr Q0 :=
 kO 2 () [.b false] (fun _ f=>(ai (zT u1) f)) nx
theorem index_ra (hL:yNE s s_l s_c v 0 Z Pr P0) (kr:∀ i4_1' Z',Pr i4_1' Z'->zYQ s s_l s_c v i4_1' Z' Q) (k0:∀ Z',P0 Z'->zYR s s_l s_c v Z' Q):zO Pg 83 [.slice s s_l s_c,iV v] Z Q :=
 zG [.g,.g,.g,.g,.lf 19 (zGX s s_l s_c v 0) [zIL s s_l s_c v Pr,zIM s s_l s_c v P0]] (kd (ai (ai tt (ai (arf (zGX s s_l s_c v 0)) hL)) (ai (kz1 kr) (ai (kz0 k0) trivial))))
theorem yNA (nx:Q (iV bt) Z):zYQ s s_l s_c v bt Z Q :=
 sK [] nx
theorem yNB (nx:Q (iV (-1)) Z):zYR s s_l s_c v Z Q :=
 sK [.g] nx
theorem conI_ra (h1:zD Pg 83 [.slice s s_l s_c,iV v] Z (iV n1) Z) (nx:Q (.bool true) Z) (u1:0<=n1:=by omega):zO Pg 58 [.slice s s_l s_c,iV v] Z Q :=
 zG [.g,.g,.g,.c (iV n1) Z,.b true,.g] (kd (an2 h1 (yE u1) nx))
theorem conI_rb (h1:zD Pg 83 [.slice s s_l s_c,iV v] Z (iV n1) Z) (nx:Q (.bool false) Z) (u1:¬ 0<=n1:=by omega):zO Pg 58 [.slice s s_l s_c,iV v] Z Q :=
 zG [.g,.g,.g,.c (iV n1) Z,.b false,.g] (kd (an2 h1 (yH u1) nx))
end Go.Proofs.YtgfiniccfpfplaaGreat
