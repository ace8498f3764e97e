
import Derived.Test.YtgfiniccfpfplaaGreatLayC
set_option linter.unusedVariables false
set_option linter.unusedSimpArgs false
namespace Go.Lay
open Go
section
variable {P:Program} {S:Nat→Prop} {σ τ:St} {n0 n N len c:Nat} {p:Option Addr} {cs:List Value}
def Buf (σ:St) (n0 n N:Nat) (p:Option Addr) (len c:Nat) (cs:List Value):Prop :=
 (p=none∧N=0∧len=0∧c=0∧cs=[])∨∃ b bc,p=some ⟨b,0,none⟩∧yN c=N∧Own σ b bc n∧bc.length=N*n∧len≤N∧bc.take (len*n)=cs∧n0≤b∧0<N
theorem Buf.nil:Buf σ n0 n 0 none 0 0 []:=.inl ⟨rfl,rfl,rfl,rfl,rfl⟩
theorem Buf.bd (h:Buf σ n0 n N p len c cs):∀ b,AtP p b→n0≤b∧b<σ.next:=by
 rintro b ⟨a,rfl,rfl⟩
 rcases h with ⟨h,_⟩ | ⟨b,bc,h1,_,h3,_,_,_,h7,_⟩
 ·cases h
 ·cases h1;exact ⟨h7,h3.lt⟩
theorem Buf.le (h:Buf σ n0 n N p len c cs) (k:Le σ τ):Buf τ n0 n N p len c cs:=by
 rcases h with h | ⟨b,bc,rfl,h2,h3,h4,h5,h6,h7,h8⟩
 ·exact .inl h
 ·exact .inr ⟨b,bc,rfl,h2,h3.le k,h4,h5,h6,h7,h8⟩
theorem Buf.len_le (h:Buf σ n0 n N p len c cs):len≤N∧cs.length=len*n:=by
 rcases h with ⟨rfl,rfl,rfl,rfl,rfl⟩ | ⟨b,bc,rfl,h2,h3,h4,h5,h6,h7,h8⟩
 ·simp
 ·refine ⟨h5, ?_⟩
  rw [← h6,List.length_take,h4]
  exact Nat.min_eq_left (Nat.mul_le_mul_right _ h5)
theorem Buf.slp (h:Buf σ n0 n N p len c cs):SlP σ n p len cs:=by
 refine ⟨h.len_le.2, ?_⟩
 rcases h with ⟨rfl,rfl,rfl,rfl,rfl⟩ | ⟨b,bc,rfl,h2,h3,h4,h5,h6,h7,h8⟩
 ·rfl
 ·have:=h3.rw.part (k:=0) (m:=len*n) (by rw [h4,Nat.zero_add];exact Nat.mul_le_mul_right _ h5)
  rw [List.drop_zero,h6] at this
  exact this
theorem Buf.slv {t:Nat} {vs:List Value} (h:Buf σ n0 n N p len c (vJ vs)) (hl:vs.length=len) (he:∀ v∈vs,zGY P t n v):SlV P σ t n p len vs:=⟨h.slp,hl,he⟩
theorem Buf.push {st xt e m d:Nat} {q:Option Addr} {xs:List Value} (T:AppT P st xt e n) (h:Buf σ n0 n N p len c cs) (hs:SlP σ n q m xs) (hm:len+m≤N) (hN:N≤1073741824) (hc:xs.all cellB=true) :
  ∃ σ',yJ P st xt (.slice p len c) (.slice q m d) σ=some (.slice p (len+m) c,σ')∧Buf σ' n0 n N p (len+m) c (cs++xs)∧Only (AtP p) σ σ'∧σ'.next=σ.next∧(σ'=σ∨∃ b,AtP p b∧σ'.low≤b):=by
 obtain ⟨xd,hxd,hxi⟩:=T.src
 obtain ⟨ei,z,hei,hz,hby,hrz,hzl⟩:=T.info
 have hsrc:zBW σ n z xd (.slice q m d)=some (m,xs):=by
  have:wQ σ n (.slice q m d)=some (m,xs):=by
   cases q with
   | none =>
    obtain ⟨h1,h2⟩:=hs
    have h2:m=0:=h2
    subst h2
    have:xs=[]:=List.eq_nil_of_length_eq_zero (by omega)
    subst this
    simp [wQ]
   | some a =>
    have hrd:=hs.2.rd
    rw [hs.1] at hrd
    simp [wQ,hrd]
  unfold zBW
  cases xd with
  | int _=>cases hxi
  | _=>simp only [this]
 have hcond:(zCB (len+m) n ei.bytes && xs.all cellB && Nat.beq xs.length (m*n) && zT RD z && Nat.beq z.cells.toList.length n)=true:=by
  unfold zCB
  rw [(zU _ _).2 (by omega),(zU _ _).2 T.le,(zU _ _).2 hby,hc,hs.1,Nat.beq_refl,hrz,hzl];rfl
 have hc0:yN 0=0:=by unfold yN;have:=uK;rw [if_neg (by omega)]
 rcases h with ⟨rfl,rfl,rfl,rfl,rfl⟩ | ⟨b,bc,rfl,hcl,h3,h4,h5,h6,h7,h8⟩
 ·have hm0:m=0:=by omega
  subst hm0
  have hx:xs=[]:=List.eq_nil_of_length_eq_zero (by have:=hs.1;omega)
  subst hx
  have hlc:Nat.ble (0+0) (yN 0)=true:=by rw [hc0];rfl
  refine ⟨σ, ?_,.inl ⟨rfl,rfl,rfl,rfl,rfl⟩,Only.refl _ _,rfl,.inl rfl⟩
  unfold yJ
  simp only [T.el,hxd,hei,hz,hsrc,hcond,cond_true,uG,hlc]
  simp
 ·have hlc:Nat.ble (len+m) (yN c)=true:=by rw [hcl];exact (zU _ _).2 hm
  rcases Nat.eq_zero_or_pos m with h0 | h0
  ·subst h0
   have hx:xs=[]:=List.eq_nil_of_length_eq_zero (by have:=hs.1;omega)
   subst hx
   refine ⟨σ, ?_,.inr ⟨b,bc,rfl,hcl,h3,h4,by omega,by rw [Nat.add_zero,h6,List.append_nil],h7,h8⟩,Only.refl _ _,rfl,.inl rfl⟩
   unfold yJ
   simp only [T.el,hxd,hei,hz,hsrc,hcond,cond_true,uG,hlc]
   simp
  ·have hb:Nat.beq m 0=false:=by rw [Bool.eq_false_iff];intro e;have:=Nat.eq_of_beq_eq_true e;omega
   have hxl:xs.length=m*n:=hs.1
   have hle:len*n+m*n≤bc.length:=by rw [h4,← Nat.add_mul];exact Nat.mul_le_mul_right _ hm
   have hw:uH σ (zP ⟨b,0,none⟩ (len*n)) xs=some (σ.own b (bc.take (len*n)++(xs++bc.drop (len*n+m*n))) n):=by
    have h2:(Nat.beq 0 0 && Nat.ble (0+len*n+m*n) bc.length && !false && xs.all cellB)=true:=by
     rw [hc,(zU _ _).2 (by omega)];rfl
    unfold uH
    simp only [zP,h3.get,yF,Option.getD_none,hxl,h2,cond_true,zGX,St.write_eq,Nat.zero_add]
    rw [Nat.zero_add] at h2
    simp only [h2,cond_true]
    unfold St.own
    have hl:(bc.take (len*n)++(xs++bc.drop (len*n+m*n))).length=bc.length:=by simp;omega
    rw [hl]
   refine ⟨_, ?_,.inr ⟨b,bc.take (len*n)++(xs++bc.drop (len*n+m*n)),rfl,hcl,h3.put,by rw [← h4];simp;omega,hm, ?_,h7,h8⟩,Only.own (.inr ⟨_,rfl,rfl⟩),rfl,.inr ⟨b,⟨_,rfl,rfl⟩,by simp [St.own];omega⟩⟩
   ·unfold yJ
    simp only [T.el,hxd,hei,hz,hsrc,hcond,cond_true,uG,hlc,hb,cond_false,hw,Option.map_some]
   ·have e1:(bc.take (len*n)).length=len*n:=by rw [List.length_take];omega
    rw [Nat.add_mul,List.take_append,e1,Nat.add_sub_cancel_left,List.take_of_length_le (by omega),← hxl,List.take_left,h6]
theorem yXY {st xt e:Nat} {k:IntKind} {z:Value} (hel:wE P st=some (e,n)) (hx:P.underlying xt=some (.int k)) {ei:TypeInfo} (hei:P.info? e=some ei) (hz:ei.zero=some z) (hby:ei.bytes≤4096) (hrz:zT RD z=true) (hzl:Nat.beq z.cells.toList.length n=true) (hn:0<n∧n≤4096) (hN:N≤1073741824) (hp:0<N) {q:IntKind}
  (hzc:(yW z.cells.toList N).length=N*n) (hcb:(yW z.cells.toList N).all cellB=true) :
  yJ P st xt (.slice none 0 0) (.int q (N:Int)) σ=some (.slice (some ⟨σ.next,0,none⟩) N (N+zAK),σ.row (yW z.cells.toList N) n):=by
 have h1:leI 0 (N:Int)=true:=(vQ _ _).2 (by omega)
 have h2:leI (N:Int) 1073741824=true:=(vQ _ _).2 (by omega)
 have h3:Nat.blt 0 n=true:=(wN _ _).2 hn.1
 have hsrc:zBW σ n z (.int k) (.int q (N:Int))=some (N,yW z.cells.toList N):=by
  unfold zBW
  simp only [h1,h2,h3,hzl,Bool.and_self,cond_true,Int.toNat_natCast]
 have hcond:(zCB (0+N) n ei.bytes && (yW z.cells.toList N).all cellB && Nat.beq (yW z.cells.toList N).length (N*n) && zT RD z && Nat.beq z.cells.toList.length n)=true:=by
  unfold zCB
  rw [(zU _ _).2 (by omega),(zU _ _).2 hn.2,(zU _ _).2 hby,hcb,hzc,Nat.beq_refl,hrz,hzl];rfl
 have hc0:yN 0=0:=by unfold yN;have:=uK;rw [if_neg (by omega)]
 have hc1:yZ 0=true:=(yY 0).2 uK
 have hble:Nat.ble (0+N) 0=false:=by rw [Bool.eq_false_iff];intro e;have:=(zU _ _).1 e;omega
 have:yJ P st xt (.slice none 0 0) (.int q (N:Int)) σ=some (.slice (some ⟨σ.next,0,none⟩) (0+N) (0+N+zAK),σ.add (.cells (yW z.cells.toList N) n [(0,(yW z.cells.toList N).length)] 1 false)):=by
  unfold yJ
  simp only [hel,hx,hei,hz,hsrc,hcond,cond_true,uG,hc0,hble,cond_false,hc1,yO]
  rfl
 rw [this,Nat.zero_add];rfl
theorem yKU {t e b:Nat} {bc:List Value} (hu:P.underlying t=some (.slice e)) (hs:yX P e=some n) (o:Own σ b bc n) (hp:0<N) (hcl:yN c=N) (hx:yZ c=false) {q:IntKind}:∃ c',zBN P σ t (.slice (some ⟨b,0,none⟩) N c) none (some (.int q 0)) none=some (.slice (some ⟨b,0,none⟩) 0 c')∧yN c'=N:=by
 have hok:yAZ σ ⟨b,0,none⟩ n=true:=by simp [yAZ,o.get,yF,uE]
 have h1:uM (some (.int q 0)) N N=some 0:=yOQ (x:=0) rfl (Nat.zero_le _)
 have h2:uM none 0 0=some 0:=rfl
 have h3:Nat.ble N 0=false:=by rw [Bool.eq_false_iff];intro e;have:=(zU _ _).1 e;omega
 have ea:zP ⟨b,0,none⟩ (0*n)=⟨b,0,none⟩:=by rw [Nat.zero_mul];rfl
 refine ⟨N-0+zAK, ?_,by rw [zCI];rfl⟩
 simp only [zBN,hu,hs,hok,cond_true,zBZ,hcl,h1,h2,hx,Bool.or_false,Option.isSome_none,cond_false,h3,ea]
def Ax (σ:St) (n0 n:Nat) (p:Option Addr) (len c:Nat) (cs:List Value):Prop :=
 App σ n0 n (.slice p len c) len cs∨∃ b,p=some ⟨b,0,none⟩∧c=len∧yZ len=true∧cs.length=len*n∧Own σ b cs n∧n0≤b
theorem Ax.nil:Ax σ n0 n none 0 0 []:=.inl .nil
theorem Ax.lit {b:Nat} (o:Own σ b cs n) (hl:cs.length=len*n) (he:yZ len=true) (hb:n0≤b):Ax σ n0 n (some ⟨b,0,none⟩) len len cs:=.inr ⟨b,rfl,rfl,he,hl,o,hb⟩
theorem Ax.slp (h:Ax σ n0 n p len c cs):SlP σ n p len cs:=by
 rcases h with h | ⟨b,rfl,rfl,_,h1,h2,h3⟩
 ·cases h with
  | nil=>exact SlP.nil _ _
  | more h1 h2 h3 h4 h5 h6 h7 =>
   refine ⟨h5, ?_,h4⟩
   have hle:∀ k:Nat,Nat.ble (0+k) k=true:=fun k=>(zU _ _).2 (by omega)
   unfold yU
   simp only [h1,yF,h2,uE,Nat.beq_refl,cond_true,hle,List.drop_zero,List.take_length]
 ·exact ⟨h1,h2.rw⟩
theorem Ax.slv {t:Nat} {vs:List Value} (h:Ax σ n0 n p len c (vJ vs)) (hl:vs.length=len) (he:∀ v∈vs,zGY P t n v):SlV P σ t n p len vs:=⟨h.slp,hl,he⟩
theorem Ax.bd (h:Ax σ n0 n p len c cs):∀ b,AtP p b→n0≤b∧b<σ.next:=by
 rintro b ⟨a,rfl,rfl⟩
 rcases h with h | ⟨b,h0,_,_,_,h2,h3⟩
 ·exact ⟨h.ge a rfl,h.lt a rfl⟩
 ·cases h0;exact ⟨h3,h2.lt⟩
theorem Ax.le (h:Ax σ n0 n p len c cs) (k:Le σ τ):Ax τ n0 n p len c cs:=by
 rcases h with h | ⟨b,h1,h2,h3,h4,h5,h6⟩
 ·exact .inl (h.keep k)
 ·exact .inr ⟨b,h1,h2,h3,h4,h5.le k,h6⟩
theorem Ax.append {st xt e m k:Nat} {q:Option Addr} {xs:List Value} (T:AppT P st xt e n) (hA:Ax σ n0 n p len c cs) (hs:SlP σ n q m xs) (hroom:len+m≤1073741824) (hc:xs.all cellB=true) (hn0:n0≤σ.next) :
  ∃ p' c' σ',yJ P st xt (.slice p len c) (.slice q m k) σ=some (.slice p' (len+m) c',σ')∧Ax σ' n0 n p' (len+m) c' (cs++xs)∧Only (AtP p) σ σ'∧(∀ b,AtP p' b→AtP p b∨σ.next≤b):=by
 obtain ⟨xd,hxd,hxi⟩:=T.src
 obtain ⟨ei,z,hei,hz,hby,hrz,hzl⟩:=T.info
 have hsrc:zBW σ n z xd (.slice q m k)=some (m,xs):=by
  have:wQ σ n (.slice q m k)=some (m,xs):=by
   cases q with
   | none =>
    obtain ⟨h1,h2⟩:=hs
    have h2:m=0:=h2
    subst h2
    have:xs=[]:=List.eq_nil_of_length_eq_zero (by omega)
    subst this
    simp [wQ]
   | some a =>
    have hrd:=hs.2.rd
    rw [hs.1] at hrd
    simp [wQ,hrd]
  unfold zBW
  cases xd with
  | int _=>cases hxi
  | _=>simp only [this]
 have hcond:(zCB (len+m) n ei.bytes && xs.all cellB && Nat.beq xs.length (m*n) && zT RD z && Nat.beq z.cells.toList.length n)=true:=by
  unfold zCB
  rw [(zU _ _).2 hroom,(zU _ _).2 T.le,(zU _ _).2 hby,hc,hs.1,Nat.beq_refl,hrz,hzl];rfl
 have hc0:yN 0=0:=by unfold yN;have:=uK;rw [if_neg (by omega)]
 rcases Nat.eq_zero_or_pos m with h0 | h0
 ·subst h0
  have hx:xs=[]:=List.eq_nil_of_length_eq_zero (by have:=hs.1;omega)
  subst hx
  have hlc:Nat.ble (len+0) (yN c)=true:=by
   rcases hA with h | ⟨b,_,rfl,he,_⟩
   ·cases h with
    | nil=>rw [hc0];rfl
    | more _ _ _ _ _ _ _=>rw [zCI];exact (zU _ _).2 (Nat.le_refl _)
   ·rw [zRP he];exact (zU _ _).2 (Nat.le_refl _)
  refine ⟨p,c,σ, ?_,by simpa using hA,Only.refl _ _,fun b hb=>.inl hb⟩
  unfold yJ
  simp only [T.el,hxd,hei,hz,hsrc,hcond,cond_true,uG,hlc]
  cases p <;> simp
 ·rcases hA with h | ⟨b,rfl,rfl,he,hl,h5,h6⟩
  ·obtain ⟨a,rfl,hr⟩:=hs.some h0
   obtain ⟨p',c',σ',h1,h2,h3,h4⟩:=yBI (k:=k) T h hr hs.1 h0 hroom hc hn0
   exact ⟨p',c',σ',h1,.inl h2,h3,h4⟩
  ·have hble:Nat.ble (c+m) c=false:=by rw [Bool.eq_false_iff];intro e;have:=(zU _ _).1 e;omega
   have hrd:=h5.rw.rd
   rw [hl] at hrd
   have el:(cs++xs).length=(c+m)*n:=by rw [List.length_append,hl,hs.1,Nat.add_mul]
   refine ⟨some ⟨σ.next,0,none⟩,c+m+zAK,σ.add (.cells (cs++xs) n [(0,(cs++xs).length)] 1 false), ?_,.inl ?_,Only.add _ _,fun b hb=>.inr (by obtain ⟨a,e,rfl⟩:=hb;cases e;exact Nat.le_refl _)⟩
   ·unfold yJ
    simp only [T.el,hxd,hei,hz,hsrc,hcond,cond_true,uG,zRP he,hble,cond_false,he,hrd,yO]
   ·exact .more (b:=σ.next) (s:=0) (nx:=1) (log:=[]) (by rw [St.add_get,if_pos rfl]) rfl hn0 (by simp) el (by omega) (by omega)
end
end Go.Lay

namespace Go.Lay
open Go
section
variable {P:Program} {alts:List Alt}
end
end Go.Lay

namespace Go.Lay
open Go
def zCU:Code→List Nat→Option Code
 | .seq x _,0::p=>zCU x p
 | .seq _ y,1::p=>zCU y p
 | .cond _ x _,0::p=>zCU x p
 | .cond _ _ y,1::p=>zCU y p
 | .block _ c,0::p=>zCU c p
 | .scope c,0::p=>zCU c p
 | c,[]=>some c
 | _,_=>none
def zIG (P:Program) (R:Nat→Rec) (rd:Option Nat):Code→List Nat→List Ans→Fr→St→(Fr→St→List Ans→Prop)→Prop
 | .seq x _,0::p,aq,fr,σ,Ks=>zIG P R rd x p aq fr σ Ks
 | .seq x y,1::p,aq,fr,σ,Ks=>wpE P R rd x aq fr σ fun e fr σ aq=>match e with
  | .normal=>zIG P R rd y p aq fr σ Ks
  | _=>False
 | .cond c x _,0::p,aq,fr,σ,Ks=>match yG fr.f c with
  | .bool true=>zIG P R rd x p aq fr σ Ks
  | _=>False
 | .cond c _ y,1::p,aq,fr,σ,Ks=>match yG fr.f c with
  | .bool false=>zIG P R rd y p aq fr σ Ks
  | _=>False
 | .block _ c,0::p,aq,fr,σ,Ks=>zIG P R rd c p aq fr σ Ks
 | .scope c,0::p,aq,fr,σ,Ks=>zIG P R rd c p aq fr σ Ks
 | _,[],aq,fr,σ,Ks=>Ks fr σ aq
 | _,_,_,_,_,_=>False
section
variable {P:Program} {R:Nat→Rec} {rd:Option Nat}
theorem yKF:∀ (c:Code) (p:List Nat) (aq:List Ans) (fr:Fr) (σ:St) (Ks:Fr→St→List Ans→Prop),zIG P R rd c p aq fr σ Ks →
  ∃ fr1 σ1 as1,Ks fr1 σ1 as1∧∀ s,zCU c p=some s→∀ e fr' σ',zBM P R rd s fr1 σ1 e fr' σ'→∀ K as',kAt P R rd c p K e fr' σ' as'→∃ e2 fr2 σ2 as2,zBM P R rd c fr σ e2 fr2 σ2∧K e2 fr2 σ2 as2:=by
 intro c
 have here:∀ (c:Code) (aq:List Ans) (fr:Fr) (σ:St) (Ks:Fr→St→List Ans→Prop),(∀ K e fr' σ' as',kAt P R rd c [] K e fr' σ' as'=K e fr' σ' as')→Ks fr σ aq →
   ∃ fr1 σ1 as1,Ks fr1 σ1 as1∧∀ s,some c=some s→∀ e fr' σ',zBM P R rd s fr1 σ1 e fr' σ'→∀ K as',kAt P R rd c [] K e fr' σ' as'→∃ e2 fr2 σ2 as2,zBM P R rd c fr σ e2 fr2 σ2∧K e2 fr2 σ2 as2:=by
  intro c aq fr σ Ks hk h
  refine ⟨fr,σ,aq,h, ?_⟩
  intro s hs e fr' σ' hc K as' h2
  cases hs
  rw [hk] at h2
  exact ⟨e,fr',σ',as',hc,h2⟩
 induction c with
 | seq x y ihx ihy =>
  intro p aq fr σ Ks h
  match p with
  | []=>exact here _ aq fr σ Ks (fun _ _ _ _ _=>rfl) h
  | 0::p =>
   simp only [zIG] at h
   obtain ⟨fr1,σ1,as1,h1,h2⟩:=ihx _ _ _ _ _ h
   refine ⟨fr1,σ1,as1,h1, ?_⟩
   intro s hs e fr' σ' hc K as' hk
   simp only [zCU] at hs
   simp only [kAt] at hk
   obtain ⟨e2,fr2,σ2,as2,h3,h4⟩:=h2 s hs e fr' σ' hc _ as' hk
   cases e2 with
   | normal =>
    obtain ⟨e3,fr3,σ3,as3,h5,h6⟩:=zEV _ _ _ _ _ h4
    exact ⟨e3,fr3,σ3,as3,h3.seqN h5,h6⟩
   | _=>exact ⟨_,fr2,σ2,as2,h3.seqX (by simp),h4⟩
  | 1::p =>
   simp only [zIG] at h
   obtain ⟨e0,fr0,σ0,as0,h0,h⟩:=zEV _ _ _ _ _ h
   cases e0 with
   | normal =>
    obtain ⟨fr1,σ1,as1,h1,h2⟩:=ihy _ _ _ _ _ h
    refine ⟨fr1,σ1,as1,h1, ?_⟩
    intro s hs e fr' σ' hc K as' hk
    simp only [zCU] at hs
    simp only [kAt] at hk
    obtain ⟨e2,fr2,σ2,as2,h3,h4⟩:=h2 s hs e fr' σ' hc _ as' hk
    exact ⟨e2,fr2,σ2,as2,h0.seqN h3,h4⟩
   | _=>exact h.elim
  | (n+2)::p=>simp [zIG] at h
 | cond c x y ihx ihy =>
  intro p aq fr σ Ks h
  match p with
  | []=>exact here _ aq fr σ Ks (fun _ _ _ _ _=>rfl) h
  | 0::p =>
   have h:(match yG fr.f c with | .bool true=>zIG P R rd x p aq fr σ Ks | _=>False):=h
   split at h
   ·rename_i hb
    obtain ⟨fr1,σ1,as1,h1,h2⟩:=ihx _ _ _ _ _ h
    refine ⟨fr1,σ1,as1,h1, ?_⟩
    intro s hs e fr' σ' hc K as' hk
    simp only [zCU] at hs
    simp only [kAt] at hk
    obtain ⟨e2,fr2,σ2,as2,h3,h4⟩:=h2 s hs e fr' σ' hc _ as' hk
    exact ⟨e2,fr2,σ2,as2,h3.mapD (fun N=>by simp only [yM,zQE,hb]),h4⟩
   ·exact h.elim
  | 1::p =>
   have h:(match yG fr.f c with | .bool false=>zIG P R rd y p aq fr σ Ks | _=>False):=h
   split at h
   ·rename_i hb
    obtain ⟨fr1,σ1,as1,h1,h2⟩:=ihy _ _ _ _ _ h
    refine ⟨fr1,σ1,as1,h1, ?_⟩
    intro s hs e fr' σ' hc K as' hk
    simp only [zCU] at hs
    simp only [kAt] at hk
    obtain ⟨e2,fr2,σ2,as2,h3,h4⟩:=h2 s hs e fr' σ' hc _ as' hk
    exact ⟨e2,fr2,σ2,as2,h3.mapD (fun N=>by simp only [yM,zQE,hb]),h4⟩
   ·exact h.elim
  | (n+2)::p=>simp [zIG] at h
 | block id c ih =>
  intro p aq fr σ Ks h
  match p with
  | []=>exact here _ aq fr σ Ks (fun _ _ _ _ _=>rfl) h
  | 0::p =>
   simp only [zIG] at h
   obtain ⟨fr1,σ1,as1,h1,h2⟩:=ih _ _ _ _ _ h
   refine ⟨fr1,σ1,as1,h1, ?_⟩
   intro s hs e fr' σ' hc K as' hk
   simp only [zCU] at hs
   simp only [kAt] at hk
   obtain ⟨e2,fr2,σ2,as2,⟨N1,h3⟩,h4⟩:=h2 s hs e fr' σ' hc _ as' hk
   cases e2 with
   | exit i =>
    simp only at h4
    cases hb:Nat.beq i id with
    | true =>
     rw [hb] at h4
     exact ⟨_,fr2,σ2,as2,⟨N1,fun N hN=>by simp only [yM,zEL,h3 N hN,hb,cond_true]⟩,h4⟩
    | false =>
     rw [hb] at h4
     exact ⟨_,fr2,σ2,as2,⟨N1,fun N hN=>by simp only [yM,zEL,h3 N hN,hb,cond_false]⟩,h4⟩
   | _=>exact ⟨_,fr2,σ2,as2,⟨N1,fun N hN=>by simp only [yM,zEL,h3 N hN]⟩,h4⟩
  | (n+1)::p=>simp [zIG] at h
 | scope c ih =>
  intro p aq fr σ Ks h
  match p with
  | []=>exact here _ aq fr σ Ks (fun _ _ _ _ _=>rfl) h
  | 0::p =>
   simp only [zIG] at h
   obtain ⟨fr1,σ1,as1,h1,h2⟩:=ih _ _ _ _ _ h
   refine ⟨fr1,σ1,as1,h1, ?_⟩
   intro s hs e fr' σ' hc K as' hk
   simp only [zCU] at hs
   simp only [kAt] at hk
   obtain ⟨e2,fr2,σ2,as2,h3,h4⟩:=h2 s hs e fr' σ' hc _ as' hk
   exact ⟨e2,fr2,σ2,as2,h3.mapD (fun N=>by simp only [yM]),h4⟩
  | (n+1)::p=>simp [zIG] at h
 | _ =>
  intro p aq fr σ Ks h
  match p with
  | []=>exact here _ aq fr σ Ks (fun _ _ _ _ _=>rfl) h
  | n::p=>simp [zIG] at h
end
end Go.Lay
