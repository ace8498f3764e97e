
import Derived.Test.YtflfajphjmajpaaGreatDoorLayC
namespace Go.Lay
open Go
variable {t st xt e m b:Nat} {vs xs:List Value} {q:Option Addr}
section
variable {P:Program} {S:Nat->Prop} {Z U:St} {n0 n N len c:Nat} {p:Option Addr} {cs:List Value}
def Buf (Z:St) (n0 n N:Nat) (p:Option Addr) (len c:Nat) (cs:List Value):Prop :=
 (p=none/\N=0/\len=0/\c=0/\cs=[])\/∃ b bc,p=some ⟨b,0,none⟩/\yE c=N/\Own Z b bc n/\bc.length=N*n/\len<=N/\bc.take (len*n)=cs/\n0<=b/\0<N
theorem Buf.nil:Buf Z n0 n 0 none 0 0 []:=.inl ⟨rfl,rfl,rfl,rfl,rfl⟩
theorem Buf.bd (h:Buf Z n0 n N p len c cs):∀ b,AtP p b->n0<=b/\b<Z.y:=by
 rintro b ⟨a,rfl,rfl⟩;rcases h with ⟨h,_⟩ | ⟨b,bc,h1,_,h3,_,_,_,h7,_⟩
 ·cases h
 ·cases h1;exact ⟨h7,h3.lt⟩
theorem Buf.le (h:Buf Z n0 n N p len c cs) (k:Le Z U):Buf U n0 n N p len c cs:=by
 rcases h with h | ⟨b,bc,rfl,h2,h3,h4,h5,h6,h7,h8⟩
 ·exact .inl h
 ·exact .inr ⟨b,bc,rfl,h2,h3.le k,h4,h5,h6,h7,h8⟩
theorem Buf.len_le (h:Buf Z n0 n N p len c cs):len<=N/\cs.length=len*n:=by
 rcases h with ⟨rfl,rfl,rfl,rfl,rfl⟩ | ⟨b,bc,rfl,h2,h3,h4,h5,h6,h7,h8⟩
 ·simp
 ·refine ⟨h5, ?_⟩
  rw [<- h6,List.length_take,h4];exact Nat.min_eq_left (Nat.mul_le_mul_right _ h5)
theorem Buf.slp (h:Buf Z n0 n N p len c cs):SlP Z n p len cs:=by
 refine ⟨h.len_le.2, ?_⟩
 rcases h with ⟨rfl,rfl,rfl,rfl,rfl⟩ | ⟨b,bc,rfl,h2,h3,h4,h5,h6,h7,h8⟩
 ·rfl
 ·have:=h3.rw.part (k:=0) (m:=len*n) (by rw [h4,Nat.zero_add];exact Nat.mul_le_mul_right _ h5);rw [List.drop_zero,h6] at this;exact this
theorem Buf.slv (h:Buf Z n0 n N p len c (wI vs)) (hl:vs.length=len) (he:∀ v∈vs,zGZ P t n v):SlV P Z t n p len vs:=⟨h.slp,hl,he⟩
theorem Buf.push {d:Nat} (T:AppT P st xt e n) (h:Buf Z n0 n N p len c cs) (hs:SlP Z n q m xs) (hm:len+m<=N) (hN:N<=1073741824) (hc:xs.all cellB=true) :
  ∃ Z',yA P st xt (.slice p len c) (.slice q m d) Z=some (.slice p (len+m) c,Z')/\Buf Z' n0 n N p (len+m) c (cs++xs)/\Only (AtP p) Z Z'/\Z'.y=Z.y/\(Z'=Z\/∃ b,AtP p b/\Z'.low<=b):=by
 obtain ⟨xd,hxd,hxi⟩:=T.src;obtain ⟨ei,z,hei,hz,hby,hrz,hzl⟩:=T.info;have hsrc:zCS Z n z xd (.slice q m d)=some (m,xs):=by
  have:wU Z n (.slice q m d)=some (m,xs):=by
   cases q with
   | none =>
    obtain ⟨h1,h2⟩:=hs;have h2:m=0:=h2;subst h2;have:xs=[]:=List.eq_nil_of_length_eq_zero (by omega);subst this;simp [wU]
   | some a =>
    have hrd:=hs.2.rd;rw [hs.1] at hrd;simp [wU,hrd]
  unfold zCS;cases xd with
  | int _=>cases hxi
  | _=>simp only [this]
 have hcond:(zCA (len+m) n ei.bytes && xs.all cellB && Nat.beq xs.length (m*n) && zQ RD z && Nat.beq z.cells.toList.length n)=true:=by
  unfold zCA;rw [(zP _ _).2 (by omega),(zP _ _).2 T.le,(zP _ _).2 hby,hc,hs.1,Nat.beq_refl,hrz,hzl];rfl
 have hc0:yE 0=0:=by unfold yE;have:=zDE;rw [if_neg (by omega)]
 rcases h with ⟨rfl,rfl,rfl,rfl,rfl⟩ | ⟨b,bc,rfl,hcl,h3,h4,h5,h6,h7,h8⟩
 ·have hm0:m=0:=by omega
  subst hm0;have hx:xs=[]:=List.eq_nil_of_length_eq_zero (by have:=hs.1;omega);subst hx;have hlc:Nat.ble (0+0) (yE 0)=true:=by rw [hc0];rfl
  refine ⟨Z, ?_,.inl ⟨rfl,rfl,rfl,rfl,rfl⟩,Only.refl _ _,rfl,.inl rfl⟩
  unfold yA;simp only [T.el,hxd,hei,hz,hsrc,hcond,cond_true,vZ,hlc];simp
 ·have hlc:Nat.ble (len+m) (yE c)=true:=by rw [hcl];exact (zP _ _).2 hm
  rcases Nat.eq_zero_or_pos m with h0 | h0
  ·subst h0;have hx:xs=[]:=List.eq_nil_of_length_eq_zero (by have:=hs.1;omega);subst hx;refine ⟨Z, ?_,.inr ⟨b,bc,rfl,hcl,h3,h4,by omega,by rw [Nat.add_zero,h6,List.append_nil],h7,h8⟩,Only.refl _ _,rfl,.inl rfl⟩
   unfold yA;simp only [T.el,hxd,hei,hz,hsrc,hcond,cond_true,vZ,hlc];simp
  ·have hb:Nat.beq m 0=false:=by rw [Bool.eq_false_iff];intro e;have:=Nat.eq_of_beq_eq_true e;omega
   have hxl:xs.length=m*n:=hs.1;have hle:len*n+m*n<=bc.length:=by rw [h4,<- Nat.add_mul];exact Nat.mul_le_mul_right _ hm
   have hw:yZ Z (zS ⟨b,0,none⟩ (len*n)) xs=some (Z.own b (bc.take (len*n)++(xs++bc.drop (len*n+m*n))) n):=by
    have h2:(Nat.beq 0 0 && Nat.ble (0+len*n+m*n) bc.length && !false && xs.all cellB)=true:=by
     rw [hc,(zP _ _).2 (by omega)];rfl
    unfold yZ;simp only [zS,h3.get,zZ,Option.getD_none,hxl,h2,cond_true,zBU,St.write_eq,Nat.zero_add];rw [Nat.zero_add] at h2;simp only [h2,cond_true];unfold St.own;have hl:(bc.take (len*n)++(xs++bc.drop (len*n+m*n))).length=bc.length:=by simp;omega
    rw [hl]
   refine ⟨_, ?_,.inr ⟨b,bc.take (len*n)++(xs++bc.drop (len*n+m*n)),rfl,hcl,h3.put,by rw [<- h4];simp;omega,hm, ?_,h7,h8⟩,Only.own (.inr ⟨_,rfl,rfl⟩),rfl,.inr ⟨b,⟨_,rfl,rfl⟩,by simp [St.own];omega⟩⟩
   ·unfold yA;simp only [T.el,hxd,hei,hz,hsrc,hcond,cond_true,vZ,hlc,hb,cond_false,hw,Option.map_some]
   ·have e1:(bc.take (len*n)).length=len*n:=by rw [List.length_take];omega
    rw [Nat.add_mul,List.take_append,e1,Nat.add_sub_cancel_left,List.take_of_length_le (by omega),<- hxl,List.take_left,h6]
theorem yMV {k:IntKind} {z:Value} (hel:xS P st=some (e,n)) (hx:P.underlying xt=some (.int k)) {ei:TypeInfo} (hei:P.info? e=some ei) (hz:ei.zero=some z) (hby:ei.bytes<=4096) (hrz:zQ RD z=true) (hzl:Nat.beq z.cells.toList.length n=true) (hn:0<n/\n<=4096) (hN:N<=1073741824) (hp:0<N) {q:IntKind}
  (hzc:(yL z.cells.toList N).length=N*n) (hcb:(yL z.cells.toList N).all cellB=true) :
  yA P st xt (.slice none 0 0) (.int q (N:Int)) Z=some (.slice (some ⟨Z.y,0,none⟩) N (N+vU),Z.row (yL z.cells.toList N) n):=by
 have h1:leI 0 (N:Int)=true:=(vG _ _).2 (by omega);have h2:leI (N:Int) 1073741824=true:=(vG _ _).2 (by omega);have h3:Nat.blt 0 n=true:=(zAQ _ _).2 hn.1;have hsrc:zCS Z n z (.int k) (.int q (N:Int))=some (N,yL z.cells.toList N):=by
  unfold zCS;simp only [h1,h2,h3,hzl,Bool.and_self,cond_true,Int.toNat_natCast]
 have hcond:(zCA (0+N) n ei.bytes && (yL z.cells.toList N).all cellB && Nat.beq (yL z.cells.toList N).length (N*n) && zQ RD z && Nat.beq z.cells.toList.length n)=true:=by
  unfold zCA;rw [(zP _ _).2 (by omega),(zP _ _).2 hn.2,(zP _ _).2 hby,hcb,hzc,Nat.beq_refl,hrz,hzl];rfl
 have hc0:yE 0=0:=by unfold yE;have:=zDE;rw [if_neg (by omega)]
 have hc1:yY 0=true:=(xI 0).2 zDE;have hble:Nat.ble (0+N) 0=false:=by rw [Bool.eq_false_iff];intro e;have:=(zP _ _).1 e;omega
 have:yA P st xt (.slice none 0 0) (.int q (N:Int)) Z=some (.slice (some ⟨Z.y,0,none⟩) (0+N) (0+N+vU),Z.add (.cells (yL z.cells.toList N) n [(0,(yL z.cells.toList N).length)] 1 false)):=by
  unfold yA;simp only [hel,hx,hei,hz,hsrc,hcond,cond_true,vZ,hc0,hble,cond_false,hc1,yO];rfl
 rw [this,Nat.zero_add];rfl
theorem zWD {bc:List Value} (hu:P.underlying t=some (.slice e)) (hs:yU P e=some n) (o:Own Z b bc n) (hp:0<N) (hcl:yE c=N) (hx:yY c=false) {q:IntKind}:∃ c',xZ P Z t (.slice (some ⟨b,0,none⟩) N c) none (some (.int q 0)) none=some (.slice (some ⟨b,0,none⟩) 0 c')/\yE c'=N:=by
 have hok:zDG Z ⟨b,0,none⟩ n=true:=by simp [zDG,o.get,zZ,wR]
 have h1:wG (some (.int q 0)) N N=some 0:=uZ (x:=0) rfl (Nat.zero_le _);have h2:wG none 0 0=some 0:=rfl;have h3:Nat.ble N 0=false:=by rw [Bool.eq_false_iff];intro e;have:=(zP _ _).1 e;omega
 have ea:zS ⟨b,0,none⟩ (0*n)=⟨b,0,none⟩:=by rw [Nat.zero_mul];rfl
 refine ⟨N-0+vU, ?_,by rw [wY];rfl⟩
 simp only [xZ,hu,hs,hok,cond_true,wJ,hcl,h1,h2,hx,Bool.or_false,Option.isSome_none,cond_false,h3,ea]
def Ax (Z:St) (n0 n:Nat) (p:Option Addr) (len c:Nat) (cs:List Value):Prop :=
 App Z n0 n (.slice p len c) len cs\/∃ b,p=some ⟨b,0,none⟩/\c=len/\yY len=true/\cs.length=len*n/\Own Z b cs n/\n0<=b
theorem Ax.nil:Ax Z n0 n none 0 0 []:=.inl .nil
theorem Ax.lit (o:Own Z b cs n) (hl:cs.length=len*n) (he:yY len=true) (hb:n0<=b):Ax Z n0 n (some ⟨b,0,none⟩) len len cs:=.inr ⟨b,rfl,rfl,he,hl,o,hb⟩
theorem Ax.slp (h:Ax Z n0 n p len c cs):SlP Z n p len cs:=by
 rcases h with h | ⟨b,rfl,rfl,_,h1,h2,h3⟩
 ·cases h with
  | nil=>exact SlP.nil _ _
  | more h1 h2 h3 h4 h5 h6 h7 =>
   refine ⟨h5, ?_,h4⟩
   have hle:∀ k:Nat,Nat.ble (0+k) k=true:=fun k=>(zP _ _).2 (by omega)
   unfold yR;simp only [h1,zZ,h2,wR,Nat.beq_refl,cond_true,hle,List.drop_zero,List.take_length]
 ·exact ⟨h1,h2.rw⟩
theorem Ax.slv (h:Ax Z n0 n p len c (wI vs)) (hl:vs.length=len) (he:∀ v∈vs,zGZ P t n v):SlV P Z t n p len vs:=⟨h.slp,hl,he⟩
theorem Ax.bd (h:Ax Z n0 n p len c cs):∀ b,AtP p b->n0<=b/\b<Z.y:=by
 rintro b ⟨a,rfl,rfl⟩;rcases h with h | ⟨b,h0,_,_,_,h2,h3⟩
 ·exact ⟨h.ge a rfl,h.lt a rfl⟩
 ·cases h0;exact ⟨h3,h2.lt⟩
theorem Ax.le (h:Ax Z n0 n p len c cs) (k:Le Z U):Ax U n0 n p len c cs:=by
 rcases h with h | ⟨b,h1,h2,h3,h4,h5,h6⟩
 ·exact .inl (h.keep k)
 ·exact .inr ⟨b,h1,h2,h3,h4,h5.le k,h6⟩
theorem Ax.only (h:Ax Z n0 n p len c cs) (k:Only S Z U) (hs:∀ b,AtP p b->¬ S b):Ax U n0 n p len c cs:=by
 rcases h with h | ⟨b,rfl,h2,h3,h4,h5,h6⟩
 ·exact .inl (k.app' h (by rintro a l c' e;cases e;exact hs _ ⟨a,rfl,rfl⟩))
 ·exact .inr ⟨b,rfl,h2,h3,h4,k.own' h5 (hs b ⟨_,rfl,rfl⟩),h6⟩
theorem Ax.append {k:Nat} (T:AppT P st xt e n) (hA:Ax Z n0 n p len c cs) (hs:SlP Z n q m xs) (hroom:len+m<=1073741824) (hc:xs.all cellB=true) (hn0:n0<=Z.y) :
  ∃ p' c' Z',yA P st xt (.slice p len c) (.slice q m k) Z=some (.slice p' (len+m) c',Z')/\Ax Z' n0 n p' (len+m) c' (cs++xs)/\Only (AtP p) Z Z'/\(∀ b,AtP p' b->AtP p b\/Z.y<=b):=by
 obtain ⟨xd,hxd,hxi⟩:=T.src;obtain ⟨ei,z,hei,hz,hby,hrz,hzl⟩:=T.info;have hsrc:zCS Z n z xd (.slice q m k)=some (m,xs):=by
  have:wU Z n (.slice q m k)=some (m,xs):=by
   cases q with
   | none =>
    obtain ⟨h1,h2⟩:=hs;have h2:m=0:=h2;subst h2;have:xs=[]:=List.eq_nil_of_length_eq_zero (by omega);subst this;simp [wU]
   | some a =>
    have hrd:=hs.2.rd;rw [hs.1] at hrd;simp [wU,hrd]
  unfold zCS;cases xd with
  | int _=>cases hxi
  | _=>simp only [this]
 have hcond:(zCA (len+m) n ei.bytes && xs.all cellB && Nat.beq xs.length (m*n) && zQ RD z && Nat.beq z.cells.toList.length n)=true:=by
  unfold zCA;rw [(zP _ _).2 hroom,(zP _ _).2 T.le,(zP _ _).2 hby,hc,hs.1,Nat.beq_refl,hrz,hzl];rfl
 have hc0:yE 0=0:=by unfold yE;have:=zDE;rw [if_neg (by omega)]
 rcases Nat.eq_zero_or_pos m with h0 | h0
 ·subst h0;have hx:xs=[]:=List.eq_nil_of_length_eq_zero (by have:=hs.1;omega);subst hx;have hlc:Nat.ble (len+0) (yE c)=true:=by
   rcases hA with h | ⟨b,_,rfl,he,_⟩
   ·cases h with
    | nil=>rw [hc0];rfl
    | more _ _ _ _ _ _ _=>rw [wY];exact (zP _ _).2 (Nat.le_refl _)
   ·rw [zAP he];exact (zP _ _).2 (Nat.le_refl _)
  refine ⟨p,c,Z, ?_,by simpa using hA,Only.refl _ _,fun b hb=>.inl hb⟩
  unfold yA;simp only [T.el,hxd,hei,hz,hsrc,hcond,cond_true,vZ,hlc];cases p <;> simp
 ·rcases hA with h | ⟨b,rfl,rfl,he,hl,h5,h6⟩
  ·obtain ⟨a,rfl,hr⟩:=hs.some h0;obtain ⟨p',c',Z',h1,h2,h3,h4⟩:=yGM (k:=k) T h hr hs.1 h0 hroom hc hn0;exact ⟨p',c',Z',h1,.inl h2,h3,h4⟩
  ·have hble:Nat.ble (c+m) c=false:=by rw [Bool.eq_false_iff];intro e;have:=(zP _ _).1 e;omega
   have hrd:=h5.rw.rd;rw [hl] at hrd;have el:(cs++xs).length=(c+m)*n:=by rw [List.length_append,hl,hs.1,Nat.add_mul]
   refine ⟨some ⟨Z.y,0,none⟩,c+m+vU,Z.add (.cells (cs++xs) n [(0,(cs++xs).length)] 1 false), ?_,.inl ?_,Only.add _ _,fun b hb=>.inr (by obtain ⟨a,e,rfl⟩:=hb;cases e;exact Nat.le_refl _)⟩
   ·unfold yA;simp only [T.el,hxd,hei,hz,hsrc,hcond,cond_true,vZ,zAP he,hble,cond_false,he,hrd,yO]
   ·exact .more (b:=Z.y) (s:=0) (nx:=1) (log:=[]) (by rw [St.add_get,if_pos rfl]) rfl hn0 (by simp) el (by omega) (by omega)
end
end Go.Lay

namespace Go.Lay
open Go
section
variable {P:Program} {alts:List Alt}
theorem zRN {lo db:Nat} {tm:Tm} {ps:List Tmp} {a b:Code} {args:List Value} {U U1:St} (hl:yD U.heap lo=some (.loop tm ps a b .ready none db)) (hn:args.length=ps.length) {Z1:St} (hl1:yD U1.heap lo=some (.loop tm ps a b .ready none db)) (hZ:Z1=U1.put lo (.loop tm ps a b .busy none db)) (aq:List Ans)
  (h:Hid (wpE P (zW P) (some lo) a aq ⟨(ps.zip args).foldl (fun f p=>f.set p.1 p.2) tm,[]⟩ U.re (KAs P (zW P) lo b U1 Z1 (xAJ alts)))) :
  zCT P lo args U tm ps a b db alts:=by
 subst hZ;obtain ⟨e1,fr1,s1,an1,⟨N1,h1⟩,⟨rfl,rfl⟩,h2⟩:=zCE _ _ _ _ _ (hid h);obtain ⟨e,fr2,s,an2,⟨N2,h3⟩,h4⟩:=zCE _ _ _ _ _ h2;unfold xAJ at h4;split at h4;rotate_left
 ·exact h4.elim
 obtain ⟨rfl,h5,h6⟩:=h4;rename_i al t;refine ⟨_,s,⟨al,h6,rfl,t,h5⟩,fun he hlt hb hs=>⟨N1+N2+1,fun N hN=>?_⟩⟩
 obtain ⟨N,rfl⟩:∃ N',N=N'+1:=⟨N-1,by omega⟩;have k1:=h1 N (by omega);have k3:=h3 N (by omega);have hr:(⟨U.heap,U.y,U.y⟩:St)=U.re:=rfl;have hlr:yD U.re.heap lo=some (.loop tm ps a b .ready none db):=hl;unfold uE;rw [hr];rw [zWM];simp only [zRG,hlr,hn,Nat.beq_refl,cond_true,Tm.puts_eq,k1,zLM,hl1,St.write_eq,k3];have key:∀ y:Blk,vW U (.bool (zYM al.e)) (s.put lo y)=some (.bool (zYM al.e),⟨(s.put lo y).heap,s.y,min U.low (min s.low lo)⟩):=by
  intro y;unfold vW;have e1:Nat.ble U.y (s.put lo y).low=false:=by
   rw [Bool.eq_false_iff];intro e;have:=(zP _ _).1 e;simp only [St.put_low] at this;omega
  have e2:Nat.ble U.y (s.put lo y).y=true:=(zP _ _).2 hs;simp only [e1,Bool.false_and,cond_false,e2,cond_true,wL,zBD];rfl
 rcases he with e | e | ⟨i,e⟩ <;> (rw [e] at key ⊢;simp only [zLL,zET,hb,St.write_eq];exact key _)
end
end Go.Lay

namespace Go.Lay
open Go
section
variable {P:Program} {R:Nat->Rec} {rd:Option Nat}
end
end Go.Lay

namespace Go.Lay
open Go Go.Sort
section
variable {P:Program} {Z Z':St} {α:Type} {f g k len c:Nat} {enc:α->List Value} {cf:α->α->Int} {xs:List α} {a:Addr}
theorem yAB {k:Nat}:∀ {ls:List (List Value)},(∀ x∈ls,x.length=k)->zFW k ls.length ls.flatten=ls
 | [],_=>rfl
 | x::ls,h=>by
  have hx:=h x List.mem_cons_self;show (x++ls.flatten).take k::zFW k ls.length ((x++ls.flatten).drop k)=_;rw [List.take_append_of_le_length (by omega),List.take_of_length_le (by omega),List.drop_append_of_le_length (by omega),List.drop_eq_nil_of_le (by omega),List.nil_append,yAB fun y hy=>h y (List.mem_cons_of_mem _ hy)]
theorem yAF:∀ {l:List Value},(∀ v∈l,∃ n,v=.int .i64 n\/v=.int .u8 n)->zAO l l=true
 | [],_=>rfl
 | v::l,h=>by
  have ih:=yAF fun v hv=>h v (List.mem_cons_of_mem _ hv)
  obtain ⟨n,rfl | rfl⟩:=h v List.mem_cons_self <;> simp [zAO,kEq,ih,zTC]
theorem xRI {x y:List Value} {z:Int} (h:zJ P g [.agg ⟨x⟩,.agg ⟨y⟩] st0 (.int .i64 z) st0):∃ N0,∀ N,N0<=N->zVC (zW P N) g x y=some z:=by
 obtain ⟨N0,h⟩:=h;refine ⟨N0,fun N hN=>?_⟩
 have h:=h N hN;unfold uE at h;unfold zVC;have e:(⟨st0.heap,st0.y,st0.y⟩:St)=st0:=rfl;rw [e] at h;split at h
 ·cases h
 ·rename_i v s hr;rw [hr];unfold vW at h;cases hb:Nat.ble st0.y s.low && zQ RD v with
  | true =>
   rw [hb,cond_true] at h;simp at h;rw [h]
  | false =>
   rw [hb,cond_false] at h;obtain ⟨_,h⟩:=yT h;rw [wL] at h;simp at h;rw [h.1]
theorem xEQ {p:Nat->α->α->Prop} (h:∀ x∈xs,∀ y∈xs,∃ N0,∀ N,N0<=N->p N x y):∃ N0,∀ N,N0<=N->∀ x∈xs,∀ y∈xs,p N x y:=by
 have one:∀ (q:Nat->α->Prop) (l:List α),(∀ y∈l,∃ N0,∀ N,N0<=N->q N y)->∃ N0,∀ N,N0<=N->∀ y∈l,q N y:=by
  intro q l;induction l with
  | nil=>intro _;exact ⟨0,fun _ _ y hy=>by cases hy⟩
  | cons z l ih =>
   intro hq;obtain ⟨n1,h1⟩:=hq z List.mem_cons_self;obtain ⟨n2,h2⟩:=ih fun y hy=>hq y (List.mem_cons_of_mem _ hy)
   refine ⟨n1+n2,fun N hN y hy=>?_⟩
   rcases List.mem_cons.1 hy with rfl | hy
   ·exact h1 N (by omega)
   ·exact h2 N (by omega) y hy
 exact one (fun N x=>∀ y∈xs,p N x y) xs fun x hx=>one (fun N y=>p N x y) xs fun y hy=>h x hx y hy
theorem xAQ (hF:zEX f=true) (hR:∀ rec args Z,zXJ rec f args Z=zWB rec k args Z) (hc:∀ x∈xs,∀ y∈xs,zJ P g [.agg ⟨enc x⟩,.agg ⟨enc y⟩] st0 (.int .i64 (cf x y)) st0) (hS:SWO (yG cf))
  (hT:∀ x∈xs,∀ y∈xs,yG cf x y=false->yG cf y x=false->enc x=enc y) (hk:∀ x∈xs,(enc x).length=k) (hi:∀ x∈xs,∀ v∈enc x,∃ n,v=.int .i64 n\/v=.int .u8 n) (hl:xs.length=len) (h0:0<len) (h1:len<=1000000)
  (hr:yR Z a (len*k)=some (xs.map enc).flatten) (hw:yZ Z a ((sortL (yG cf) xs).map enc).flatten=some Z') :
  xNR P f [.slice (some a) len c,.func (.func g) ⟨[]⟩ ⟨[]⟩] Z (.tuple ⟨[]⟩) Z':=by
 obtain ⟨N0,hN⟩:=xEQ (p:=fun N x y=>zVC (zW P N) g (enc x) (enc y)=some (cf x y)) fun x hx y hy=>xRI (hc x hx y hy)
 refine ⟨N0+1,fun N hNN=>?_⟩
 obtain ⟨N,rfl⟩:∃ M,N=M+1:=⟨N-1,by omega⟩;have hN:=hN N (by omega);rw [yKO hF,hR];have hlt:∀ x∈xs,∀ y∈xs,ltO (zW P N) g (enc x) (enc y)=yG cf x y:=fun x hx y hy=>by
  unfold ltO yG;rw [hN x hx y hy];show ltI _ 0=_;rw [zSI]
 have hch:zFW k len (xs.map enc).flatten=xs.map enc:=by
  have:=yAB (k:=k) (ls:=xs.map enc) (by intro x hx;obtain ⟨y,hy,rfl⟩:=List.mem_map.1 hx;exact hk y hy);rwa [List.length_map,hl] at this
 have hsort:sortL (ltO (zW P N) g) (xs.map enc)=(sortL (yG cf) xs).map enc:=yDJ enc hlt;have hint:(xs.map enc).flatten.all zPV=true:=List.all_eq_true.2 fun v hv=>by
  obtain ⟨l,hl',hv⟩:=List.mem_flatten.1 hv;obtain ⟨x,hx,rfl⟩:=List.mem_map.1 hl';obtain ⟨n,rfl | rfl⟩:=hi x hx v hv <;> rfl
 have hlaw:xUJ zAO (ltO (zW P N) g) (fun x y=>(zVC (zW P N) g x y).isSome) (xs.map enc)=true:=by
  unfold xUJ;refine List.all_eq_true.2 fun x' hx'=>?_
  obtain ⟨x,hx,rfl⟩:=List.mem_map.1 hx';simp only [Bool.and_eq_true,Bool.not_eq_true',Bool.or_eq_true];refine ⟨by rw [hlt x hx x hx];exact hS.irrefl x,List.all_eq_true.2 fun y' hy'=>?_⟩
  obtain ⟨y,hy,rfl⟩:=List.mem_map.1 hy';simp only [Bool.and_eq_true,Bool.or_eq_true];refine ⟨⟨by rw [hN x hx y hy];rfl, ?_⟩,List.all_eq_true.2 fun z' hz'=>?_⟩
  ·rw [hlt x hx y hy,hlt y hy x hx];cases e1:yG cf x y with
   | true=>exact .inl (.inl rfl)
   | false =>
    cases e2:yG cf y x with
    | true=>exact .inl (.inr rfl)
    | false=>right;rw [<- hT x hx y hy e1 e2];exact yAF (hi x hx)
  ·obtain ⟨z,hz,rfl⟩:=List.mem_map.1 hz';simp only [Bool.and_eq_true,Bool.or_eq_true,Bool.not_eq_true'];rw [hlt x hx y hy,hlt y hy z hz,hlt x hx z hz];have t1:=hS.trans x y z;have t2:=hS.ntrans x y z;revert t1 t2;cases yG cf x y <;> cases yG cf y z <;> cases yG cf x z <;> simp
 have hb:Nat.beq len 0=false:=by rw [Bool.eq_false_iff];intro e;have:=Nat.eq_of_beq_eq_true e;omega
 have hb1:Nat.ble len 1000000=true:=(zP _ _).2 h1;unfold zWB;simp only [hb,cond_false,hb1,hr,hint,hch,hlaw,hsort,hw,Bool.true_and];rfl
end
end Go.Lay
