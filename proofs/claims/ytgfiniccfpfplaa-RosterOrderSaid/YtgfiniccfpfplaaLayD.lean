
import Derived.Test.YtgfiniccfpfplaaLayC
namespace Go.Lay
open Go
section
variable {P:Program} {S:Nat→Prop} {σ τ:St} {n0 n N len c:Nat} {p:Option Addr} {cs:List Value}
def Buf (σ:St) (n0 n N:Nat) (p:Option Addr) (len c:Nat) (cs:List Value):Prop :=
 (p=none∧N=0∧len=0∧c=0∧cs=[])∨∃ b bc,p=some ⟨b,0,none⟩∧yN c=N∧Own σ b bc n∧bc.length=N*n∧len≤N∧bc.take (len*n)=cs∧n0≤b∧0<N
theorem Buf.nil:Buf σ n0 n 0 none 0 0 []:=.inl ⟨rfl,rfl,rfl,rfl,rfl⟩
theorem Buf.bd (h:Buf σ n0 n N p len c cs):∀ b,AtP p b→n0≤b∧b<σ.y:=by
 rintro b ⟨a,rfl,rfl⟩;rcases h with ⟨h,_⟩ | ⟨b,bc,h1,_,h3,_,_,_,h7,_⟩
 ·cases h
 ·cases h1;exact ⟨h7,h3.lt⟩
theorem Buf.le (h:Buf σ n0 n N p len c cs) (k:Le σ τ):Buf τ n0 n N p len c cs:=by
 rcases h with h | ⟨b,bc,rfl,h2,h3,h4,h5,h6,h7,h8⟩
 ·exact .inl h
 ·exact .inr ⟨b,bc,rfl,h2,h3.le k,h4,h5,h6,h7,h8⟩
theorem Buf.len_le (h:Buf σ n0 n N p len c cs):len≤N∧cs.length=len*n:=by
 rcases h with ⟨rfl,rfl,rfl,rfl,rfl⟩ | ⟨b,bc,rfl,h2,h3,h4,h5,h6,h7,h8⟩
 ·simp
 ·refine ⟨h5, ?_⟩
  rw [← h6,List.length_take,h4];exact Nat.min_eq_left (Nat.mul_le_mul_right _ h5)
theorem Buf.slp (h:Buf σ n0 n N p len c cs):SlP σ n p len cs:=by
 refine ⟨h.len_le.2, ?_⟩
 rcases h with ⟨rfl,rfl,rfl,rfl,rfl⟩ | ⟨b,bc,rfl,h2,h3,h4,h5,h6,h7,h8⟩
 ·rfl
 ·have:=h3.rw.part (k:=0) (m:=len*n) (by rw [h4,Nat.zero_add];exact Nat.mul_le_mul_right _ h5);rw [List.drop_zero,h6] at this;exact this
theorem Buf.slv {t:Nat} {vs:List Value} (h:Buf σ n0 n N p len c (xF vs)) (hl:vs.length=len) (he:∀ v∈vs,zBT P t n v):SlV P σ t n p len vs:=⟨h.slp,hl,he⟩
theorem Buf.push {st xt e m d:Nat} {q:Option Addr} {xs:List Value} (T:AppT P st xt e n) (h:Buf σ n0 n N p len c cs) (hs:SlP σ n q m xs) (hm:len+m≤N) (hN:N≤1073741824) (hc:xs.all cellB=true) :
  ∃ σ',yD P st xt (.slice p len c) (.slice q m d) σ=some (.slice p (len+m) c,σ')∧Buf σ' n0 n N p (len+m) c (cs++xs)∧Only (AtP p) σ σ'∧σ'.y=σ.y∧(σ'=σ∨∃ b,AtP p b∧σ'.low≤b):=by
 obtain ⟨xd,hxd,hxi⟩:=T.src;obtain ⟨ei,z,hei,hz,hby,hrz,hzl⟩:=T.info;have hsrc:zAM σ n z xd (.slice q m d)=some (m,xs):=by
  have:vP σ n (.slice q m d)=some (m,xs):=by
   cases q with
   | none =>
    obtain ⟨h1,h2⟩:=hs;have h2:m=0:=h2;subst h2;have:xs=[]:=List.eq_nil_of_length_eq_zero (by omega);subst this;simp [vP]
   | some a =>
    have hrd:=hs.2.rd;rw [hs.1] at hrd;simp [vP,hrd]
  unfold zAM;cases xd with
  | int _=>cases hxi
  | _=>simp only [this]
 have hcond:(zAQ (len+m) n ei.bytes && xs.all cellB && Nat.beq xs.length (m*n) && zV RD z && Nat.beq z.cells.toList.length n)=true:=by
  unfold zAQ;rw [(zW _ _).2 (by omega),(zW _ _).2 T.le,(zW _ _).2 hby,hc,hs.1,Nat.beq_refl,hrz,hzl];rfl
 have hc0:yN 0=0:=by unfold yN;have:=wW;rw [if_neg (by omega)]
 rcases h with ⟨rfl,rfl,rfl,rfl,rfl⟩ | ⟨b,bc,rfl,hcl,h3,h4,h5,h6,h7,h8⟩
 ·have hm0:m=0:=by omega
  subst hm0;have hx:xs=[]:=List.eq_nil_of_length_eq_zero (by have:=hs.1;omega);subst hx;have hlc:Nat.ble (0+0) (yN 0)=true:=by rw [hc0];rfl
  refine ⟨σ, ?_,.inl ⟨rfl,rfl,rfl,rfl,rfl⟩,Only.refl _ _,rfl,.inl rfl⟩
  unfold yD;simp only [T.el,hxd,hei,hz,hsrc,hcond,cond_true,vO,hlc];simp
 ·have hlc:Nat.ble (len+m) (yN c)=true:=by rw [hcl];exact (zW _ _).2 hm
  rcases Nat.eq_zero_or_pos m with h0 | h0
  ·subst h0;have hx:xs=[]:=List.eq_nil_of_length_eq_zero (by have:=hs.1;omega);subst hx;refine ⟨σ, ?_,.inr ⟨b,bc,rfl,hcl,h3,h4,by omega,by rw [Nat.add_zero,h6,List.append_nil],h7,h8⟩,Only.refl _ _,rfl,.inl rfl⟩
   unfold yD;simp only [T.el,hxd,hei,hz,hsrc,hcond,cond_true,vO,hlc];simp
  ·have hb:Nat.beq m 0=false:=by rw [Bool.eq_false_iff];intro e;have:=Nat.eq_of_beq_eq_true e;omega
   have hxl:xs.length=m*n:=hs.1;have hle:len*n+m*n≤bc.length:=by rw [h4,← Nat.add_mul];exact Nat.mul_le_mul_right _ hm
   have hw:vD σ (zN ⟨b,0,none⟩ (len*n)) xs=some (σ.own b (bc.take (len*n)++(xs++bc.drop (len*n+m*n))) n):=by
    have h2:(Nat.beq 0 0 && Nat.ble (0+len*n+m*n) bc.length && !false && xs.all cellB)=true:=by
     rw [hc,(zW _ _).2 (by omega)];rfl
    unfold vD;simp only [zN,h3.get,yB,Option.getD_none,hxl,h2,cond_true,zDW,St.write_eq,Nat.zero_add];rw [Nat.zero_add] at h2;simp only [h2,cond_true];unfold St.own;have hl:(bc.take (len*n)++(xs++bc.drop (len*n+m*n))).length=bc.length:=by simp;omega
    rw [hl]
   refine ⟨_, ?_,.inr ⟨b,bc.take (len*n)++(xs++bc.drop (len*n+m*n)),rfl,hcl,h3.put,by rw [← h4];simp;omega,hm, ?_,h7,h8⟩,Only.own (.inr ⟨_,rfl,rfl⟩),rfl,.inr ⟨b,⟨_,rfl,rfl⟩,by simp [St.own];omega⟩⟩
   ·unfold yD;simp only [T.el,hxd,hei,hz,hsrc,hcond,cond_true,vO,hlc,hb,cond_false,hw,Option.map_some]
   ·have e1:(bc.take (len*n)).length=len*n:=by rw [List.length_take];omega
    rw [Nat.add_mul,List.take_append,e1,Nat.add_sub_cancel_left,List.take_of_length_le (by omega),← hxl,List.take_left,h6]
theorem xLC {st xt e:Nat} {k:IntKind} {z:Value} (hel:wB P st=some (e,n)) (hx:P.underlying xt=some (.int k)) {ei:TypeInfo} (hei:P.info? e=some ei) (hz:ei.zero=some z) (hby:ei.bytes≤4096) (hrz:zV RD z=true) (hzl:Nat.beq z.cells.toList.length n=true) (hn:0<n∧n≤4096) (hN:N≤1073741824) (hp:0<N) {q:IntKind}
  (hzc:(yZ z.cells.toList N).length=N*n) (hcb:(yZ z.cells.toList N).all cellB=true) :
  yD P st xt (.slice none 0 0) (.int q (N:Int)) σ=some (.slice (some ⟨σ.y,0,none⟩) N (N+vW),σ.row (yZ z.cells.toList N) n):=by
 have h1:leI 0 (N:Int)=true:=(wY _ _).2 (by omega);have h2:leI (N:Int) 1073741824=true:=(wY _ _).2 (by omega);have h3:Nat.blt 0 n=true:=(xY _ _).2 hn.1;have hsrc:zAM σ n z (.int k) (.int q (N:Int))=some (N,yZ z.cells.toList N):=by
  unfold zAM;simp only [h1,h2,h3,hzl,Bool.and_self,cond_true,Int.toNat_natCast]
 have hcond:(zAQ (0+N) n ei.bytes && (yZ z.cells.toList N).all cellB && Nat.beq (yZ z.cells.toList N).length (N*n) && zV RD z && Nat.beq z.cells.toList.length n)=true:=by
  unfold zAQ;rw [(zW _ _).2 (by omega),(zW _ _).2 hn.2,(zW _ _).2 hby,hcb,hzc,Nat.beq_refl,hrz,hzl];rfl
 have hc0:yN 0=0:=by unfold yN;have:=wW;rw [if_neg (by omega)]
 have hc1:yU 0=true:=(yQ 0).2 wW;have hble:Nat.ble (0+N) 0=false:=by rw [Bool.eq_false_iff];intro e;have:=(zW _ _).1 e;omega
 have:yD P st xt (.slice none 0 0) (.int q (N:Int)) σ=some (.slice (some ⟨σ.y,0,none⟩) (0+N) (0+N+vW),σ.add (.cells (yZ z.cells.toList N) n [(0,(yZ z.cells.toList N).length)] 1 false)):=by
  unfold yD;simp only [hel,hx,hei,hz,hsrc,hcond,cond_true,vO,hc0,hble,cond_false,hc1,yO];rfl
 rw [this,Nat.zero_add];rfl
theorem yQD {t e b:Nat} {bc:List Value} (hu:P.underlying t=some (.slice e)) (hs:yT P e=some n) (o:Own σ b bc n) (hp:0<N) (hcl:yN c=N) (hx:yU c=false) {q:IntKind}:∃ c',yI P σ t (.slice (some ⟨b,0,none⟩) N c) none (some (.int q 0)) none=some (.slice (some ⟨b,0,none⟩) 0 c')∧yN c'=N:=by
 have hok:zHX σ ⟨b,0,none⟩ n=true:=by simp [zHX,o.get,yB,wM]
 have h1:wR (some (.int q 0)) N N=some 0:=zBX (x:=0) rfl (Nat.zero_le _);have h2:wR none 0 0=some 0:=rfl;have h3:Nat.ble N 0=false:=by rw [Bool.eq_false_iff];intro e;have:=(zW _ _).1 e;omega
 have ea:zN ⟨b,0,none⟩ (0*n)=⟨b,0,none⟩:=by rw [Nat.zero_mul];rfl
 refine ⟨N-0+vW, ?_,by rw [uP];rfl⟩
 simp only [yI,hu,hs,hok,cond_true,vB,hcl,h1,h2,hx,Bool.or_false,Option.isSome_none,cond_false,h3,ea]
def Ax (σ:St) (n0 n:Nat) (p:Option Addr) (len c:Nat) (cs:List Value):Prop :=
 App σ n0 n (.slice p len c) len cs∨∃ b,p=some ⟨b,0,none⟩∧c=len∧yU len=true∧cs.length=len*n∧Own σ b cs n∧n0≤b
theorem Ax.nil:Ax σ n0 n none 0 0 []:=.inl .nil
theorem Ax.lit {b:Nat} (o:Own σ b cs n) (hl:cs.length=len*n) (he:yU len=true) (hb:n0≤b):Ax σ n0 n (some ⟨b,0,none⟩) len len cs:=.inr ⟨b,rfl,rfl,he,hl,o,hb⟩
theorem Ax.slp (h:Ax σ n0 n p len c cs):SlP σ n p len cs:=by
 rcases h with h | ⟨b,rfl,rfl,_,h1,h2,h3⟩
 ·cases h with
  | nil=>exact SlP.nil _ _
  | more h1 h2 h3 h4 h5 h6 h7 =>
   refine ⟨h5, ?_,h4⟩
   have hle:∀ k:Nat,Nat.ble (0+k) k=true:=fun k=>(zW _ _).2 (by omega)
   unfold yS;simp only [h1,yB,h2,wM,Nat.beq_refl,cond_true,hle,List.drop_zero,List.take_length]
 ·exact ⟨h1,h2.rw⟩
theorem Ax.slv {t:Nat} {vs:List Value} (h:Ax σ n0 n p len c (xF vs)) (hl:vs.length=len) (he:∀ v∈vs,zBT P t n v):SlV P σ t n p len vs:=⟨h.slp,hl,he⟩
theorem Ax.bd (h:Ax σ n0 n p len c cs):∀ b,AtP p b→n0≤b∧b<σ.y:=by
 rintro b ⟨a,rfl,rfl⟩;rcases h with h | ⟨b,h0,_,_,_,h2,h3⟩
 ·exact ⟨h.ge a rfl,h.lt a rfl⟩
 ·cases h0;exact ⟨h3,h2.lt⟩
theorem Ax.le (h:Ax σ n0 n p len c cs) (k:Le σ τ):Ax τ n0 n p len c cs:=by
 rcases h with h | ⟨b,h1,h2,h3,h4,h5,h6⟩
 ·exact .inl (h.keep k)
 ·exact .inr ⟨b,h1,h2,h3,h4,h5.le k,h6⟩
theorem Ax.append {st xt e m k:Nat} {q:Option Addr} {xs:List Value} (T:AppT P st xt e n) (hA:Ax σ n0 n p len c cs) (hs:SlP σ n q m xs) (hroom:len+m≤1073741824) (hc:xs.all cellB=true) (hn0:n0≤σ.y) :
  ∃ p' c' σ',yD P st xt (.slice p len c) (.slice q m k) σ=some (.slice p' (len+m) c',σ')∧Ax σ' n0 n p' (len+m) c' (cs++xs)∧Only (AtP p) σ σ'∧(∀ b,AtP p' b→AtP p b∨σ.y≤b):=by
 obtain ⟨xd,hxd,hxi⟩:=T.src;obtain ⟨ei,z,hei,hz,hby,hrz,hzl⟩:=T.info;have hsrc:zAM σ n z xd (.slice q m k)=some (m,xs):=by
  have:vP σ n (.slice q m k)=some (m,xs):=by
   cases q with
   | none =>
    obtain ⟨h1,h2⟩:=hs;have h2:m=0:=h2;subst h2;have:xs=[]:=List.eq_nil_of_length_eq_zero (by omega);subst this;simp [vP]
   | some a =>
    have hrd:=hs.2.rd;rw [hs.1] at hrd;simp [vP,hrd]
  unfold zAM;cases xd with
  | int _=>cases hxi
  | _=>simp only [this]
 have hcond:(zAQ (len+m) n ei.bytes && xs.all cellB && Nat.beq xs.length (m*n) && zV RD z && Nat.beq z.cells.toList.length n)=true:=by
  unfold zAQ;rw [(zW _ _).2 hroom,(zW _ _).2 T.le,(zW _ _).2 hby,hc,hs.1,Nat.beq_refl,hrz,hzl];rfl
 have hc0:yN 0=0:=by unfold yN;have:=wW;rw [if_neg (by omega)]
 rcases Nat.eq_zero_or_pos m with h0 | h0
 ·subst h0;have hx:xs=[]:=List.eq_nil_of_length_eq_zero (by have:=hs.1;omega);subst hx;have hlc:Nat.ble (len+0) (yN c)=true:=by
   rcases hA with h | ⟨b,_,rfl,he,_⟩
   ·cases h with
    | nil=>rw [hc0];rfl
    | more _ _ _ _ _ _ _=>rw [uP];exact (zW _ _).2 (Nat.le_refl _)
   ·rw [zLM he];exact (zW _ _).2 (Nat.le_refl _)
  refine ⟨p,c,σ, ?_,by simpa using hA,Only.refl _ _,fun b hb=>.inl hb⟩
  unfold yD;simp only [T.el,hxd,hei,hz,hsrc,hcond,cond_true,vO,hlc];cases p <;> simp
 ·rcases hA with h | ⟨b,rfl,rfl,he,hl,h5,h6⟩
  ·obtain ⟨a,rfl,hr⟩:=hs.some h0;obtain ⟨p',c',σ',h1,h2,h3,h4⟩:=yFA (k:=k) T h hr hs.1 h0 hroom hc hn0;exact ⟨p',c',σ',h1,.inl h2,h3,h4⟩
  ·have hble:Nat.ble (c+m) c=false:=by rw [Bool.eq_false_iff];intro e;have:=(zW _ _).1 e;omega
   have hrd:=h5.rw.rd;rw [hl] at hrd;have el:(cs++xs).length=(c+m)*n:=by rw [List.length_append,hl,hs.1,Nat.add_mul]
   refine ⟨some ⟨σ.y,0,none⟩,c+m+vW,σ.add (.cells (cs++xs) n [(0,(cs++xs).length)] 1 false), ?_,.inl ?_,Only.add _ _,fun b hb=>.inr (by obtain ⟨a,e,rfl⟩:=hb;cases e;exact Nat.le_refl _)⟩
   ·unfold yD;simp only [T.el,hxd,hei,hz,hsrc,hcond,cond_true,vO,zLM he,hble,cond_false,he,hrd,yO]
   ·exact .more (b:=σ.y) (s:=0) (nx:=1) (log:=[]) (by rw [St.add_get,if_pos rfl]) rfl hn0 (by simp) el (by omega) (by omega)
end
end Go.Lay

namespace Go.Lay
open Go
section
variable {P:Program} {alts:List Alt}
theorem yBR {lo db:Nat} {tm:Tm} {ps:List Tmp} {a b:Code} {args:List Value} {τ τ1:St} (hl:yK τ.heap lo=some (.loop tm ps a b .ready none db)) (hn:args.length=ps.length) {σ1:St} (hl1:yK τ1.heap lo=some (.loop tm ps a b .ready none db)) (hσ:σ1=τ1.put lo (.loop tm ps a b .busy none db)) (aq:List Ans)
  (h:Hid (wpE P (zX P) (some lo) a aq ⟨(ps.zip args).foldl (fun f p=>f.set p.1 p.2) tm,[]⟩ τ.re (KAs P (zX P) lo b τ1 σ1 (yPA alts)))) :
  zFA P lo args τ tm ps a b db alts:=by
 subst hσ;obtain ⟨e1,fr1,s1,an1,⟨N1,h1⟩,⟨rfl,rfl⟩,h2⟩:=zDB _ _ _ _ _ (hid h);obtain ⟨e,fr2,s,an2,⟨N2,h3⟩,h4⟩:=zDB _ _ _ _ _ h2;unfold yPA at h4;split at h4;rotate_left
 ·exact h4.elim
 obtain ⟨rfl,h5,h6⟩:=h4;rename_i al t;refine ⟨_,s,⟨al,h6,rfl,t,h5⟩,fun he hlt hb hs=>⟨N1+N2+1,fun N hN=>?_⟩⟩
 obtain ⟨N,rfl⟩:∃ N',N=N'+1:=⟨N-1,by omega⟩;have k1:=h1 N (by omega);have k3:=h3 N (by omega);have hr:(⟨τ.heap,τ.y,τ.y⟩:St)=τ.re:=rfl;have hlr:yK τ.re.heap lo=some (.loop tm ps a b .ready none db):=hl;unfold uC;rw [hr];simp only [zX,hlr,hn,Nat.beq_refl,cond_true,Tm.puts_eq,k1,zKT,hl1,St.write_eq,k3];have key:∀ y:Blk,uD τ (.bool (zYW al.e)) (s.put lo y)=some (.bool (zYW al.e),⟨(s.put lo y).heap,s.y,min τ.low (min s.low lo)⟩):=by
  intro y;unfold uD;have e1:Nat.ble τ.y (s.put lo y).low=false:=by
   rw [Bool.eq_false_iff];intro e;have:=(zW _ _).1 e;simp only [St.put_low] at this;omega
  have e2:Nat.ble τ.y (s.put lo y).y=true:=(zW _ _).2 hs;simp only [e1,Bool.false_and,cond_false,e2,cond_true,wG,zAD];rfl
 rcases he with e | e | ⟨i,e⟩ <;> (rw [e] at key ⊢;simp only [zKS,zDP,hb,St.write_eq];exact key _)
end
end Go.Lay

namespace Go.Lay
open Go
section
variable {P:Program} {R:Nat→Rec} {rd:Option Nat}
end
end Go.Lay
