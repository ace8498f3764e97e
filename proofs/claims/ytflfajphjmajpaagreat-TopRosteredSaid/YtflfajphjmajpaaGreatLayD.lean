
import Derived.Test.YtflfajphjmajpaaGreatLayC
namespace Go.Lay
open Go
variable{t st xt e m b:Nat}{vs xs:List Value}{q:Option Addr}
section
variable{P:Program}{S:Nat->Prop}{E O:St}{n0 n N len c:Nat}{p:Option Addr}{cs:List Value}
def Buf(E:St)(n0 n N:Nat)(p:Option Addr)(len c:Nat)(cs:List Value):Prop :=
 (p=none/\N=0/\len=0/\c=0/\cs=[])\/∃b bc,p=some ⟨b,0,none⟩/\xC c=N/\Own E b bc n/\bc.length=N*n/\len<=N/\bc.take (len*n)=cs/\n0<=b/\0<N
theorem Buf.nil:Buf E n0 n 0 none 0 0 []:=.inl ⟨rfl,rfl,rfl,rfl,rfl⟩
theorem Buf.bd(h:Buf E n0 n N p len c cs):∀b,AtP p b->n0<=b/\b<E.j:=by
 rintro b ⟨a,rfl,rfl⟩;rcases h with ⟨h,_⟩|⟨b,bc,h1,_,h3,_,_,_,h7,_⟩
 .cases h
 .cases h1;exact⟨h7,h3.lt⟩
theorem Buf.le(h:Buf E n0 n N p len c cs)(k:Le E O):Buf O n0 n N p len c cs:=by
 rcases h with h|⟨b,bc,rfl,h2,h3,h4,h5,h6,h7,h8⟩
 .exact .inl h
 .exact .inr ⟨b,bc,rfl,h2,h3.le k,h4,h5,h6,h7,h8⟩
theorem Buf.len_le(h:Buf E n0 n N p len c cs):len<=N/\cs.length=len*n:=by
 rcases h with ⟨rfl,rfl,rfl,rfl,rfl⟩|⟨b,bc,rfl,h2,h3,h4,h5,h6,h7,h8⟩
 .simp
 .refine⟨h5, ?_⟩
  rw[<- h6,List.length_take,h4];exact Nat.min_eq_left (Nat.mul_le_mul_right _ h5)
theorem Buf.slp(h:Buf E n0 n N p len c cs):SlP E n p len cs:=by
 refine⟨h.len_le.2, ?_⟩
 rcases h with ⟨rfl,rfl,rfl,rfl,rfl⟩|⟨b,bc,rfl,h2,h3,h4,h5,h6,h7,h8⟩
 .rfl
 .have:=h3.rw.part (k:=0) (m:=len*n) (by rw[h4,Nat.zero_add];exact Nat.mul_le_mul_right _ h5);rw[List.drop_zero,h6]at this;exact this
theorem Buf.slv(h:Buf E n0 n N p len c (wD vs))(hl:vs.length=len)(he:∀v∈vs,zDV P t n v):SlV P E t n p len vs:=⟨h.slp,hl,he⟩
theorem Buf.push{d:Nat}(T:AppT P st xt e n)(h:Buf E n0 n N p len c cs)(hs:SlP E n q m xs)(hm:len+m<=N)(hN:N<=1073741824)(hc:xs.all cellB=true) :
  ∃E',xO P st xt (.slice p len c) (.slice q m d) E=some (.slice p (len+m) c,E')/\Buf E' n0 n N p (len+m) c (cs++xs)/\Only (AtP p) E E'/\E'.j=E.j/\(E'=E\/∃b,AtP p b/\E'.low<=b):=by
 obtain⟨xd,hxd,hxi⟩:=T.src;obtain⟨ei,z,hei,hz,hby,hrz,hzl⟩:=T.info;have hsrc:zBC E n z xd (.slice q m d)=some (m,xs):=by
  have:uD E n (.slice q m d)=some (m,xs):=by
   cases q with
   |none =>
    obtain⟨h1,h2⟩:=hs;have h2:m=0:=h2;subst h2;have:xs=[]:=List.eq_nil_of_length_eq_zero (by omega);subst this;simp[uD]
   |some a =>
    have hrd:=hs.2.rd;rw[hs.1]at hrd;simp[uD,hrd]
  unfold zBC;cases xd with
  |int _=>cases hxi
  |_=>simp only[this]
 have hcond:(zBH (len+m) n ei.bytes&&xs.all cellB&&Nat.beq xs.length (m*n)&&yI RD z&&Nat.beq z.cells.toList.length n)=true:=by
  unfold zBH;rw[(yJ _ _).2 (by omega),(yJ _ _).2 T.le,(yJ _ _).2 hby,hc,hs.1,Nat.beq_refl,hrz,hzl];rfl
 have hc0:xC 0=0:=by unfold xC;have:=uF;rw[if_neg (by omega)]
 rcases h with ⟨rfl,rfl,rfl,rfl,rfl⟩|⟨b,bc,rfl,hcl,h3,h4,h5,h6,h7,h8⟩
 .have hm0:m=0:=by omega
  subst hm0;have hx:xs=[]:=List.eq_nil_of_length_eq_zero (by have:=hs.1;omega);subst hx;have hlc:Nat.ble (0+0) (xC 0)=true:=by rw[hc0];rfl
  refine⟨E, ?_,.inl ⟨rfl,rfl,rfl,rfl,rfl⟩,Only.refl _ _,rfl,.inl rfl⟩
  unfold xO;simp only[T.el,hxd,hei,hz,hsrc,hcond,cond_true,uC,hlc];simp
 .have hlc:Nat.ble (len+m) (xC c)=true:=by rw[hcl];exact(yJ _ _).2 hm
  rcases Nat.eq_zero_or_pos m with h0|h0
  .subst h0;have hx:xs=[]:=List.eq_nil_of_length_eq_zero (by have:=hs.1;omega);subst hx;refine⟨E, ?_,.inr ⟨b,bc,rfl,hcl,h3,h4,by omega,by rw[Nat.add_zero,h6,List.append_nil],h7,h8⟩,Only.refl _ _,rfl,.inl rfl⟩
   unfold xO;simp only[T.el,hxd,hei,hz,hsrc,hcond,cond_true,uC,hlc];simp
  .have hb:Nat.beq m 0=false:=by rw[Bool.eq_false_iff];intro e;have:=Nat.eq_of_beq_eq_true e;omega
   have hxl:xs.length=m*n:=hs.1;have hle:len*n+m*n<=bc.length:=by rw[h4,<- Nat.add_mul];exact Nat.mul_le_mul_right _ hm
   have hw:wS E (zO ⟨b,0,none⟩ (len*n)) xs=some (E.own b (bc.take (len*n)++(xs++bc.drop (len*n+m*n))) n):=by
    have h2:(Nat.beq 0 0&&Nat.ble (0+len*n+m*n) bc.length&&!false&&xs.all cellB)=true:=by
     rw[hc,(yJ _ _).2 (by omega)];rfl
    unfold wS;simp only[zO,h3.get,yO,Option.getD_none,hxl,h2,cond_true,zCV,St.write_eq,Nat.zero_add];rw[Nat.zero_add]at h2;simp only[h2,cond_true];unfold St.own;have hl:(bc.take (len*n)++(xs++bc.drop (len*n+m*n))).length=bc.length:=by simp;omega
    rw[hl]
   refine⟨_, ?_,.inr ⟨b,bc.take (len*n)++(xs++bc.drop (len*n+m*n)),rfl,hcl,h3.put,by rw[<- h4];simp;omega,hm, ?_,h7,h8⟩,Only.own (.inr ⟨_,rfl,rfl⟩),rfl,.inr ⟨b,⟨_,rfl,rfl⟩,by simp[St.own];omega⟩⟩
   .unfold xO;simp only[T.el,hxd,hei,hz,hsrc,hcond,cond_true,uC,hlc,hb,cond_false,hw,Option.map_some]
   .have e1:(bc.take (len*n)).length=len*n:=by rw[List.length_take];omega
    rw[Nat.add_mul,List.take_append,e1,Nat.add_sub_cancel_left,List.take_of_length_le (by omega),<- hxl,List.take_left,h6]
theorem wBW{k:IntKind}{z:Value}(hel:wY P st=some (e,n))(hx:P.underlying xt=some (.int k)){ei:TypeInfo}(hei:P.info? e=some ei)(hz:ei.zero=some z)(hby:ei.bytes<=4096)(hrz:yI RD z=true)(hzl:Nat.beq z.cells.toList.length n=true)(hn:0<n/\n<=4096)(hN:N<=1073741824)(hp:0<N){q:IntKind}
  (hzc:(xL z.cells.toList N).length=N*n) (hcb:(xL z.cells.toList N).all cellB=true) :
  xO P st xt (.slice none 0 0) (.int q (N:Int)) E=some (.slice (some ⟨E.j,0,none⟩) N (N+uQ),E.row (xL z.cells.toList N) n):=by
 have h1:leI 0 (N:Int)=true:=(vN _ _).2 (by omega);have h2:leI (N:Int) 1073741824=true:=(vN _ _).2 (by omega);have h3:Nat.blt 0 n=true:=(xY _ _).2 hn.1;have hsrc:zBC E n z (.int k) (.int q (N:Int))=some (N,xL z.cells.toList N):=by
  unfold zBC;simp only[h1,h2,h3,hzl,Bool.and_self,cond_true,Int.toNat_natCast]
 have hcond:(zBH (0+N) n ei.bytes&&(xL z.cells.toList N).all cellB&&Nat.beq (xL z.cells.toList N).length (N*n)&&yI RD z&&Nat.beq z.cells.toList.length n)=true:=by
  unfold zBH;rw[(yJ _ _).2 (by omega),(yJ _ _).2 hn.2,(yJ _ _).2 hby,hcb,hzc,Nat.beq_refl,hrz,hzl];rfl
 have hc0:xC 0=0:=by unfold xC;have:=uF;rw[if_neg (by omega)]
 have hc1:xR 0=true:=(xN 0).2 uF;have hble:Nat.ble (0+N) 0=false:=by rw[Bool.eq_false_iff];intro e;have:=(yJ _ _).1 e;omega
 have:xO P st xt (.slice none 0 0) (.int q (N:Int)) E=some (.slice (some ⟨E.j,0,none⟩) (0+N) (0+N+uQ),E.add (.cells (xL z.cells.toList N) n [(0,(xL z.cells.toList N).length)] 1 false)):=by
  unfold xO;simp only[hel,hx,hei,hz,hsrc,hcond,cond_true,uC,hc0,hble,cond_false,hc1,xD];rfl
 rw[this,Nat.zero_add];rfl
theorem xIC{bc:List Value}(hu:P.underlying t=some (.slice e))(hs:yR P e=some n)(o:Own E b bc n)(hp:0<N)(hcl:xC c=N)(hx:xR c=false){q:IntKind}:∃c',uM P E t (.slice (some ⟨b,0,none⟩) N c) none (some (.int q 0)) none=some (.slice (some ⟨b,0,none⟩) 0 c')/\xC c'=N:=by
 have hok:yPA E ⟨b,0,none⟩ n=true:=by simp[yPA,o.get,yO,vP]
 have h1:uG (some (.int q 0)) N N=some 0:=xLY (x:=0) rfl (Nat.zero_le _);have h2:uG none 0 0=some 0:=rfl;have h3:Nat.ble N 0=false:=by rw[Bool.eq_false_iff];intro e;have:=(yJ _ _).1 e;omega
 have ea:zO ⟨b,0,none⟩ (0*n)=⟨b,0,none⟩:=by rw[Nat.zero_mul];rfl
 refine⟨N-0+uQ, ?_,by rw[zBK];rfl⟩
 simp only[uM,hu,hs,hok,cond_true,zBF,hcl,h1,h2,hx,Bool.or_false,Option.isSome_none,cond_false,h3,ea]
def Ax(E:St)(n0 n:Nat)(p:Option Addr)(len c:Nat)(cs:List Value):Prop :=
 App E n0 n (.slice p len c) len cs\/∃b,p=some ⟨b,0,none⟩/\c=len/\xR len=true/\cs.length=len*n/\Own E b cs n/\n0<=b
theorem Ax.nil:Ax E n0 n none 0 0 []:=.inl .nil
theorem Ax.lit(o:Own E b cs n)(hl:cs.length=len*n)(he:xR len=true)(hb:n0<=b):Ax E n0 n (some ⟨b,0,none⟩) len len cs:=.inr ⟨b,rfl,rfl,he,hl,o,hb⟩
theorem Ax.slp(h:Ax E n0 n p len c cs):SlP E n p len cs:=by
 rcases h with h|⟨b,rfl,rfl,_,h1,h2,h3⟩
 .cases h with
  |nil=>exact SlP.nil _ _
  |more h1 h2 h3 h4 h5 h6 h7 =>
   refine⟨h5, ?_,h4⟩
   have hle:∀k:Nat,Nat.ble (0+k) k=true:=λk=>(yJ _ _).2 (by omega)
   unfold xG;simp only[h1,yO,h2,vP,Nat.beq_refl,cond_true,hle,List.drop_zero,List.take_length]
 .exact⟨h1,h2.rw⟩
theorem Ax.slv(h:Ax E n0 n p len c (wD vs))(hl:vs.length=len)(he:∀v∈vs,zDV P t n v):SlV P E t n p len vs:=⟨h.slp,hl,he⟩
theorem Ax.bd(h:Ax E n0 n p len c cs):∀b,AtP p b->n0<=b/\b<E.j:=by
 rintro b ⟨a,rfl,rfl⟩;rcases h with h|⟨b,h0,_,_,_,h2,h3⟩
 .exact⟨h.ge a rfl,h.lt a rfl⟩
 .cases h0;exact⟨h3,h2.lt⟩
theorem Ax.append{k:Nat}(T:AppT P st xt e n)(hA:Ax E n0 n p len c cs)(hs:SlP E n q m xs)(hroom:len+m<=1073741824)(hc:xs.all cellB=true)(hn0:n0<=E.j) :
  ∃p' c' E',xO P st xt (.slice p len c) (.slice q m k) E=some (.slice p' (len+m) c',E')/\Ax E' n0 n p' (len+m) c' (cs++xs)/\Only (AtP p) E E'/\(∀b,AtP p' b->AtP p b\/E.j<=b):=by
 obtain⟨xd,hxd,hxi⟩:=T.src;obtain⟨ei,z,hei,hz,hby,hrz,hzl⟩:=T.info;have hsrc:zBC E n z xd (.slice q m k)=some (m,xs):=by
  have:uD E n (.slice q m k)=some (m,xs):=by
   cases q with
   |none =>
    obtain⟨h1,h2⟩:=hs;have h2:m=0:=h2;subst h2;have:xs=[]:=List.eq_nil_of_length_eq_zero (by omega);subst this;simp[uD]
   |some a =>
    have hrd:=hs.2.rd;rw[hs.1]at hrd;simp[uD,hrd]
  unfold zBC;cases xd with
  |int _=>cases hxi
  |_=>simp only[this]
 have hcond:(zBH (len+m) n ei.bytes&&xs.all cellB&&Nat.beq xs.length (m*n)&&yI RD z&&Nat.beq z.cells.toList.length n)=true:=by
  unfold zBH;rw[(yJ _ _).2 hroom,(yJ _ _).2 T.le,(yJ _ _).2 hby,hc,hs.1,Nat.beq_refl,hrz,hzl];rfl
 have hc0:xC 0=0:=by unfold xC;have:=uF;rw[if_neg (by omega)]
 rcases Nat.eq_zero_or_pos m with h0|h0
 .subst h0;have hx:xs=[]:=List.eq_nil_of_length_eq_zero (by have:=hs.1;omega);subst hx;have hlc:Nat.ble (len+0) (xC c)=true:=by
   rcases hA with h|⟨b,_,rfl,he,_⟩
   .cases h with
    |nil=>rw[hc0];rfl
    |more _ _ _ _ _ _ _=>rw[zBK];exact(yJ _ _).2 (Nat.le_refl _)
   .rw[yPN he];exact(yJ _ _).2 (Nat.le_refl _)
  refine⟨p,c,E, ?_,by simpa using hA,Only.refl _ _,λb hb=>.inl hb⟩
  unfold xO;simp only[T.el,hxd,hei,hz,hsrc,hcond,cond_true,uC,hlc];cases p <;> simp
 .rcases hA with h|⟨b,rfl,rfl,he,hl,h5,h6⟩
  .obtain⟨a,rfl,hr⟩:=hs.some h0;obtain⟨p',c',E',h1,h2,h3,h4⟩:=yPR (k:=k) T h hr hs.1 h0 hroom hc hn0;exact⟨p',c',E',h1,.inl h2,h3,h4⟩
  .have hble:Nat.ble (c+m) c=false:=by rw[Bool.eq_false_iff];intro e;have:=(yJ _ _).1 e;omega
   have hrd:=h5.rw.rd;rw[hl]at hrd;have el:(cs++xs).length=(c+m)*n:=by rw[List.length_append,hl,hs.1,Nat.add_mul]
   refine⟨some ⟨E.j,0,none⟩,c+m+uQ,E.add (.cells (cs++xs) n [(0,(cs++xs).length)] 1 false), ?_,.inl ?_,Only.add _ _,λb hb=>.inr (by obtain⟨a,e,rfl⟩:=hb;cases e;exact Nat.le_refl _)⟩
   .unfold xO;simp only[T.el,hxd,hei,hz,hsrc,hcond,cond_true,uC,yPN he,hble,cond_false,he,hrd,xD]
   .exact .more (b:=E.j) (s:=0) (nx:=1) (log:=[]) (by rw[St.add_get,if_pos rfl]) rfl hn0 (by simp) el (by omega) (by omega)
end
end Go.Lay

namespace Go.Lay
open Go
section
variable{P:Program}{alts:List Alt}
theorem zPV{lo db:Nat}{tm:Tm}{ps:List Tmp}{a b:Code}{args:List Value}{O be:St}(hl:yP O.heap lo=some (.loop tm ps a b .ready none db))(hn:args.length=ps.length){E1:St}(hl1:yP be.heap lo=some (.loop tm ps a b .ready none db))(iw:E1=be.put lo (.loop tm ps a b .busy none db))(aq:List Ans)
  (h:Hid (wpE P (zZ P) (some lo) a aq ⟨(ps.zip args).foldl (λf p=>f.set p.1 p.2) tm,[]⟩ O.re (KAs P (zZ P) lo b be E1 (xES alts)))) :
  zCG P lo args O tm ps a b db alts:=by
 subst iw;obtain⟨e1,fr1,s1,an1,⟨N1,h1⟩,⟨rfl,rfl⟩,h2⟩:=zEF _ _ _ _ _ (hid h);obtain⟨e,fr2,s,an2,⟨N2,h3⟩,h4⟩:=zEF _ _ _ _ _ h2;unfold xES at h4;split at h4;rotate_left
 .exact h4.elim
 obtain⟨rfl,h5,h6⟩:=h4;rename_i al t;refine⟨_,s,⟨al,h6,rfl,t,h5⟩,λhe hlt hb hs=>⟨N1+N2+1,λN hN=>?_⟩⟩
 obtain⟨N,rfl⟩:∃N',N=N'+1:=⟨N-1,by omega⟩;have k1:=h1 N (by omega);have k3:=h3 N (by omega);have hr:(⟨O.heap,O.j,O.j⟩:St)=O.re:=rfl;have hlr:yP O.re.heap lo=some (.loop tm ps a b .ready none db):=hl;unfold uT;rw[hr];simp only[zZ,hlr,hn,Nat.beq_refl,cond_true,Tm.puts_eq,k1,zPX,hl1,St.write_eq,k3];have key:∀y:Blk,zAB O (.bool (yIG al.e)) (s.put lo y)=some (.bool (yIG al.e),⟨(s.put lo y).heap,s.j,min O.low (min s.low lo)⟩):=by
  intro y;unfold zAB;have e1:Nat.ble O.j (s.put lo y).low=false:=by
   rw[Bool.eq_false_iff];intro e;have:=(yJ _ _).1 e;simp only[St.put_low]at this;omega
  have e2:Nat.ble O.j (s.put lo y).j=true:=(yJ _ _).2 hs;simp only[e1,Bool.false_and,cond_false,e2,cond_true,vC,zBZ];rfl
 rcases he with e|e|⟨i,e⟩ <;> (rw[e]at key ⊢;simp only[zPW,zFJ,hb,St.write_eq];exact key _)
end
end Go.Lay

namespace Go.Lay
open Go
section
variable{P:Program}{R:Nat->Rec}{rd:Option Nat}
end
end Go.Lay
