
import Derived.Test.YtflfajphjmajpaaGreatPC
namespace Go.Proofs.YtflfajphjmajpaaGreat
variable{m r D:Nat}{out:Option (List Int×List Int)}{st:Nat->Std}{c v who:List Int}
def zGL:List Int->List Int->Bool
 |a::l,b::m=>if a=b then zGL l m else decide (b<a)
 |_,_=>false
def zAM(a b:List Int):List Int:=List.zipWith (·+·) a b
theorem zWF:∀a:List Int,zGL a a=false
 |[]=>rfl
 |a::l=>by unfold zGL;rw[if_pos rfl];exact zWF l
theorem zPZ{a b:List Int}(h:a.length=b.length):(zAM a b).length=a.length:=by
 unfold zAM;rw[List.length_zipWith];omega
abbrev zLZ:=List Int->List Int->Prop
def wN(m:Nat)(C:zLZ):Option (List Int×List Int)->Prop
 |none=>∀a v,¬C a v
 |some (a,v)=>C a v/\v.length=m
theorem wN.iff{C C':zLZ}{e:Option (List Int×List Int)}(h:wN m C e)(k:∀a v,C a v↔C' a v):wN m C' e:=by
 cases e with
 |none=>exact λa v hc=>h a v ((k a v).2 hc)
 |some p=>exact⟨(k _ _).1 h.1,h.2⟩
def pick(out:Option (List Int×List Int))(a v:List Int):Option (List Int×List Int) :=
 match out with
 |none=>some (a,v)
 |some (b,u)=>if zGL v u then some (a,v)else some (b,u)
theorem wN.pick{m:Nat}{C:zLZ}{G:zLZ}{out:Option (List Int×List Int)}{a v:List Int}(h:wN m C out)(hv:v.length=m)(hg:G a v):wN m (λb u=>C b u\/G b u) (pick out a v):=by
 cases out with
 |none=>exact⟨.inr hg,hv⟩
 |some p =>
  obtain⟨b,u⟩:=p;unfold YtflfajphjmajpaaGreat.pick;simp only;by_cases hmore:zGL v u=true
  .rw[if_pos hmore];exact⟨.inr hg,hv⟩
  .rw[if_neg hmore];exact⟨.inl h.1,h.2⟩
theorem wN.none{C G:zLZ}(h:wN m C out)(hg:∀a v,¬G a v):wN m (λb u=>C b u\/G b u) out :=
 h.iff λa v=>⟨.inl,λk=>k.elim id λk=>absurd k (hg a v)⟩
section
variable(w:Wk)(leaves:Bool)(wf:Nat->List Int->List Int)
def late(i:Nat):Int:=(dty w i).hi
def zHB(k i:Nat)(s:Std):Bool:=(List.range 5).all (λq=>holds w q (drQ w k) (dty w i) s)&&decide ((take s (dty w i) (dty w i).hi).used<=w.N)
def upd(st:Nat->Std)(k:Nat)(s:Std):Nat->Std:=λj=>if j=k then s else st j
def yS(D j:Nat):List Nat:=(List.range j).filter λi=>decide ((dty w i).day=(D:Int))
def yGQ(st:Nat->Std)(k i:Nat):Nat->Std:=upd st k (take (st k) (dty w i) (dty w i).hi)
def zAT:List Nat->List Int->(Nat->Std)->Option (Nat->Std)
 |[],[],st=>some st
 |i::l,r::who,st =>
  if r=-1 then(if leaves then zAT l who st else none)
  else if 0<=r/\r<(w.M.length:Int)/\zHB w r.toNat i (st r.toNat)=true then zAT l who (yGQ w st r.toNat i)else none
 |_,_,_=>none
def zWC(D:Nat)(s:Std):Std:=if s.day=(D:Int)then s else⟨max s.free (((D:Int)+1)*1440-w.rest),0,s.used,s.day⟩
def zDN(D:Nat)(st:Nat->Std):Nat->Std:=λk=>if k<w.M.length then zWC w D (st k)else st k
def zEM:List Int:=[0,0,0,0,0,0]
def Ch:Nat->Nat->(Nat->Std)->zLZ
 |0,D,st,who,v=>who=[]/\v=zEM
 |r+1,D,st,who,v=>∃a b st' u,zAT w leaves (yS w D w.L.length) a st=some st'/\Ch r (D+1) (zDN w D st') b u/\who=a++b/\v=zAM u (wf D a)
def zZM(r D:Nat)(l:List Nat)(who:List Int)(st:Nat->Std):zLZ:=λc v =>
 ∃a b st' u,zAT w leaves l a st=some st'/\Ch w leaves wf r (D+1) (zDN w D st') b u/\c=who++a++b/\v=zAM u (wf D (who++a))
end
section
variable{w:Wk}{leaves:Bool}{wf:Nat->List Int->List Int}
theorem Ch.len(hw:∀D a,(wf D a).length=6):∀{r D:Nat} {st:Nat->Std} {c v:List Int},Ch w leaves wf r D st c v->v.length=6
 |0,_,_,_,_,h=>by rw[h.2];rfl
 |r+1,D,st,c,v,h=>by
  obtain⟨a,b,st',u,_,h2,_,h4⟩:=h;have:=Ch.len hw h2;rw[h4,zPZ (by rw[this,hw]),this]
theorem zZM.len(hw:∀D a,(wf D a).length=6){r D:Nat}{l:List Nat}{who:List Int}{st:Nat->Std}{c v:List Int}(h:zZM w leaves wf r D l who st c v):v.length=6:=by
 obtain⟨a,b,st',u,_,h2,_,h4⟩:=h;have:=h2.len hw;rw[h4,zPZ (by rw[this,hw]),this]
theorem wKF:Ch w leaves wf (r+1) D st c v↔zZM w leaves wf r D (yS w D w.L.length) [] st c v:=by
 unfold Ch zZM;simp only[List.nil_append]
theorem xET:zZM w leaves wf r D [] who st c v↔∃b u,Ch w leaves wf r (D+1) (zDN w D st) b u/\c=who++b/\v=zAM u (wf D who):=by
 constructor
 .rintro⟨a,b,st',u,h1,h2,h3,h4⟩;cases a with
  |nil =>
   have h1:some st=some st':=h1;cases h1
   exact⟨b,u,h2,by simpa using h3,by simpa using h4⟩
  |cons x a=>cases h1
 .rintro⟨b,u,h2,h3,h4⟩;exact⟨[],b,st,u,rfl,h2,by simpa using h3,by simpa using h4⟩
theorem xWH{i:Nat}{l:List Nat}:zZM w leaves wf r D (i::l) who st c v↔(leaves=true/\zZM w leaves wf r D l (who++[-1]) st c v)\/∃k,k<w.M.length/\zHB w k i (st k)=true/\zZM w leaves wf r D l (who++[(k:Int)]) (yGQ w st k i) c v:=by
 constructor
 .rintro⟨a,b,st',u,h1,h2,h3,h4⟩;cases a with
  |nil=>cases h1
  |cons x a =>
   unfold zAT at h1;split at h1
   .rename_i e;subst e;split at h1
    .rename_i hl;exact .inl ⟨hl,a,b,st',u,h1,h2,by rw[h3];simp,by rw[h4];simp⟩
    .cases h1
   .split at h1
    .rename_i e h;obtain⟨g1,g2,g3⟩:=h;refine .inr ⟨x.toNat,by omega,g3,a,b,st',u,h1,h2, ?_, ?_⟩
     .rw[h3,Int.toNat_of_nonneg g1];simp
     .rw[h4,Int.toNat_of_nonneg g1];simp
    .cases h1
 .rintro(⟨hl,a,b,st',u,h1,h2,h3,h4⟩|⟨k,hk,hm,a,b,st',u,h1,h2,h3,h4⟩)
  .refine⟨-1::a,b,st',u, ?_,h2,by rw[h3];simp,by rw[h4];simp⟩
   unfold zAT;rw[if_pos rfl,if_pos hl];exact h1
  .refine⟨(k:Int)::a,b,st',u, ?_,h2,by rw[h3];simp,by rw[h4];simp⟩
   unfold zAT;rw[if_neg (by omega),Int.toNat_natCast,if_pos ⟨by omega,by omega,hm⟩];exact h1
theorem xUN{C:zLZ}{rest:Option (List Int×List Int)}(hw:∀D a,(wf D a).length=6)(hr:wN 6 (Ch w leaves wf r (D+1) (zDN w D st)) rest)(ho:wN 6 C out)(hC:∀a v,C a v->v.length=6) :
  wN 6 (λc v=>C c v\/zZM w leaves wf r D [] who st c v) (match rest with|none=>out|some (b,u)=>pick out (who++b) (zAM u (wf D who))):=by
 cases rest with
 |none =>
  refine ho.none ?_
  intro a v h;obtain⟨b,u,h2,_⟩:=xET.1 h;exact hr b u h2
 |some p =>
  obtain⟨b,u⟩:=p;obtain⟨h1,h2⟩:=hr;exact ho.pick (by rw[zPZ (by rw[h2,hw]),h2]) (xET.2 ⟨b,u,h1,rfl,rfl⟩)
end
end Go.Proofs.YtflfajphjmajpaaGreat
