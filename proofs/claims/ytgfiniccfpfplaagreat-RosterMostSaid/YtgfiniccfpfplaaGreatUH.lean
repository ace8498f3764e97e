
import Derived.Test.YtgfiniccfpfplaaGreatUG
namespace Go.Proofs.YtgfiniccfpfplaaGreat
open Go Go.Lay
set_option linter.unusedVariables false
set_option linter.unusedSimpArgs false
set_option maxRecDepth 20000
section
variable {Z:St} {b c:Nat} {s:Option Nat} {d:Array Rec} {g:FuncId} {gc:List Value} {lt:Rec->Rec->Bool} {V:Rec->Prop}
theorem yTP {bs i j:Nat} {n:Int} (h:Dt Z b s d) (hc:Cmp g gc lt V) (hv:xQ V d) (o:Own Z bs [iV n] 1) (hi:i<d.size) (hj:j<d.size) (hn:0<=n/\n<=1000) :
  ∃ (x y:Nat) (n':Int) (Z':St),zD Tryz.prog 130 [.slice (some ⟨b,0,s⟩) d.size c,iV (i:Int),iV (j:Int),.pointer (some ⟨bs,0,none⟩),.func (.func g) ⟨[]⟩ ⟨gc⟩] Z (.tuple ⟨[iV (x:Int),iV (y:Int)]⟩) Z'/\Only (·=bs) Z Z' /\
   ((x=i/\y=j)\/(x=j/\y=i))/\n<=n'/\n'<=n+1/\Own Z' bs [iV n'] 1:=by
 have h0:Dt Z.re b s d:=h;have l1:=h0.ldN (i:=(j:Int)) (k:=j) rfl hj;have l2:=h0.ldN (i:=(i:Int)) (k:=i) rfl hi;have hbs:=o.lt;obtain ⟨m,cm,hm⟩:=hc.at_ (τ:=Z.re) hv hj hi;suffices hmain:zO Tryz.prog 130 [.slice (some ⟨b,0,s⟩) d.size c,iV (i:Int),iV (j:Int),.pointer (some ⟨bs,0,none⟩),.func (.func g) ⟨[]⟩ ⟨gc⟩] Z.re fun v τ=>Only (·=bs) Z.re τ/\(τ.low<Z.next\/zV RD v=false\/∃ (x y:Nat) (n':Int),v=.tuple ⟨[iV (x:Int),iV (y:Int)]⟩/\((x=i/\y=j)\/(x=j/\y=i))/\n<=n'/\n'<=n+1/\Own Z bs [iV n'] 1) /\
   ∃ (x y:Nat) (n':Int),v=.tuple ⟨[iV (x:Int),iV (y:Int)]⟩/\((x=i/\y=j)\/(x=j/\y=i))/\n<=n'/\n'<=n+1/\Own τ bs [iV n'] 1 by
  obtain ⟨v,Z',k1,k2,x,y,n',rfl,k3,k4,k5,k6⟩:=mut2 (Q:=fun v τ=>∃ (x y:Nat) (n':Int),v=.tuple ⟨[iV (x:Int),iV (y:Int)]⟩/\((x=i/\y=j)\/(x=j/\y=i))/\n<=n'/\n'<=n+1/\Own τ bs [iV n'] 1) hmain
   (by rintro v s m ⟨x,y,n',rfl,a1,a2,a3,a4⟩;exact ⟨x,y,n',rfl,a1,a2,a3,a4.low⟩)
  exact ⟨x,y,n',Z',k1,k2,k3,k4,k5,k6⟩
 rcases hm with ⟨m1,_⟩ | ⟨m1,_⟩
 ·have o0:Own Z.re bs [iV n] 1:=o.re;have st:=o0.store (P:=Tryz.prog) (k:=0) (t:=3) (v:=iV (n+1)) (vs:=[iV (n+1)]) (ds:=[iV (n+1)]) rfl vG rfl (by simp) rfl;exact ord2_ra l1 l2 cm (o0.ld rfl zS rfl) st ⟨Only.own (.inr rfl),.inl (by simp [St.own];omega),j,i,n+1,rfl,.inr ⟨rfl,rfl⟩,by omega,by omega,o0.put⟩
 ·exact ord2_rb l1 l2 cm ⟨Only.refl _ _,.inr (.inr ⟨i,j,n,rfl,.inl ⟨rfl,rfl⟩,by omega,by omega,o⟩),i,j,n,rfl,.inl ⟨rfl,rfl⟩,by omega,by omega,o.re⟩
theorem med_c {bs i j k:Nat} {n:Int} (h:Dt Z b s d) (hc:Cmp g gc lt V) (hv:xQ V d) (o:Own Z bs [iV n] 1) (hb:b≠bs) (hi:i<d.size) (hj:j<d.size) (hk:k<d.size) (hn:0<=n/\n<=900) :
    ∃ (x:Nat) (n':Int) (Z':St),zD Tryz.prog 125 [.slice (some ⟨b,0,s⟩) d.size c,iV (i:Int),iV (j:Int),iV (k:Int),.pointer (some ⟨bs,0,none⟩),.func (.func g) ⟨[]⟩ ⟨gc⟩] Z (iV (x:Int)) Z'/\Only (·=bs) Z Z' /\
      (x=i\/x=j\/x=k)/\n<=n'/\n'<=n+3/\Own Z' bs [iV n'] 1:=by
  have hbs:=o.lt;obtain ⟨x1,y1,n1,Z1,k1,q1,z1,e1,f1,o1⟩:=yTP (c:=c) (Z:=Z.re) h hc hv o.re hi hj (by omega);have h1:Dt Z1 b s d:=(show Dt Z.re b s d from h).only q1 (by omega);obtain ⟨x2,y2,n2,Z2,k2,q2,z2,e2,f2,o2⟩:=yTP (c:=c) h1 hc hv o1 (i:=y1) (j:=k) (by omega) hk (by omega);have h2:=h1.only q2 (by omega);obtain ⟨x3,y3,n3,Z3,k3,q3,z3,e3,f3,o3⟩:=yTP (c:=c) h2 hc hv o2 (i:=x1) (j:=x2) (by omega) (by omega) (by omega);have Q3:=(q1.trans' q2 (fun b _ h=>.inl h)).trans' q3 (fun b _ h=>.inl h);have hz:y3=i\/y3=j\/y3=k:=by omega
  by_cases hlow:Z3.low<Z.next
  · obtain ⟨v,Z',r1,r2,x,n',rfl,r3,r4,r5,r6⟩:=mut2 (Z:=Z) (f:=125) (args:=[.slice (some ⟨b,0,s⟩) d.size c,iV (i:Int),iV (j:Int),iV (k:Int),.pointer (some ⟨bs,0,none⟩),.func (.func g) ⟨[]⟩ ⟨gc⟩]) (S:=(·=bs)) (Q:=fun v τ=>∃ (x:Nat) (n':Int),v=iV (x:Int)/\(x=i\/x=j\/x=k)/\n<=n'/\n'<=n+3/\Own τ bs [iV n'] 1)
      (med_ra k1 k2 k3 ⟨Q3,.inl hlow,y3,n3,rfl,hz,by omega,by omega,o3⟩) (by rintro v s m ⟨x,n',rfl,a1,a2,a3,a4⟩;exact ⟨x,n',rfl,a1,a2,a3,a4.low⟩)
    exact ⟨x,n',Z',r1,r2,r3,r4,r5,r6⟩
  · exact ⟨y3,n,Z,zO.pure (med_ra k1 k2 k3 ⟨rfl,by omega⟩),Only.refl _ _,hz,by omega,by omega,o⟩
theorem yTT {bs i:Nat} {n:Int} (h:Dt Z b s d) (hc:Cmp g gc lt V) (hv:xQ V d) (o:Own Z bs [iV n] 1) (hb:b≠bs) (hi:1<=i) (hj:i+1<d.size) (hsz:d.size<=1000000) (hn:0<=n/\n<=800) :
    ∃ (x:Nat) (n':Int) (Z':St),zD Tryz.prog 124 [.slice (some ⟨b,0,s⟩) d.size c,iV (i:Int),.pointer (some ⟨bs,0,none⟩),.func (.func g) ⟨[]⟩ ⟨gc⟩] Z (iV (x:Int)) Z'/\Only (·=bs) Z Z' /\
      (i<=x+1/\x<=i+1)/\n<=n'/\n'<=n+3/\Own Z' bs [iV n'] 1:=by
  have hbs:=o.lt;obtain ⟨x1,n1,Z1,k1,q1,z1,e1,f1,o1⟩:=med_c (c:=c) (Z:=Z.re) h hc hv o.re hb (i:=i-1) (j:=i) (k:=i+1) (by omega) (by omega) hj (by omega);rw [show ((i-1:Nat):Int)=(i:Int)-1 by omega,show ((i+1:Nat):Int)=(i:Int)+1 by omega] at k1;have hz:i<=x1+1/\x1<=i+1:=by omega
  by_cases hlow:Z1.low<Z.next
  · obtain ⟨v,Z',r1,r2,x,n',rfl,r3,r4,r5,r6⟩:=mut2 (Z:=Z) (f:=124) (args:=[.slice (some ⟨b,0,s⟩) d.size c,iV (i:Int),.pointer (some ⟨bs,0,none⟩),.func (.func g) ⟨[]⟩ ⟨gc⟩]) (S:=(·=bs)) (Q:=fun v τ=>∃ (x:Nat) (n':Int),v=iV (x:Int)/\(i<=x+1/\x<=i+1)/\n<=n'/\n'<=n+3/\Own τ bs [iV n'] 1)
      (yYN k1 ⟨q1,.inl hlow,x1,n1,rfl,hz,by omega,by omega,o1⟩) (by rintro v s m ⟨x,n',rfl,a1,a2,a3,a4⟩;exact ⟨x,n',rfl,a1,a2,a3,a4.low⟩)
    exact ⟨x,n',Z',r1,r2,r3,r4,r5,r6⟩
  · exact ⟨x1,n,Z,zO.pure (yYN k1 ⟨rfl,by omega⟩),Only.refl _ _,hz,by omega,by omega,o⟩
theorem chooseP_c {a B:Nat} (h:Dt Z b s d) (hc:Cmp g gc lt V) (hv:xQ V d) (ha:a<B) (hB:B<=d.size) (hsz:d.size<=1000000) :
  ∃ (x:Nat) (k:Int),a<=x/\x<B/\zD Tryz.prog 109 [.slice (some ⟨b,0,s⟩) d.size c,iV (a:Int),iV (B:Int),.func (.func g) ⟨[]⟩ ⟨gc⟩] Z (.tuple ⟨[iV (x:Int),iV k]⟩) Z:=by
 obtain ⟨l,hl⟩:∃ l,l=B-a:=⟨_,rfl⟩;have el:(B:Int)-(a:Int)=(l:Int):=by omega
 have e4:Int.tdiv ((B:Int)-(a:Int)) 4=((l / 4:Nat):Int):=by rw [el,Int.tdiv_eq_ediv_of_nonneg (by omega)];omega
 have w4:IntKind.wrap .i64 (Int.tdiv ((B:Int)-(a:Int)) 4)=Int.tdiv ((B:Int)-(a:Int)) 4:=by rw [<- vT,e4,zWF (by omega) (by omega)]
 have hbn:=h.1;have o1:Own (Z.re.row [iV 0] 1) Z.next [iV 0] 1:=zC _ _ _;have N1:New Z.re (Z.re.row [iV 0] 1):=New.row _ _ _;have h1:Dt (Z.re.row [iV 0] 1) b s d:=(show Dt Z.re b s d from h).le N1.le;have hS:∀ x,x=Z.next->Z.next<=x:=fun x e=>by omega
 by_cases h8:8<=l;rotate_left
 ·exact ⟨a+l / 4*2,1,by omega,by omega,zO.pure (yVE w4 ⟨by rw [e4];congr 3,N1.lw⟩ (by omega) (by rw [e4];omega) (by rw [e4];omega) (by rw [e4];omega) (by rw [e4];omega) (by rw [e4];omega) (by rw [e4];omega) (by omega))⟩
 have i1:(a:Int)+Int.tdiv ((B:Int)-(a:Int)) 4*1=((a+l / 4*1:Nat):Int):=by rw [e4];omega
 have i2:(a:Int)+Int.tdiv ((B:Int)-(a:Int)) 4*2=((a+l / 4*2:Nat):Int):=by rw [e4];omega
 have i3:(a:Int)+Int.tdiv ((B:Int)-(a:Int)) 4*3=((a+l / 4*3:Nat):Int):=by rw [e4];omega
 by_cases h50:50<=l;rotate_left
 ·obtain ⟨x,n',Z2,k2,q2,z2,m1,m2,o2⟩:=med_c (c:=c) h1 hc hv o1 (by omega) (i:=a+l / 4*1) (j:=a+l / 4*2) (k:=a+l / 4*3) (by omega) (by omega) (by omega) (by omega);rw [<- i1,<- i2,<- i3] at k2;have N2:=N1.of_only q2 hS;by_cases g0:n'=0
  ·exact ⟨x,1,by omega,by omega,zO.pure (yVH w4 k2 (o2.ld rfl zS rfl) ⟨rfl,N2.lw⟩ (by omega) (by rw [e4];omega) (by rw [e4];omega) (by rw [e4];omega) (by rw [e4];omega) (by rw [e4];omega) (by rw [e4];omega) (by omega) (by omega) (by omega))⟩
  by_cases g12:n'=12
  ·exact ⟨x,2,by omega,by omega,zO.pure (yVG w4 k2 (o2.ld rfl zS rfl) ⟨rfl,N2.lw⟩ (by omega) (by rw [e4];omega) (by rw [e4];omega) (by rw [e4];omega) (by rw [e4];omega) (by rw [e4];omega) (by rw [e4];omega) (by omega) (by omega) (by omega) (by omega))⟩
  ·exact ⟨x,0,by omega,by omega,zO.pure (yVF w4 k2 (o2.ld rfl zS rfl) ⟨rfl,N2.lw⟩ (by omega) (by rw [e4];omega) (by rw [e4];omega) (by rw [e4];omega) (by rw [e4];omega) (by rw [e4];omega) (by rw [e4];omega) (by omega) (by omega) (by omega) (by omega))⟩
 obtain ⟨x1,n1,Z2,k2,q2,z2,m1,m2,o2⟩:=yTT (c:=c) h1 hc hv o1 (by omega) (i:=a+l / 4*1) (by omega) (by omega) hsz (by omega);have N2:=N1.of_only q2 hS;have h2:=h1.only q2 (by omega);obtain ⟨x2,n2,Z3,k3,q3,z3,m3,m4,o3⟩:=yTT (c:=c) h2 hc hv o2 (by omega) (i:=a+l / 4*2) (by omega) (by omega) hsz (by omega);have N3:=N2.of_only q3 hS;have h3:=h2.only q3 (by omega);obtain ⟨x3,n3,Z4,k4,q4,z4,m5,m6,o4⟩:=yTT (c:=c) h3 hc hv o3 (by omega) (i:=a+l / 4*3) (by omega) (by omega) hsz (by omega);have N4:=N3.of_only q4 hS;have h4:=h3.only q4 (by omega);obtain ⟨x,n',Z5,k5,q5,z5,m7,m8,o5⟩:=med_c (c:=c) h4 hc hv o4 (by omega) (i:=x1) (j:=x2) (k:=x3) (by omega) (by omega) (by omega) (by omega);have N5:=N4.of_only q5 hS;rw [<- i1] at k2;rw [<- i2] at k3;rw [<- i3] at k4;by_cases g0:n'=0
 ·exact ⟨x,1,by omega,by omega,zO.pure (yVK w4 k2 k3 k4 k5 (o5.ld rfl zS rfl) ⟨rfl,N5.lw⟩ (by omega) (by rw [e4];omega) (by rw [e4];omega) (by rw [e4];omega) (by rw [e4];omega) (by rw [e4];omega) (by rw [e4];omega) (by omega) (by omega) (by omega))⟩
 by_cases g12:n'=12
 ·exact ⟨x,2,by omega,by omega,zO.pure (yVJ w4 k2 k3 k4 k5 (o5.ld rfl zS rfl) ⟨rfl,N5.lw⟩ (by omega) (by rw [e4];omega) (by rw [e4];omega) (by rw [e4];omega) (by rw [e4];omega) (by rw [e4];omega) (by rw [e4];omega) (by omega) (by omega) (by omega) (by omega))⟩
 ·exact ⟨x,0,by omega,by omega,zO.pure (yVI w4 k2 k3 k4 k5 (o5.ld rfl zS rfl) ⟨rfl,N5.lw⟩ (by omega) (by rw [e4];omega) (by rw [e4];omega) (by rw [e4];omega) (by rw [e4];omega) (by rw [e4];omega) (by rw [e4];omega) (by omega) (by omega) (by omega) (by omega))⟩
end
end Go.Proofs.YtgfiniccfpfplaaGreat
