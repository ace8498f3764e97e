import Derived.Test.YtflfajphjmajpaaGreatDoorMG
import Derived.Test.YtflfajphjmajpaaGreatDoorXA
import Derived.Laws.Strings
import Derived.Lib.Bytealg
import Derived.Test.YtflfajphjmajpaaGreatDoorLayD
import Derived.Test.YtflfajphjmajpaaGreatDoorSO
set_option linter.unusedVariables false
set_option linter.unusedSimpArgs false
set_option maxRecDepth 20000
namespace Go.Proofs.YtflfajphjmajpaaGreatDoor
open Go Go.Lay
open Tryz renaming prog -> Pg
section
variable {n c d:Nat} {x:Rec} {p q:Option Addr} {r1 r2:List Int}
theorem zVS (n:Int):vV .u8 n=n % 256:=by
 have e1:(2:Int) ^ 8=256:=by decide
 rw [zEK];simp only [IntKind.wrap,IntKind.bits,IntKind.signed,e1,Bool.false_and,Bool.false_eq_true,if_false]
def zIC (n:Nat):List Int:=if n<=127 then [(n:Int)] else ((n % 128+128:Nat):Int)::zIC (n / 128)
termination_by n
decreasing_by omega
theorem zIB (h:n<=127):zIC n=[(n:Int)]:=by rw [zIC,if_pos h]
theorem zPN (h:127<n):zIC n=((n % 128+128:Nat):Int)::zIC (n / 128):=by rw [zIC,if_neg (by omega)]
theorem zXN:∀ (k n:Nat),n<128 ^ k->0<k->(zIC n).length<=k
 | 0,n,_,hk=>by omega
 | k+1,n,h,_=>by
  by_cases hn:n<=127
  ·rw [zIB hn];simp
  ·rw [zPN (by omega)];by_cases hk:k=0
   ·subst hk;omega
   have:=zXN k (n / 128) (by rw [Nat.div_lt_iff_lt_mul (by omega)];rw [Nat.pow_succ] at h;exact h) (by omega);simp;omega
theorem xBO:∀ (n:Nat) (x:Int),x∈zIC n->0<=x/\x<=255:=by
 intro n;induction n using Nat.strongRecOn with
 | _ n ih =>
  intro x hx;by_cases hn:n<=127
  ·rw [zIB hn] at hx;simp at hx;omega
  ·rw [zPN (by omega)] at hx;rcases List.mem_cons.1 hx with e | e
   ·omega
   ·exact ih (n / 128) (by omega) x e
def zIA (n:Int):List Int:=zIC n.toNat
def vI (x:Rec):List Int:=[x.m,x.s,x.t,x.k,x.a,x.b]
def zDU (x:Rec):List Int:=(vI x).flatMap zIA
def chk (b:List Int):Int × Int:=b.foldl (fun p c=>((p.1+c) % 256,(p.2+(p.1+c) % 256) % 256)) (0,0)
def wA (x:Rec):List Int:=((zDU x).length:Int) % 256::zDU x
def yI (x:Rec):List Int:=wA x++[(chk (wA x)).1,(chk (wA x)).2]
def zAL (c:Int):List Int:=if c=126 then [125,94] else if c=125 then [125,93] else [c]
def uX (x:Rec):List Int:=126::(yI x).flatMap zAL
def zAR (l:List Rec):List Int:=l.flatMap uX
theorem zEY {n:Int} (h:n<=10000000):(zIA n).length<=4:=by
 have e:(128:Nat) ^ 4=268435456:=by decide
 exact zXN 4 _ (by omega) (by omega)
theorem yAK (h:yQ x=true):(zDU x).length<=24:=by
 have:=zBH h;have h1:=zEY (n:=x.m) (by omega);have h2:=zEY (n:=x.s) (by omega);have h3:=zEY (n:=x.t) (by omega);have h4:=zEY (n:=x.k) (by omega);have h5:=zEY (n:=x.a) (by omega);have h6:=zEY (n:=x.b) (by omega);simp [zDU,vI,List.flatMap_cons];omega
theorem zUN (h:yQ x=true):(yI x).length<=27:=by
 have:=yAK h;simp [yI,wA];omega
theorem xQS (c:Int):(zAL c).length<=2:=by unfold zAL;split;simp;split <;> simp
theorem yNO:∀ l:List Int,(l.flatMap zAL).length<=2*l.length
 | []=>by simp
 | c::l=>by have:=xQS c;have:=yNO l;rw [List.flatMap_cons,List.length_append,List.length_cons];omega
theorem zLX (h:yQ x=true):(uX x).length<=55:=by
 have:=zUN h;have:=yNO (yI x);rw [uX,List.length_cons];omega
section
variable {Z:St}
theorem zHD.two {b:Nat} (o:Own Z b [.slice p r1.length c,.slice q r2.length d] 1) (h1:yV Z p r1.length r1) (h2:yV Z q r2.length r2):zHD Z (some ⟨b,0,none⟩) 2 [r1,r2]:=by
 refine ⟨[.slice p r1.length c,.slice q r2.length d],⟨⟨rfl,o.rw⟩,rfl, ?_⟩,rfl, ?_⟩
 ·intro v hv;simp at hv;rcases hv with rfl | rfl <;> exact .inl ⟨yGO,rfl,rfl⟩
 ·intro i r hi;rcases i with _ | _ | i
  ·cases hi;exact ⟨p,c,rfl,h1⟩
  ·cases hi;exact ⟨q,d,rfl,h2⟩
  ·simp at hi
theorem xUM {l:Nat} {rs:List (List Int)} (h:zHD Z p l rs) (hl:l<=1073741824) (hN:rs.flatten.length<=1073741824) :
  ∃ p' c' Z',zJ Tryz.prog 23 [.slice p l c] Z (.slice p' rs.flatten.length c') Z'/\New Z Z'/\yV Z' p' rs.flatten.length rs.flatten/\(∀ b,AtP p' b->Z.y<=b)/\zRF Z' p' rs.flatten.length c':=by
 obtain ⟨p',c',Z',h1,h2,h3,h4,h5⟩:=xQZ (Z:=Z.re) (c:=c) (h.le (le0 Z)) hl hN;exact zL.newCut (W:=id) (fun p c h=>by cases p with | none=>rfl | some a=>exact Bool.noConfusion (show false=true from h)) (xQD h1 ⟨h2,p',c',rfl,h3,h4,h5⟩)
theorem yZE (h1:yV Z p r1.length r1) (h2:yV Z q r2.length r2) (hN:r1.length+r2.length<=1073741824) :
  ∃ p' c' Z',zJ Tryz.prog 23 [.slice (some ⟨Z.y,0,none⟩) 2 2] (Z.row [.slice p r1.length c,.slice q r2.length d] 1) (.slice p' (r1++r2).length c') Z'/\New (Z.row [.slice p r1.length c,.slice q r2.length d] 1) Z'/\yV Z' p' (r1++r2).length (r1++r2)/\(∀ b,AtP p' b->Z.y<=b)/\zRF Z' p' (r1++r2).length c':=by
 have hr:zHD (Z.row [.slice p r1.length c,.slice q r2.length d] 1) (some ⟨Z.y,0,none⟩) 2 [r1,r2]:=zHD.two (zI _ _ _) (SlV.le h1 (Le.row _ _ _)) (SlV.le h2 (Le.row _ _ _));obtain ⟨p',c',Z',h1,h2,h3,h4,h5⟩:=xUM (c:=2) hr (by omega) (by simp;omega);have e:[r1,r2].flatten=r1++r2:=by simp
 rw [e] at h1 h3 h5;exact ⟨p',c',Z',h1,h2,h3,fun b hb=>by have:=h4 b hb;simp at this;omega,h5⟩
theorem yGK {U:St} {n0:Nat} {bs:List Int} (z:Int) (hg:Gr Tryz.prog U n0 5 1 p bs.length c (bs.map byV)) (hn:n0<=U.y) (hr:bs.length+1<=1073741824) :
  ∃ p' c' U',yA Tryz.prog 49 49 (.slice p bs.length c) (.slice (some ⟨U.y,0,none⟩) 1 1) (U.row [byV z] 1)=some (.slice p' (bs.length+1) c',U')/\Gr Tryz.prog U' n0 5 1 p' (bs.length+1) c' ((bs++[z]).map byV)/\Only (AtP p) (U.row [byV z] 1) U':=by
 obtain ⟨p',c',U',g1,g2,g3,g4⟩:=zGW (byV z) yAS hg (Le.refl U) (zCP z) hr hn (e:=rfl) (hc:=rfl);exact ⟨p',c',U',g1,by rw [List.map_append];exact g2,g3⟩
theorem xIX (hn:n<=1000000000):∃ p c Z',zJ Tryz.prog 82 [iV (n:Int)] Z (.slice p (zIC n).length c) Z'/\New Z Z'/\yV Z' p (zIC n).length (zIC n)/\∀ b,AtP p b->Z.y<=b:=by
 have e128:(128:Nat) ^ 5=34359738368:=by decide
 have hlen:(zIC n).length<=5:=zXN 5 n (by omega) (by omega);refine zL.newSl (xBL (P0:=fun i p l c U=>∃ (m:Nat) (pre:List Int),i=(m:Int)/\m<=127/\l=pre.length/\pre++zIC m=zIC n/\New Z.re U/\Gr Tryz.prog U Z.y 5 1 p l c (pre.map byV))
  (yIF (Inv:=fun k i p l c U=>∃ pre:List Int,i=(k:Int)/\k<=1000000000/\l=pre.length/\pre++zIC k=zIC n/\New Z.re U/\Gr Tryz.prog U Z.y 5 1 p l c (pre.map byV)) ?_ n _ none 0 0 Z.re ⟨[],rfl,hn,rfl,rfl,New.refl _,Gr.nil⟩) ?_)
 ·rintro k i p l c U ⟨pre,rfl,hk,rfl,hp,hN,hg⟩;have hpl:pre.length<=5:=by
   have:=congrArg List.length hp;simp at this;omega
  by_cases h:k<=127
  ·exact yTK ⟨k,pre,rfl,h,rfl,hp,hN,hg⟩ (by omega)
  have e1:vV .u8 (Int.tmod (k:Int) 128)=((k % 128:Nat):Int):=by
   rw [zVS,Int.tmod_eq_emod_of_nonneg (by omega)];omega
  have e2:vV .u8 (Int.add ((k % 128:Nat):Int) 128)=((k % 128+128:Nat):Int):=by
   rw [zVS,show Int.add ((k % 128:Nat):Int) 128=((k % 128:Nat):Int)+128 from rfl];omega
  have e4:Int.tdiv (k:Int) 128=((k / 128:Nat):Int):=by
   rw [Int.tdiv_eq_ediv_of_nonneg (by omega)];omega
  have e3:IntKind.wrap .i64 (Int.tdiv (k:Int) 128)=Int.tdiv (k:Int) 128:=by
   rw [<- zEK,e4,vS (by omega) (by omega)]
  obtain ⟨p',c',U',g1,g2,g3⟩:=yGK ((k % 128+128:Nat):Int) hg hN.nx (by omega);have N2:New Z.re U':=(hN.row').of_only g3 (fun b hb=>(hg.bd hb).1);refine yTL e1 e2 g1 e3 ⟨k / 128,by omega,pre++[((k % 128+128:Nat):Int)],e4,by omega,by simp, ?_,N2,g2⟩ (by omega);rw [<- hp,zPN (n:=k) (by omega)];simp
 ·rintro i p l c U ⟨m,pre,rfl,hm,rfl,hp,hN,hg⟩;have hpl:pre.length<=5:=by
   have:=congrArg List.length hp;simp at this;omega
  have e1:vV .u8 (m:Int)=(m:Int):=by rw [zVS];omega
  obtain ⟨p',c',U',g1,g2,g3⟩:=yGK (m:Int) hg hN.nx (by omega);have N2:New Z.re U':=(hN.row').of_only g3 (fun b hb=>(hg.bd hb).1);have e:zIC n=pre++[(m:Int)]:=by rw [<- hp,zIB hm]
  exact yIE e1 g1 ⟨N2,p',c',by rw [e];simp,by rw [e];simpa using g2.slv,fun b hb=>(g2.bd hb).1⟩
end
end
section
variable {x:Rec} {p:Option Addr} {c n0:Nat} {bs:List Int} {U:St}
section
variable {Z:St}
theorem yVA {α β:Type} {f:β->α->β} {z:β} {xs:List α} {i:Nat} {x:α} (h:xs[i]?=some x):(xs.take (i+1)).foldl f z=f ((xs.take i).foldl f z) x:=by rw [yM h,List.foldl_append];rfl
theorem xRR {l:Nat} (h:yV Z p l bs) (hl:l<=1073741824):∃ b Z',zJ Pg 83 [.slice p l c] Z (.slice (some ⟨b,0,none⟩) 2 2) Z'/\New Z Z'/\Own Z' b [byV (chk bs).1,byV (chk bs).2] 1/\Z.y<=b:=by
 have hlen:=h.len;obtain ⟨v,Z',h1,h2,b,rfl,h3,h4⟩:=zL.new (P:=Pg) (f:=83) (args:=[.slice p l c]) (Z:=Z) (Q:=fun v s=>∃ b,v=.slice (some ⟨b,0,none⟩) 2 2/\Own s b [byV (chk bs).1,byV (chk bs).2] 1/\Z.y<=b)
  (xMI (P0:=fun x y U=>U=Z.re/\(x,y)=chk bs) (yPK (Inv:=fun k x y i U=>∃ s:Nat,i=s/\s+k=l/\U=Z.re/\(x,y)=chk (bs.take s)) (by
   rintro k x y i U ⟨s,rfl,hk,rfl,hxy⟩;by_cases hs:s<l;rotate_left
   ·exact xEG ⟨rfl,by rwa [List.take_of_length_le (by omega)] at hxy⟩ (by omega)
   obtain ⟨a,rfl,z,hz,ld⟩:=wS (SlV.le h (le0 Z)) hs;have e:chk (bs.take (s+1))=((x+z) % 256,(y+(x+z) % 256) % 256):=by
    unfold chk;rw [yVA hz];unfold chk at hxy;rw [<- hxy]
   exact xEH ld (zB:=(x+z) % 256) (zF:=(y+(x+z) % 256) % 256) (zVS _) (zVS _) ⟨k-1,by omega,s+1,by omega,by omega,rfl,e.symm⟩ (by omega)) l 0 0 0 Z.re ⟨0,rfl,by omega,rfl,rfl⟩)
   (by
    rintro x y U ⟨rfl,hxy⟩;rw [<- hxy];exact yPJ ⟨New.row _ _ _,_,rfl,zI _ _ _,Nat.le_refl _⟩))
  (by rintro v s s' ⟨b,rfl,h,h'⟩ hl;exact ⟨b,rfl,h.le hl,h'⟩) (by rintro v s hr ⟨b,rfl,_⟩;exact Bool.noConfusion (show false=true from hr))
 exact ⟨b,Z',h1,h2,h3,h4⟩
theorem xLK (hk:0<=x.k/\x.k<=255):zJ Pg 81 [xT x] Z (.agg ⟨zBP x.m x.s x.t x.k x.a x.b⟩) Z:=(xDA ⟨rfl,((New.row _ _ _).row'.own (Nat.le_succ _)).lw⟩ (by omega)).pure
theorem xLM (x:Rec) {s:Nat} (hs:s<6):∃ n,(vI x)[s]?=some n/\zDQ Pg 129 (.agg ⟨zBP x.m x.s x.t x.k x.a x.b⟩) (iV (s:Int))=some (iV n):=by
 have key:∀ (m q t k a b:Int),(zDQ Pg 129 (.agg ⟨zBP m q t k a b⟩) (iV 0)=some (iV m))/\(zDQ Pg 129 (.agg ⟨zBP m q t k a b⟩) (iV 1)=some (iV q))/\(zDQ Pg 129 (.agg ⟨zBP m q t k a b⟩) (iV 2)=some (iV t))/\(zDQ Pg 129 (.agg ⟨zBP m q t k a b⟩) (iV 3)=some (iV k))/\(zDQ Pg 129 (.agg ⟨zBP m q t k a b⟩) (iV 4)=some (iV a))/\(zDQ Pg 129 (.agg ⟨zBP m q t k a b⟩) (iV 5)=some (iV b)):=fun m q t k a b=>⟨by kernel_rfl,by kernel_rfl,by kernel_rfl,by kernel_rfl,by kernel_rfl,by kernel_rfl⟩
 obtain ⟨k0,k1,k2,k3,k4,k5⟩:=key x.m x.s x.t x.k x.a x.b;rcases s with _ | _ | _ | _ | _ | _ | s
 ·exact ⟨_,rfl,k0⟩
 ·exact ⟨_,rfl,k1⟩
 ·exact ⟨_,rfl,k2⟩
 ·exact ⟨_,rfl,k3⟩
 ·exact ⟨_,rfl,k4⟩
 ·exact ⟨_,rfl,k5⟩
 ·omega
theorem xLL (h:yQ x=true) {n:Int} (hn:n∈vI x):0<=n/\n<=10000000:=by
 have:=zBH h;simp [vI] at hn;omega
theorem yVY (h:yQ x=true) (s:Nat):(((vI x).take s).flatMap zIA).length<=24:=by
 have h1:=yAK h;have e:zDU x=((vI x).take s).flatMap zIA++((vI x).drop s).flatMap zIA:=by rw [<- List.flatMap_append,List.take_append_drop];rfl
 rw [e,List.length_append] at h1;omega
theorem yGA (h:yQ x=true):∃ p c Z',zJ Pg 47 [xT x] Z (.slice p (yI x).length c) Z'/\New Z Z'/\yV Z' p (yI x).length (yI x)/\∀ b,AtP p b->Z.y<=b:=by
 have hb:=zBH h;have h24:=yAK h;refine zL.newSl (yVL (xLK (by omega)) (P0:=fun p l c U=>l=(zDU x).length/\New Z.re U/\yV U p (zDU x).length (zDU x))
  (yCO (Inv:=fun k p l c i U=>∃ s:Nat,i=s/\s+k=6/\l=(((vI x).take s).flatMap zIA).length/\New Z.re U/\yV U p l (((vI x).take s).flatMap zIA)) ?_ 6 none 0 0 0 _ ⟨0,rfl,rfl,rfl,New.row _ _ _,⟨⟨rfl,rfl⟩,rfl,by simp⟩⟩) ?_)
 ·rintro k p l c i U ⟨s,rfl,hk,rfl,hN,hp⟩;by_cases hs:s<6;rotate_left
  ·have:s=6:=by omega
   subst this;exact yNZ ⟨rfl,hN,hp⟩ (by omega)
  obtain ⟨n,hn,hi⟩:=xLM x hs;have hnb:=xLL h (List.mem_of_getElem? hn);have hln:=yVY h s;obtain ⟨q,d,U1,k1,n1,b1,_⟩:=xIX (Z:=U) (n:=n.toNat) (by omega);rw [show ((n.toNat:Nat):Int)=n by omega] at k1;have hnl:=zEY (n:=n) (by omega);obtain ⟨p',c',U2,k2,n2,b2,_⟩:=yZE (c:=c) (d:=d) (SlV.le hp n1.le) (show yV U1 q (zIA n).length (zIA n) from b1) (by omega);have e:((vI x).take (s+1)).flatMap zIA=((vI x).take s).flatMap zIA++zIA n:=by rw [yM hn,List.flatMap_append];simp
  exact yOA hi k1 k2 ⟨k-1,by omega,s+1,by omega,by omega,by rw [e],((hN.trans n1).row').trans n2,by rw [e];exact b2⟩ (by omega)
 ·rintro p l c U ⟨rfl,hN,hp⟩;have n1:New U (U.row [byV (((zDU x).length:Int) % 256)] 1):=New.row _ _ _;have hlit:yV (U.row [byV (((zDU x).length:Int) % 256)] 1) (some ⟨U.y,0,none⟩) [((zDU x).length:Int) % 256].length [((zDU x).length:Int) % 256]:=⟨⟨rfl,zPE _ _ _⟩,rfl,by intro v hv;simp at hv;subst hv;exact zCP _⟩;obtain ⟨p1,c1,U1,k1,m1,b1,_⟩:=yZE (c:=1) (d:=c) hlit (SlV.le hp n1.le) (by simp;omega);have e1:[((zDU x).length:Int) % 256]++zDU x=wA x:=rfl;rw [e1] at k1 b1;have hcl:(wA x).length<=25:=by simp [wA];omega
  obtain ⟨b2,U2,k2,m2,o2,_⟩:=xRR (c:=c1) b1 (by omega);have hlit2:yV U2 (some ⟨b2,0,none⟩) [(chk (wA x)).1,(chk (wA x)).2].length [(chk (wA x)).1,(chk (wA x)).2]:=⟨⟨rfl,o2.rw⟩,rfl,by intro v hv;simp at hv;rcases hv with rfl | rfl <;> exact zCP _⟩;obtain ⟨p3,c3,U3,k3,m3,b3,f3,_⟩:=yZE (c:=c1) (d:=2) (SlV.le b1 m2.le) hlit2 (by simp;omega);have NN:New Z.re U2:=(((hN.trans n1).row').trans m1).trans m2;refine yCN (zVS _) k1 k2 k3 ⟨(NN.row').trans m3,p3,c3,rfl,b3,fun b hb=>?_⟩;have:=f3 b hb;have e2:Z.y<=U2.y:=NN.nx;omega
theorem zMM (bs:List Int):wI (bs.map byV)=bs.map byV:=xCX bs .u8
theorem xMJ (bs:List Int):(bs.map byV).all cellB=true:=by simp [List.all_eq_true];intro a _;rfl
abbrev AxB (U:St) (n0:Nat) (p:Option Addr) (l c:Nat) (bs:List Int):Prop:=Ax U n0 1 p l c (bs.map byV)
theorem AxB.bytes (h:AxB U n0 p bs.length c bs):yV U p bs.length bs:=by
 have h':Ax U n0 1 p bs.length c (wI (bs.map byV)):=by rw [zMM];exact h
 exact h'.slv (by simp) (by intro v hv;obtain ⟨x,_,rfl⟩:=List.mem_map.1 hv;exact zCP x)
theorem AxB.push {q:Option Addr} {d:Nat} {xs:List Int} (h:AxB U n0 p bs.length c bs) (hx:yV U q xs.length xs) (hr:bs.length+xs.length<=1073741824) (hn:n0<=U.y) :
  ∃ p' c' U',yA Pg 49 49 (.slice p bs.length c) (.slice q xs.length d) U=some (.slice p' (bs++xs).length c',U')/\AxB U' n0 p' (bs++xs).length c' (bs++xs)/\Only (AtP p) U U'/\(∀ b,AtP p' b->AtP p b\/U.y<=b):=by
 have hs:=hx.1;rw [zMM] at hs;obtain ⟨p',c',U',g1,g2,g3,g4⟩:=Ax.append (k:=d) yAS h hs hr (xMJ xs) hn;rw [<- List.map_append] at g2;rw [<- List.length_append] at g1 g2;exact ⟨p',c',U',g1,g2,g3,g4⟩
theorem yDN (U:St) (xs:List Int):yV (U.row (xs.map byV) 1) (some ⟨U.y,0,none⟩) xs.length xs:=⟨⟨by rw [zMM];simp,by rw [zMM];exact zPE _ _ _⟩,by simp,by intro v hv;obtain ⟨x,_,rfl⟩:=List.mem_map.1 hv;exact zCP x⟩
theorem yNI (h:yQ x=true) (s:Nat):(126::((yI x).take s).flatMap zAL).length<=55:=by
 have h1:=zLX h;have e:uX x=(126::((yI x).take s).flatMap zAL)++((yI x).drop s).flatMap zAL:=by rw [List.cons_append,<- List.flatMap_append,List.take_append_drop];rfl
 rw [e,List.length_append] at h1;omega
theorem xQN (h:yQ x=true):∃ p c Z',zJ Pg 24 [xT x] Z (.slice p (uX x).length c) Z'/\New Z Z'/\yV Z' p (uX x).length (uX x)/\∀ b,AtP p b->Z.y<=b:=by
 have hcl:=zUN h;obtain ⟨p1,c1,Z2,k1,n1,b1,f1⟩:=yGA (Z:=(Z.re.row (xG x) 6).row [byV 126] 1) h;have N1:New Z.re ((Z.re.row (xG x) 6).row [byV 126] 1):=(New.row _ _ _).row';have o1:Own ((Z.re.row (xG x) 6).row [byV 126] 1) (Z.y+1) [byV 126] 1:=zI _ _ _;have a1:AxB Z2 Z.y (some ⟨Z.y+1,0,none⟩) 1 1 [126]:=Ax.lit (o1.le n1.le) rfl (zKF (by omega)) (Nat.le_succ _);refine zL.newSl (xLH k1 (P0:=fun p l c U=>l=(uX x).length/\New Z.re U/\AxB U Z.y p l c (uX x))
  (yNF (Inv:=fun k p l c i U=>∃ s:Nat,i=s/\s+k=(yI x).length/\l=(126::((yI x).take s).flatMap zAL).length/\New Z.re U/\yV U p1 (yI x).length (yI x)/\(∀ b,AtP p1 b->¬ AtP p b)/\AxB U Z.y p l c (126::((yI x).take s).flatMap zAL)) ?_ (yI x).length _ _ _ 0 Z2 ⟨0,rfl,by omega,rfl,N1.trans n1,b1,fun b hb hb2=>?_,a1⟩) ?_)
 rotate_left
 ·obtain ⟨a,e,rfl⟩:=hb2;cases e
  have h3:Z.y+2<=Z.y+1:=f1 _ hb;omega
 ·rintro p l c U ⟨rfl,hN,ha⟩;exact yNE ⟨hN,p,c,rfl,ha.bytes,fun b hb=>(ha.bd b hb).1⟩
 rintro k p l c i U ⟨s,rfl,hk,rfl,hN,hb1,hne,ha⟩;by_cases hs:s<(yI x).length;rotate_left
 ·rw [List.take_of_length_le (by omega)] at ha ⊢;exact xCS ⟨rfl,hN,ha⟩ (by omega)
 obtain ⟨a,rfl,z,hz,ld⟩:=wS hb1 hs;have hl55:=yNI h s;have e1:∀ w,zAL z=w->126::((yI x).take (s+1)).flatMap zAL=(126::((yI x).take s).flatMap zAL)++w:=by
  rintro w rfl;rw [yM hz,List.flatMap_append];simp
 have key:∀ w:List Int,zAL z=w->w.length<=2->∃ p' c' U',yA Pg 49 49 (.slice p (126::((yI x).take s).flatMap zAL).length c) (.slice (some ⟨U.y,0,none⟩) w.length w.length) (U.row (w.map byV) 1)=some (.slice p' (126::((yI x).take (s+1)).flatMap zAL).length c',U') /\
   ∃ k',k' < k/\∃ s':Nat,((s:Int)+1)=s'/\s'+k'=(yI x).length/\(126::((yI x).take (s+1)).flatMap zAL).length=(126::((yI x).take s').flatMap zAL).length/\New Z.re U'/\yV U' (some a) (yI x).length (yI x)/\(∀ b,AtP (some a) b->¬ AtP p' b)/\AxB U' Z.y p' (126::((yI x).take (s+1)).flatMap zAL).length c' (126::((yI x).take s').flatMap zAL):=by
  intro w hw hwl
  have nr:New U (U.row (w.map byV) 1):=New.row _ _ _
  obtain ⟨p',c',U',g1,g2,g3,g4⟩:=AxB.push (d:=w.length) (ha.le nr.le) (yDN U w) (by omega) (by have:Z.y<=U.y:=hN.nx;have:=nr.le.y;omega)
  rw [e1 w hw]
  refine ⟨p',c',U',g1,k-1,by omega,s+1,by omega,by omega,by rw [e1 w hw],(hN.row').of_only g3 (fun b hb=>(ha.bd b hb).1), ?_, ?_,by rw [e1 w hw];exact g2⟩
  ·exact g3.slv' (SlV.le hb1 nr.le) (fun a' e hb=>by cases e;exact hne _ ⟨a,rfl,rfl⟩ hb)
  ·intro b hb hb';rcases g4 b hb' with g | g
   ·exact hne b hb g
   ·have h1:=zEP hb1 a rfl;obtain ⟨a',e,rfl⟩:=hb;cases e
    have:(U.row (w.map byV) 1).y=U.y+1:=rfl;omega
 by_cases z1:z=126
 ·subst z1;obtain ⟨p',c',U',g1,g2⟩:=key [125,94] rfl (by simp);exact xCV ld (by kernel_rfl) g1 g2 (by omega)
 by_cases z2:z=125
 ·subst z2;obtain ⟨p',c',U',g1,g2⟩:=key [125,93] rfl (by simp);exact xCU ld (by kernel_rfl) g1 g2 (by omega)
 ·obtain ⟨p',c',U',g1,g2⟩:=key [z] (by simp [zAL,z1,z2]) (by simp);exact xCT ld g1 g2 (by omega)
end
end
section
noncomputable section
variable (r:Addr) (BA:Nat) (aB i2_1 ao:Int) (q0:Int->Int->St->Prop) (q2:Int->St->Prop) (q4:St->Prop) (aW:oA) (q5:(Option Addr)->Nat->Nat->St->Prop) (aX aY:Nat) (Z:St) (Nx:Int->Int->St->Prop) (q6:(Option Addr)->Nat->Nat->St->Prop) (Q QD:vPa) (Qr:Int->St->Prop) (Qd:St->Prop) (Q0:(Option Addr)->Nat->Nat->St->Prop)
def yXT:Code:=(Code.part [1,1,1,0,0] (dj 53))
def zLN:lNa:=[(0,pv r),(3,iV aB),(4,iV ao)]
def zDD:Alt:=⟨Int × Int,.normal,fun t=>zLN r t.1 t.2,fun t=>[],fun t Z=>q0 t.1 t.2 Z⟩
def yDP (r:Addr) (i2_1:Int):lNa:=[(2,iV i2_1)]
def uA:Alt:=⟨Int,.ret,fun t=>yDP r t,fun t=>[],fun t Z=>q2 t Z⟩
def yDQ (r:Addr):lNa:=[]
def wK:Alt:=⟨Unit,(zKG spX),fun t=>yDQ r,fun t=>[],fun t Z=>q4 Z⟩
def zLO:Prop:=yRM Pg yXT 28 (zLN r aB ao) [] [zDD r Nx,uA r Qr,wK r Qd] Z
def yXU:Prop:=yRG Pg yXT 28 (zLN r aB ao) [] [uA r Qr,wK r Qd] Z
def yDR:Prop:=∀ g:Nat->Value,∃ an,Hid (zVB Pg (dj 53) [1,1,1,0] (xQC Pg 53 Q QD) .ret ⟨Fm 28 (ov (yDP r i2_1) g),[]⟩ Z an)
def yDS:Prop:=∀ g:Nat->Value,∃ an,Hid (zVB Pg (dj 53) [1,1,1,0] (xQC Pg 53 Q QD) (zKG spX) ⟨Fm 28 (ov (yDQ r) g),[]⟩ Z an)
def yLE:Code:=(Code.part [1,1,0,0,0] (dj 51))
def zGN:lNa:=[(2,.slice aW aX aY),(3,pq BA 0)]
def vA:Alt:=⟨(Option Addr) × Nat × Nat,.normal,fun t=>zGN BA t.1 t.2.1 t.2.2,fun t=>[],fun t Z=>q5 t.1 t.2.1 t.2.2 Z⟩
def zWZ (BA:Nat):lNa:=[]
def wC:Alt:=⟨Unit,(zKG spX),fun t=>zWZ BA,fun t=>[],fun t Z=>q4 Z⟩
def zXA (BA:Nat) (aW:oA) (aX aY:Nat):lNa:=[(2,.slice aW aX aY)]
def wT:Alt:=⟨(Option Addr) × Nat × Nat,(.exit 0),fun t=>zXA BA t.1 t.2.1 t.2.2,fun t=>[],fun t Z=>q5 t.1 t.2.1 t.2.2 Z⟩
def zEW:Prop:=yRM Pg yLE 33 (zGN BA aW aX aY) [] [vA BA q6,wC BA Qd,wT BA Q0] Z
def yLF:Prop:=yRG Pg yLE 33 (zGN BA aW aX aY) [] [wC BA Qd,wT BA Q0] Z
def zXB:Prop:=∀ g:Nat->Value,∃ an,Hid (zVB Pg (dj 51) [1,1,0,0] (xQC Pg 51 Q QD) (zKG spX) ⟨Fm 33 (ov (zWZ BA) g),[]⟩ Z an)
def zXC:Prop:=∀ g:Nat->Value,∃ an,Hid (zVB Pg (dj 51) [1,1,0,0] (xQC Pg 51 Q QD) (.exit 0) ⟨Fm 33 (ov (zXA BA aW aX aY) g),[]⟩ Z an)
end
variable {Z Z4 ZD ZB ZC ZE ZO:St} {QD Q:vPa} {i bK r:Addr} {l1 c1 l3 c3 BA aX aY lB cC lL cI lO cN bT bU:Nat} {n2 aB ao nA i2_1 nD nC nF:Int} {q3 q1 aW qE qJ qN piece:oA} {Inv:Nat->Int->Int->St->Prop} {Qr Pr:Int->St->Prop} {Qd Pd:St->Prop} {Nx Q0 P0:(Option Addr)->Nat->Nat->St->Prop}
theorem xVH (nx:Q (.tuple ⟨[]⟩) Z):zJA Pg 54 [.bool true] Z Q QD :=
 zGH [.g,.g] (kc (by kernel_rfl) nx)
theorem xVG (nx:QD spX Z):zJA Pg 54 [.bool false] Z Q QD :=
 zGH [.g,.g,.die,.g,.g,.dx (.iface 119 (de [])) Z] (kc (by kernel_rfl) (ai (⟨rfl,rfl,rfl⟩:(zQ RD (.iface 119 (de []))=true/\((.iface 119 (de [])):Value)=(.iface 119 (de []))/\Z=Z)) nx))
theorem xPU (h1:dg Z 49 i (.slice (some bK) l1 c1)) (h2:dh 54 [.bool true] Z (.tuple ⟨[]⟩) Z) (h3:dg Z 5 bK (.int .u8 n2)) (h4:xZ Pg Z 49 (.slice (some bK) l1 c1) (some (iV 1)) none none=some (.slice q3 l3 c3)) (h5:di (evL [pv i,.slice q3 l3 c3]) Z (.store 49 (.tmp 0) (.tmp 1))=some (undef,Z4)) (nx:Q (.int .u8 n2) Z4) (u1:0<(l1:Int):=by omega) (u2:(0:Int)<=0/\0<(l1:Int):=by omega):zJA Pg 52 [pv i] Z Q QD :=
 zGH [.g,.g,.g,.g,.l (.slice (some bK) l1 c1),.g,.b true,.c (.tuple ⟨[]⟩) Z,.g,.g,.g,.l (.slice (some bK) l1 c1),.i,.l (.int .u8 n2),.g,.g,.g,.g,.g,.l (.slice (some bK) l1 c1),.v (.slice q3 l3 c3),.g,.g,.e undef Z4,.g,.g] (kc (by kernel_rfl) (ai h1 (ai (zU u1) (ai h2 (ai h1 (ai u2 (ai h3 (ai h1 (ai h4 (ai h5 nx))))))))))
theorem xPT (h1:dg Z 49 i (.slice q1 l1 c1)) (h2:zBX Pg 54 [.bool false] Z (.iface 119 (de [])) Z) (nx:QD spX Z) (u1:¬ 0<(l1:Int):=by omega):zJA Pg 52 [pv i] Z Q QD :=
 zGH [.g,.die,.g,.g,.g,.l (.slice q1 l1 c1),.g,.b false,.dx (.iface 119 (de [])) Z] (kc (by kernel_rfl) (ai h1 (ai (zY u1) (ai h2 nx))))
theorem ySG (hb:∀ k aB ao Z,Inv k aB ao Z->zLO r aB ao Z (fun i3_1' i4_1' Z'=>∃ k',k' < k/\Inv k' i3_1' i4_1' Z') Qr Qd):∀ k aB ao Z,Inv k aB ao Z->yXU r aB ao Z Qr Qd :=
 fun k aB ao Z h=>zSJ (alts:=[uA r Qr,wK r Qd]) (T:=Int × Int) (lf:=fun t=>zLN r t.1 t.2) (mf:=fun t=>[]) (Inv:=fun k t Z=>Inv k t.1 t.2 Z) (ai zAW (ai (yVI spX) trivial)) (fun k t Z h=>hb k t.1 t.2 Z h) k (aB,ao) Z h
theorem xHS {Nx:Int->Int->St->Prop}:let y0:=(Int.tmod nA 128)*ao;∀ (h1:dh 52 [pv r] Z (.int .u8 nA) ZD) (h2:dh 54 [.bool true] ZD (.tuple ⟨[]⟩) ZD) (nx:Qr (aB+y0) ZD) (u1:I6a (nA):=by omega) (u2:I6a y0:=by omega) (u3:I6a (aB+y0):=by omega) (u4:(aB+y0)<268435456:=by omega) (u5:nA<128:=by omega),zLO r aB ao Z Nx Qr Qd :=
 let y0:=(Int.tmod nA 128)*ao;fun h1 h2 nx u1 u2 u3 u4 u5=>vP [.g,.g,.g,.c (.int .u8 nA) ZD,.n nA,.g,.g,.g,.g,.g,.n y0,.n (aB+y0),.g,.g,.b true,.c (.tuple ⟨[]⟩) ZD,.g,.b true,.g,.g,.fin (uA r Qr) (aB+y0)] (fun g=>kc (by kernel_rfl) (ai h1 (ai (vS (n:=nA) u1.1 u1.2) (ai (vS (n:=(Int.tmod nA 128)*ao) u2.1 u2.2) (ai (vS (n:=aB+y0) u3.1 u3.2) (ai (zU u4) (ai h2 (ai (zU u5) (fin (alts:=[zDD r Nx,uA r Qr,wK r Qd]) (uA r Qr) (aB+y0) nx (inS in0))))))))))
theorem xHR {Nx:Int->Int->St->Prop}:let y0:=(Int.tmod nA 128)*ao;∀ (h1:dh 52 [pv r] Z (.int .u8 nA) ZD) (h2:dh 54 [.bool true] ZD (.tuple ⟨[]⟩) ZD) (nx:Nx (aB+y0) (ao*128) ZD) (u1:I6a (nA):=by omega) (u2:I6a y0:=by omega) (u3:I6a (aB+y0):=by omega) (u4:(aB+y0)<268435456:=by omega) (u5:¬ nA<128:=by omega) (u6:ao<268435456:=by omega) (u7:I6a (ao*128):=by omega),zLO r aB ao Z Nx Qr Qd :=
 let y0:=(Int.tmod nA 128)*ao;fun h1 h2 nx u1 u2 u3 u4 u5 u6 u7=>vP [.g,.g,.g,.c (.int .u8 nA) ZD,.n nA,.g,.g,.g,.g,.g,.n y0,.n (aB+y0),.g,.g,.b true,.c (.tuple ⟨[]⟩) ZD,.g,.b false,.g,.b true,.c (.tuple ⟨[]⟩) ZD,.g,.n (ao*128),.g,.fin (zDD r Nx) (aB+y0,ao*128)] (fun g=>kc (by kernel_rfl) (ai h1 (ai (vS (n:=nA) u1.1 u1.2) (ai (vS (n:=(Int.tmod nA 128)*ao) u2.1 u2.2) (ai (vS (n:=aB+y0) u3.1 u3.2) (ai (zU u4) (ai h2 (ai (zY u5) (ai (zU u6) (ai h2 (ai (vS (n:=ao*128) u7.1 u7.2) (fin (alts:=[zDD r Nx,uA r Qr,wK r Qd]) (zDD r Nx) (aB+y0,ao*128) nx in0))))))))))))
theorem xHQ {Nx:Int->Int->St->Prop}:let y0:=(Int.tmod nA 128)*ao;∀ (h1:dh 52 [pv r] Z (.int .u8 nA) ZD) (h2:dh 54 [.bool true] ZD (.tuple ⟨[]⟩) ZD) (h3:zBX Pg 54 [.bool false] ZD (.iface 119 (de [])) ZD) (nx:Qd ZD) (u1:I6a (nA):=by omega) (u2:I6a y0:=by omega) (u3:I6a (aB+y0):=by omega) (u4:(aB+y0)<268435456:=by omega) (u5:¬ nA<128:=by omega) (u6:¬ ao<268435456:=by omega),zLO r aB ao Z Nx Qr Qd :=
 let y0:=(Int.tmod nA 128)*ao;fun h1 h2 h3 nx u1 u2 u3 u4 u5 u6=>vP [.g,.g,.g,.c (.int .u8 nA) ZD,.n nA,.g,.g,.g,.g,.g,.n y0,.n (aB+y0),.g,.g,.b true,.c (.tuple ⟨[]⟩) ZD,.g,.b false,.die,.g,.b false,.dx (.iface 119 (de [])) ZD,.fin (wK r Qd) ()] (fun g=>kc (by kernel_rfl) (ai h1 (ai (vS (n:=nA) u1.1 u1.2) (ai (vS (n:=(Int.tmod nA 128)*ao) u2.1 u2.2) (ai (vS (n:=aB+y0) u3.1 u3.2) (ai (zU u4) (ai h2 (ai (zY u5) (ai (zY u6) (ai h3 (fin (alts:=[zDD r Nx,uA r Qr,wK r Qd]) (wK r Qd) () nx (inS (inS in0)))))))))))))
theorem xHP {Nx:Int->Int->St->Prop}:let y0:=(Int.tmod nA 128)*ao;∀ (h1:dh 52 [pv r] Z (.int .u8 nA) ZD) (h2:zBX Pg 54 [.bool false] ZD (.iface 119 (de [])) ZD) (nx:Qd ZD) (u1:I6a (nA):=by omega) (u2:I6a y0:=by omega) (u3:I6a (aB+y0):=by omega) (u4:¬ (aB+y0)<268435456:=by omega),zLO r aB ao Z Nx Qr Qd :=
 let y0:=(Int.tmod nA 128)*ao;fun h1 h2 nx u1 u2 u3 u4=>vP [.g,.g,.g,.c (.int .u8 nA) ZD,.n nA,.g,.g,.g,.g,.g,.n y0,.n (aB+y0),.g,.die,.g,.b false,.dx (.iface 119 (de [])) ZD,.fin (wK r Qd) ()] (fun g=>kc (by kernel_rfl) (ai h1 (ai (vS (n:=nA) u1.1 u1.2) (ai (vS (n:=(Int.tmod nA 128)*ao) u2.1 u2.2) (ai (vS (n:=aB+y0) u3.1 u3.2) (ai (zY u4) (ai h2 (fin (alts:=[zDD r Nx,uA r Qr,wK r Qd]) (wK r Qd) () nx (inS (inS in0))))))))))
theorem xHO {Nx:Int->Int->St->Prop} (h1:zBX Pg 52 [pv r] Z (.iface 119 (de [])) Z) (nx:Qd Z):zLO r aB ao Z Nx Qr Qd :=
 vP [.die,.g,.g,.g,.dx (.iface 119 (de [])) Z,.fin (wK r Qd) ()] (fun g=>kc (by kernel_rfl) (ai h1 (fin (alts:=[zDD r Nx,uA r Qr,wK r Qd]) (wK r Qd) () nx (inS (inS in0)))))
theorem xPD (hL:yXU r 0 1 Z Pr Pd) (kr:∀ i2_1' Z',Pr i2_1' Z'->yDR r i2_1' Z' Q QD) (kd:∀ Z',Pd Z'->yDS r Z' Q QD):zJA Pg 53 [pv r] Z Q QD :=
 zGH [.g,.g,.g,.lf 28 (zLN r 0 1) [uA r Pr,wK r Pd]] (kc (by kernel_rfl) (ai (ai tt (ai (arf (zLN r 0 1)) hL)) (ai (fun (t:Int) (g':Nat->Value) (Z':St) (q:Pr t Z')=>kr t Z' q g') (ai (fun (t:Unit) (g':Nat->Value) (Z':St) (q:Pd Z')=>kd Z' q g') trivial))))
theorem ySE (nx:Q (iV i2_1) Z):yDR r i2_1 Z Q QD :=
 fun g=>⟨[],kc (by kernel_rfl) nx⟩
theorem ySF (nx:QD spX Z):yDS r Z Q QD :=
 fun g=>⟨[],kc (by kernel_rfl) nx⟩
theorem yLD {Inv:Nat->(Option Addr)->Nat->Nat->St->Prop} (hb:∀ k aW aX aY Z,Inv k aW aX aY Z->zEW BA aW aX aY Z (fun p2_1' l2_1' c2_1' Z'=>∃ k',k' < k/\Inv k' p2_1' l2_1' c2_1' Z') Qd Q0):∀ k aW aX aY Z,Inv k aW aX aY Z->yLF BA aW aX aY Z Qd Q0 :=
 fun k aW aX aY Z h=>zSJ (alts:=[wC BA Qd,wT BA Q0]) (T:=(Option Addr) × Nat × Nat) (lf:=fun t=>zGN BA t.1 t.2.1 t.2.2) (mf:=fun t=>[]) (Inv:=fun k t Z=>Inv k t.1 t.2.1 t.2.2 Z) (ai (yVI spX) (ai (vN 0) trivial)) (fun k t Z h=>hb k t.1 t.2.1 t.2.2 Z h) k (aW,aX,aY) Z h
@[reducible] def Ha4 (Z ZB ZC ZE:St) (BA lB cC aX aY lL cI:Nat) (qE aW qJ:oA) (nD nC nF:Int):Prop:=zH Pg Z 49 ⟨BA,0,none⟩=some (.slice qE lB cC)/\dh 52 [.pointer (some ⟨BA,0,none⟩)] Z (.int .u8 nD) ZB/\dh 52 [.pointer (some ⟨BA,0,none⟩)] ZB (.int .u8 nC) ZC/\uP Pg .xor 5 (.tmp 19) (.const (.int .u8 32)) (.int .u8 nC) (.int .u8 32)=some (.int .u8 nF)/\dh 54 [.bool true] ZC (.tuple ⟨[]⟩) ZC/\yA Pg 49 49 (.slice aW aX aY) (.slice (some ⟨ZC.y,0,none⟩) 1 1) (ZC.row [.int .u8 nF] 1)=some (.slice qJ lL cI,ZE)
theorem xBH (H:Ha4 Z ZB ZC ZE BA lB cC aX aY lL cI qE aW qJ nD nC nF) (nx:Nx qJ lL cI ZE) (u1:0<(lB:Int):=by omega) (u2:nD=125:=by omega) (u3:nF=126:=by omega):zEW BA aW aX aY Z Nx Qd Q0 :=
 match H with|⟨h1,h2,h3,h4,h5,h6⟩=>vP [.g,.g,.g,.l (.slice qE lB cC),.g,.b true,.g,.c (.int .u8 nD) ZB,.g,.g,.b true,.g,.c (.int .u8 nC) ZC,.v (.int .u8 nF),.g,.g,.b true,.g,.g,.c (.tuple ⟨[]⟩) ZC,.g,.g,.g,.e (.slice qJ lL cI) ZE,.g,.fin (vA BA Nx) (qJ,lL,cI)] (fun g=>kc (by kernel_rfl) (ai h1 (ai (zU u1) (ai h2 (ai (vT u2) (ai h3 (ai h4 (ai (vT u3) (ai h5 (ai h6 (fin (alts:=[vA BA Nx,wC BA Qd,wT BA Q0]) (vA BA Nx) (qJ,lL,cI) nx in0)))))))))))
theorem xBG (H:Ha4 Z ZB ZC ZE BA lB cC aX aY lL cI qE aW qJ nD nC nF) (nx:Nx qJ lL cI ZE) (u1:0<(lB:Int):=by omega) (u2:nD=125:=by omega) (u3:¬ nF=126:=by omega) (u4:nF=125:=by omega):zEW BA aW aX aY Z Nx Qd Q0 :=
 match H with|⟨h1,h2,h3,h4,h5,h6⟩=>vP [.g,.g,.g,.l (.slice qE lB cC),.g,.b true,.g,.c (.int .u8 nD) ZB,.g,.g,.b true,.g,.c (.int .u8 nC) ZC,.v (.int .u8 nF),.g,.g,.b false,.g,.g,.b true,.g,.c (.tuple ⟨[]⟩) ZC,.g,.g,.g,.e (.slice qJ lL cI) ZE,.g,.fin (vA BA Nx) (qJ,lL,cI)] (fun g=>kc (by kernel_rfl) (ai h1 (ai (zU u1) (ai h2 (ai (vT u2) (ai h3 (ai h4 (ai (vD u3) (ai (vT u4) (ai h5 (ai h6 (fin (alts:=[vA BA Nx,wC BA Qd,wT BA Q0]) (vA BA Nx) (qJ,lL,cI) nx in0))))))))))))
theorem xBF (h1:dg Z 49 (dc BA 0) (.slice qE lB cC)) (h2:dh 52 [pq BA 0] Z (.int .u8 nD) ZB) (h3:dh 52 [pq BA 0] ZB (.int .u8 nC) ZC) (h4:uP Pg .xor 5 (.tmp 19) (.const (.int .u8 32)) (.int .u8 nC) (.int .u8 32)=some (.int .u8 nF)) (h5:zBX Pg 54 [.bool false] ZC (.iface 119 (de [])) ZC) (nx:Qd ZC) (u1:0<(lB:Int):=by omega) (u2:nD=125:=by omega) (u3:¬ nF=126:=by omega) (u4:¬ nF=125:=by omega):zEW BA aW aX aY Z Nx Qd Q0 :=
 vP [.g,.g,.g,.l (.slice qE lB cC),.g,.b true,.g,.c (.int .u8 nD) ZB,.g,.g,.b true,.g,.c (.int .u8 nC) ZC,.v (.int .u8 nF),.g,.die,.g,.b false,.g,.g,.b false,.g,.dx (.iface 119 (de [])) ZC,.fin (wC BA Qd) ()] (fun g=>kc (by kernel_rfl) (ai h1 (ai (zU u1) (ai h2 (ai (vT u2) (ai h3 (ai h4 (ai (vD u3) (ai (vD u4) (ai h5 (fin (alts:=[vA BA Nx,wC BA Qd,wT BA Q0]) (wC BA Qd) () nx (inS in0))))))))))))
theorem xBE (h1:dg Z 49 (dc BA 0) (.slice qE lB cC)) (h2:dh 52 [pq BA 0] Z (.int .u8 nD) ZB) (h3:zBX Pg 52 [pq BA 0] ZB (.iface 119 (de [])) ZB) (nx:Qd ZB) (u1:0<(lB:Int):=by omega) (u2:nD=125:=by omega):zEW BA aW aX aY Z Nx Qd Q0 :=
 vP [.g,.g,.g,.l (.slice qE lB cC),.g,.b true,.g,.c (.int .u8 nD) ZB,.g,.g,.b true,.die,.g,.dx (.iface 119 (de [])) ZB,.fin (wC BA Qd) ()] (fun g=>kc (by kernel_rfl) (ai h1 (ai (zU u1) (ai h2 (ai (vT u2) (ai h3 (fin (alts:=[vA BA Nx,wC BA Qd,wT BA Q0]) (wC BA Qd) () nx (inS in0))))))))
theorem xBD (h1:dg Z 49 (dc BA 0) (.slice qE lB cC)) (h2:dh 52 [pq BA 0] Z (.int .u8 nD) ZB) (h3:yA Pg 49 49 (.slice aW aX aY) (.slice (some (dc ZB.y 0)) 1 1) (ZB.row [.int .u8 nD] 1)=some (.slice qN lO cN,ZO)) (nx:Nx qN lO cN ZO) (u1:0<(lB:Int):=by omega) (u2:¬ nD=125:=by omega):zEW BA aW aX aY Z Nx Qd Q0 :=
 vP [.g,.g,.g,.l (.slice qE lB cC),.g,.b true,.g,.c (.int .u8 nD) ZB,.g,.g,.b false,.g,.g,.g,.e (.slice qN lO cN) ZO,.g,.fin (vA BA Nx) (qN,lO,cN)] (fun g=>kc (by kernel_rfl) (ai h1 (ai (zU u1) (ai h2 (ai (vD u2) (ai h3 (fin (alts:=[vA BA Nx,wC BA Qd,wT BA Q0]) (vA BA Nx) (qN,lO,cN) nx in0)))))))
theorem xBC (h1:dg Z 49 (dc BA 0) (.slice qE lB cC)) (nx:Q0 aW aX aY Z) (u1:¬ 0<(lB:Int):=by omega):zEW BA aW aX aY Z Nx Qd Q0 :=
 vP [.g,.g,.g,.l (.slice qE lB cC),.g,.b false,.fin (wT BA Q0) (aW,aX,aY)] (fun g=>kc (by kernel_rfl) (ai h1 (ai (zY u1) (fin (alts:=[vA BA Nx,wC BA Qd,wT BA Q0]) (wT BA Q0) (aW,aX,aY) nx (inS (inS in0))))))
theorem xIK (hL:yLF Z.y none 0 0 (Z.row [.slice piece bT bU] 1) Pd P0) (kd:∀ Z',Pd Z'->zXB Z.y Z' Q QD) (k0:∀ p2_1' l2_1' c2_1' Z',P0 p2_1' l2_1' c2_1' Z'->zXC Z.y p2_1' l2_1' c2_1' Z' Q QD):zJA Pg 51 [.slice piece bT bU] Z Q QD :=
 zGH [.g,.g,.g,.g,.g,.lf 33 (zGN Z.y none 0 0) [wC Z.y Pd,wT Z.y P0]] (kc (by kernel_rfl) (ai (ai tt (ai (arf (zGN Z.y none 0 0)) hL)) (ai (fun (t:Unit) (g':Nat->Value) (Z':St) (q:Pd Z')=>kd Z' q g') (ai (fun (t:(Option Addr) × Nat × Nat) (g':Nat->Value) (Z':St) (q:P0 t.1 t.2.1 t.2.2 Z')=>k0 t.1 t.2.1 t.2.2 Z' q g') trivial))))
theorem yLB (nx:QD spX Z):zXB BA Z Q QD :=
 fun g=>⟨[],kc (by kernel_rfl) nx⟩
theorem yLC (nx:Q (.slice aW aX aY) Z):zXC BA aW aX aY Z Q QD :=
 fun g=>⟨[.g,.g],kc (by kernel_rfl) nx⟩
end
section
variable {a:Addr}
section
variable {P:Program} {Z U:St} {f:FuncId} {args:List Value} {x:Value} {S:Nat->Prop}
theorem yGT {Q:Value->St->Prop} (h:zJA P f args Z Q fun _ _=>False):zL P f args Z Q:=by
 rcases h with ⟨v,s,h1,h2⟩ | ⟨_,_,_,h⟩
 ·exact ⟨v,s,h1,h2⟩
 ·exact h.elim
theorem yGU {QD:Value->St->Prop} (h:zJA P f args Z (fun _ _=>False) QD):∃ x s,xAK P f args Z x s/\QD x s:=by
 rcases h with ⟨_,_,_,h⟩ | h
 ·exact h.elim
 ·exact h
theorem zLY (h:xAK P f args Z.re x U) (hl:Z.y<=U.low) (hr:zQ RD x=true):zBX P f args Z x Z:=by
 obtain ⟨N0,hN⟩:=h;refine ⟨N0,fun N hl'=>?_⟩
 unfold zHY;rw [show (⟨Z.heap,Z.y,Z.y⟩:St)=Z.re from rfl,hN N hl'];simp only [hr,cond_true];unfold vW;rw [(zP _ _).2 hl,hr];rfl
theorem xDF (h:xAK P f args Z.re x U) (ho:Only S Z.re U) (hr:zQ RD x=true):∃ Z',zBX P f args Z x Z'/\Only S Z Z':=by
 by_cases hl:Z.y<=U.low
 ·exact ⟨Z,zLY h hl hr,Only.refl _ _⟩
 obtain ⟨N0,hN⟩:=h;refine ⟨⟨U.heap,U.y,min Z.low U.low⟩,⟨N0,fun N hl'=>?_⟩,ho.lower (m:=0)⟩
 unfold zHY;rw [show (⟨Z.heap,Z.y,Z.y⟩:St)=Z.re from rfl,hN N hl'];simp only [hr,cond_true];unfold vW;have e1:Nat.ble Z.y U.low=false:=by rw [Bool.eq_false_iff];intro e;exact hl ((zP _ _).1 e)
 have e2:Nat.ble Z.y U.y=true:=(zP _ _).2 ho.y;rw [e1,Bool.false_and,cond_false,e2,cond_true,wL,zBD]
end
theorem zVD:zQ RD spX=true:=rfl
structure BS (Z:St) (p:Option Addr) (len c:Nat) (bs:List Int):Prop where
 bt:yV Z p len bs
 cut:zRF Z p len c
section
variable {Z U:St} {p:Option Addr} {len c:Nat} {bs:List Int}
theorem BS.leng (h:BS Z p len c bs):bs.length=len:=yV.len h.bt
theorem BS.lt (h:BS Z p len c bs):∀ k,AtP p k->k<Z.y:=by
 rintro k ⟨a,rfl,rfl⟩;have hr:Row Z a (wI (bs.map byV)):=h.bt.1.2;exact hr.lt
theorem BS.le (h:BS Z p len c bs) (k:Le Z U):BS U p len c bs:=⟨SlV.le h.bt k,zZC h.cut fun b hb=>k.get b (h.lt b hb)⟩
theorem BS.only {S:Nat->Prop} (h:BS Z p len c bs) (k:Only S Z U) (hs:∀ b,AtP p b->¬ S b):BS U p len c bs :=
 ⟨k.slv' h.bt (fun a e hb=>hs _ ⟨a,e,rfl⟩ hb),zZC h.cut fun b hb=>k.get b (h.lt b hb) (hs b hb)⟩
theorem BS.row (h:BS Z (some a) len c bs):Row Z a (bs.map byV):=by
 have hr:Row Z a (wI (bs.map byV)):=h.bt.1.2;rwa [zMM] at hr
theorem yGL (hr:Row Z a (bs.map byV)) (hl:bs.length=len) (hc:zDG Z a 1=true) (hk:len<=yE c):BS Z (some a) len c bs :=
 ⟨⟨⟨by rw [zMM];simp [hl],by show Row Z a _;rw [zMM];exact hr⟩,by simp [hl],by intro v hv;obtain ⟨x,_,rfl⟩:=List.mem_map.1 hv;exact zCP x⟩,hc,hk⟩
theorem yXG:Tryz.prog.underlying 49=some (.slice 5):=by kernel_rfl
theorem xXE (a:Addr):zS a 0=a:=rfl
theorem BS.at {i:Nat} {x:Int} (h:BS Z (some a) len c bs) (hx:bs[i]?=some x):zH Tryz.prog Z 5 (zS a i)=some (.int .u8 x):=h.row.load1 zGD (by simp [hx])
theorem BS.drop {k:Nat} (h:BS Z p len c bs) (hk:k<=len) (hp:0<len):∃ q c',xZ Tryz.prog Z 49 (.slice p len c) (some (iV (k:Int))) none none=some (.slice q (len-k) c')/\BS Z q (len-k) c' (bs.drop k)/\∀ b,AtP q b->AtP p b:=by
 have hl:=h.leng;cases p with
 | none=>have:len=0:=h.cut;omega
 | some a =>
  obtain ⟨hc1,hc2⟩:=h.cut;have hr:=h.row;have hb1:wG (none:Option Value) len (yE c)=some len:=rfl;have hb2:wG (some (iV (k:Int))) 0 len=some k:=uZ rfl hk;have r1:Row Z (zS a k) ((bs.drop k).map byV):=by
   have:=hr.part (k:=k) (m:=len-k) (by simp [hl];omega);rw [<- List.map_drop,<- List.map_take,List.take_of_length_le (by simp [hl])] at this;exact this
  have hat:∀ b,AtP (some (zS a k)) b->AtP (some a) b:=by rintro b ⟨_,e,rfl⟩;cases e;exact ⟨a,rfl,rfl⟩
  have hln:(bs.drop k).length=len-k:=by simp [hl]
  cases hx:yY c with
  | true =>
   have e1:Nat.ble k (yE c)=true:=(zP _ _).2 (by omega);have hcl:=zAP hx;have hlt:=(xI c).1 hx;have hx2:yY (yE c-k)=true:=(xI _).2 (by omega);have hs:∀ q,(bif Nat.beq (yE c) k then a else zS a (k*1))=q->xZ Tryz.prog Z 49 (.slice (some a) len c) (some (iV (k:Int))) none none=some (.slice (some q) (len-k) (yE c-k)):=by
    rintro q rfl;simp only [xZ,yXG,yXP,hc1,cond_true,wJ,hb1,hb2,hx,Bool.or_true,e1]
   by_cases hm:yE c=k
   ·refine ⟨some a,_,hs a (by rw [hm,Nat.beq_refl];rfl),yGL ?_ hln hc1 ?_,fun b hb=>hb⟩
    ·have hnil:bs.drop k=[]:=List.drop_eq_nil_of_le (by omega);rw [hnil];have:=hr.part (k:=0) (m:=0) (by simp);simpa [xXE] using this
    ·rw [zAP hx2];omega
   ·have e2:Nat.beq (yE c) k=false:=by rw [Bool.eq_false_iff];intro e;exact hm (Nat.eq_of_beq_eq_true e)
    refine ⟨some (zS a k),_,hs _ (by rw [e2,cond_false,Nat.mul_one]),yGL r1 hln hc1 ?_,hat⟩
    rw [zAP hx2];omega
  | false =>
   by_cases hm:yE c<=k
   ·have e1:Nat.ble (yE c) k=true:=(zP _ _).2 hm;have e2:(Nat.beq (yE c) k && Nat.beq len k)=true:=by rw [show yE c=k by omega,show len=k by omega];simp
    refine ⟨some (zS a k),vU, ?_,yGL r1 hln hc1 ?_,hat⟩
    ·simp only [xZ,yXG,yXP,hc1,cond_true,wJ,hb1,hb2,hx,Option.isSome_none,Bool.or_false,cond_false,e1,e2,Nat.mul_one];rw [show len-k=0 by omega]
    ·have:=wY 0;rw [Nat.zero_add] at this;omega
   ·have e1:Nat.ble (yE c) k=false:=by rw [Bool.eq_false_iff];intro e;exact hm ((zP _ _).1 e)
    refine ⟨some (zS a k),yE c-k+vU, ?_,yGL r1 hln hc1 (by rw [wY];omega),hat⟩
    simp only [xZ,yXG,yXP,hc1,cond_true,wJ,hb1,hb2,hx,Option.isSome_none,Bool.or_false,cond_false,e1,Nat.mul_one]
theorem BS.take3 {k:Nat} (h:BS Z p len c bs) (hk:k<=len) (hp:0<len) (hb:k<=1073741824):∃ q,xZ Tryz.prog Z 49 (.slice p len c) none (some (iV (k:Int))) (some (iV (k:Int)))=some (.slice q k k)/\BS Z q k k (bs.take k)/\∀ b,AtP q b->AtP p b:=by
 have hl:=h.leng;cases p with
 | none=>have:len=0:=h.cut;omega
 | some a =>
  obtain ⟨hc1,hc2⟩:=h.cut;have hr:=h.row;have hb1:wG (some (iV (k:Int))) 0 (yE c)=some k:=uZ rfl (by omega);have hb2:wG (some (iV (k:Int))) 0 k=some k:=uZ rfl (Nat.le_refl _);have hb3:wG (none:Option Value) 0 k=some 0:=rfl;have e1:Nat.ble 0 k=true:=(zP _ _).2 (Nat.zero_le _);have hq:(bif Nat.beq k 0 then a else zS a (0*1))=a:=by cases Nat.beq k 0 <;> rfl
  have hx:yY k=true:=zKF (by omega);refine ⟨some a, ?_,yGL ?_ (by simp [hl];omega) hc1 (by rw [zAP hx];exact Nat.le_refl _),fun b hb=>hb⟩
  ·simp only [xZ,yXG,yXP,hc1,cond_true,wJ,hb1,hb2,hb3,Option.isSome_some,Bool.true_or,e1,hq,Nat.sub_zero]
  ·have:=hr.part (k:=0) (m:=k) (by simp [hl];omega);rw [List.drop_zero,<- List.map_take] at this;exact this
end
def InP (Z:St) (b:Nat) (bs:List Int):Prop:=∃ p l c,Own Z b [.slice p l c] 1/\BS Z p l c bs/\∀ k,AtP p k->k<b
section
variable {Z U:St} {b:Nat} {bs:List Int}
theorem InP.le (h:InP Z b bs) (k:Le Z U):InP U b bs:=by
 obtain ⟨p,l,c,o,hb,hn⟩:=h;exact ⟨p,l,c,o.le k,hb.le k,hn⟩
theorem zMT:zJ Tryz.prog 54 [.bool true] Z (.tuple ⟨[]⟩) Z:=(yGT (xVH ⟨rfl,Nat.le_refl _⟩)).pure
theorem yAP:zBX Tryz.prog 54 [.bool false] Z (.iface 119 (.agg ⟨[]⟩)) Z:=by
 obtain ⟨x,s,h1,rfl,rfl⟩:=yGU (xVG (Z:=Z.re) (QD:=fun x s=>x=spX/\s=Z.re) ⟨rfl,rfl⟩);exact zLY h1 (Nat.le_refl _) zVD
theorem yTR (h:InP Z b []):zBX Tryz.prog 52 [.pointer (some ⟨b,0,none⟩)] Z (.iface 119 (.agg ⟨[]⟩)) Z:=by
 obtain ⟨p,l,c,o,hb,hn⟩:=h.le (le0 Z);have hl:=hb.leng;simp at hl;subst hl;obtain ⟨x,s,h1,rfl,rfl⟩:=yGU (xPT (Z:=Z.re) (QD:=fun x s=>x=spX/\s=Z.re) (o.rw.ld yGO (k:=0) rfl) yAP ⟨rfl,rfl⟩ (by omega));exact zLY h1 (Nat.le_refl _) zVD
end
end
section
variable {x n:Int} {c l:Nat} {p:Option Addr}
abbrev Bts (bs:List Int):Prop:=∀ x∈bs,0<=x/\x<=255
theorem Bts.tl {bs:List Int} (h:Bts (x::bs)):Bts bs:=fun y hy=>h y (List.mem_cons_of_mem _ hy)
def zGC:List Int->Int->Int->Option (Int × List Int)
 | [],_,_=>none
 | c::r,n,u=>if n+Int.tmod c 128*u<268435456 then (if c<128 then some (n+Int.tmod c 128*u,r) else if u<268435456 then zGC r (n+Int.tmod c 128*u) (u*128) else none) else none
section
variable {P:Program} {Z U:St} {b:Nat} {bs:List Int}
theorem xWH {f:FuncId} {args:List Value} {S:Nat->Prop} {m0:Nat} {Q:Value->St->Prop} (h:zL P f args Z.re fun v s=>Only S Z.re s/\s.low<=m0/\Q v s) (hm:m0<Z.y) (hQ:∀ v s m,Q v s->Q v ⟨s.heap,s.y,m⟩):∃ v Z',zJ P f args Z v Z'/\Only S Z Z'/\Z'.low<=m0/\Q v Z':=by
 obtain ⟨v,s,⟨N0,hN⟩,h1,h2,h3⟩:=h;refine ⟨v,⟨s.heap,s.y,min Z.low s.low⟩,⟨N0,fun N hl=>?_⟩,h1.lower (m:=0),Nat.le_trans (Nat.min_le_right _ _) h2,hQ _ _ _ h3⟩
 unfold uE;rw [show (⟨Z.heap,Z.y,Z.y⟩:St)=Z.re from rfl,hN N hl];show vW Z v s=_;unfold vW;have e1:(Nat.ble Z.y s.low && zQ RD v)=false:=by
  rw [Bool.and_eq_false_iff];left;rw [Bool.eq_false_iff];intro e;have:=(zP _ _).1 e;omega
 have e2:Nat.ble Z.y s.y=true:=(zP _ _).2 h1.y;rw [e1,cond_false,e2,cond_true,wL,zBD]
theorem InP.lowM {m:Nat} (h:InP Z b bs):InP ⟨Z.heap,Z.y,m⟩ b bs:=h.le ⟨Nat.le_refl _,fun _ _=>rfl⟩
theorem yIH (h:InP Z b (x::bs)):∃ Z',zJ Pg 52 [.pointer (some ⟨b,0,none⟩)] Z (.int .u8 x) Z'/\Only (·=b) Z Z'/\Z'.low<=b/\InP Z' b bs:=by
 obtain ⟨p,l,c,o,hb,hn⟩:=h.le (le0 Z);have hl:=hb.leng;simp at hl;have hp:0<l:=by omega
 have hlt:b<Z.y:=o.lt;obtain ⟨q,c',k1,k2,k3⟩:=hb.drop (k:=1) (by omega) hp;obtain ⟨a,rfl,_⟩:=hb.bt.some hp;obtain ⟨v,Z',g1,g2,g3,g4,g5⟩:=xWH (S:=(·=b)) (m0:=b) (Q:=fun v s=>v=.int .u8 x/\InP s b bs) (yGT (xPU (Z:=Z.re) (o.rw.ld yGO (k:=0) rfl) zMT (hb.at (i:=0) rfl) k1 (o.store (vs:=[.slice q (l-1) c']) rfl yHN rfl (by simp) rfl)
  ⟨Only.own (.inr rfl),Nat.min_le_right _ _,rfl,q,l-1,c',o.put,k2.only (S:=(·=b)) (Only.own (.inr rfl)) (fun k hk (e:k=b)=>by have:=hn k (k3 k hk);omega),fun k hk=>hn k (k3 k hk)⟩ (by omega) (by omega))) hlt
  (by rintro v s m ⟨rfl,hi⟩;exact ⟨rfl,hi.lowM⟩)
 exact ⟨Z',g4 ▸ g1,g2,g3,g5⟩
theorem InP.lt (h:InP Z b bs):b<Z.y:=by obtain ⟨_,_,_,o,_⟩:=h;exact o.lt
theorem xOO (h:0<=x/\x<=255):0<=Int.tmod x 128/\Int.tmod x 128<=127:=by
 rw [Int.tmod_eq_emod_of_nonneg h.1];omega
theorem xTQ (h:InP Z b bs) (hb:Bts bs) :
  zJA Pg 53 [.pointer (some ⟨b,0,none⟩)] Z.re (fun v s=>∃ n r,zGC bs 0 1=some (n,r)/\v=iV n/\InP s b r/\Only (·=b) Z.re s/\s.low<=b) (fun x s=>x=spX/\zGC bs 0 1=none/\Only (·=b) Z.re s):=by
 refine xPD (Pr:=fun n s=>∃ r,zGC bs 0 1=some (n,r)/\InP s b r/\Only (·=b) Z.re s/\s.low<=b) (Pd:=fun s=>zGC bs 0 1=none/\Only (·=b) Z.re s)
  (ySG (Inv:=fun k n u s=>∃ r,r.length=k/\InP s b r/\Bts r/\Only (·=b) Z.re s/\zGC bs 0 1=zGC r n u/\0<=n/\n<268435456/\(u=1\/u=128\/u=16384\/u=2097152\/u=268435456)) ?_ bs.length 0 1 Z.re ⟨bs,rfl,h.le (le0 Z),hb,Only.refl _ _,rfl,by omega,by omega,.inl rfl⟩) ?_ ?_
 ·rintro k n u s ⟨r,rfl,hi,hr,ho,he,h1,h2,hu⟩;have h3:1<=u/\u<=268435456:=by omega
  cases r with
  | nil=>exact xHO (yTR hi) ⟨by rw [he];rfl,ho⟩
  | cons c r =>
   obtain ⟨s',k1,k2,k3,k4⟩:=yIH hi;have hc:=hr c List.mem_cons_self;have ht:=xOO hc;have m1:0<=Int.tmod c 128*u:=Int.mul_nonneg ht.1 (by omega);have m2:Int.tmod c 128*u<=127*268435456:=Int.mul_le_mul ht.2 h3.2 (by omega) (by omega);have ho':Only (·=b) Z.re s':=ho.trans' k2 fun _ _ e=>.inl e
   have hn:zGC (c::r) n u=if n+Int.tmod c 128*u<268435456 then (if c<128 then some (n+Int.tmod c 128*u,r) else if u<268435456 then zGC r (n+Int.tmod c 128*u) (u*128) else none) else none:=rfl;by_cases c1:n+Int.tmod c 128*u<268435456;rotate_left
   ·exact xHP k1 yAP ⟨by rw [he,hn,if_neg c1],ho'⟩ (by omega) (by omega) (by omega) c1
   by_cases c2:c<128
   ·exact xHS k1 zMT ⟨r,by rw [he,hn,if_pos c1,if_pos c2],k4,ho',k3⟩ (by omega) (by omega) (by omega) c1 c2
   by_cases c3:u<268435456
   ·exact xHR k1 zMT ⟨r.length,by simp,r,rfl,k4,hr.tl,ho',by rw [he,hn,if_pos c1,if_neg c2,if_pos c3],by omega,c1,by omega⟩ (by omega) (by omega) (by omega) c1 c2 c3 (by omega)
   ·exact xHQ k1 zMT yAP ⟨by rw [he,hn,if_pos c1,if_neg c2,if_neg c3],ho'⟩ (by omega) (by omega) (by omega) c1 c2 c3
 ·rintro n s ⟨r,g1,g2,g3,g4⟩;exact ySE ⟨n,r,g1,rfl,g2,g3,g4⟩
 ·rintro s ⟨g1,g2⟩;exact ySF ⟨rfl,g1,g2⟩
theorem xTR (h:InP Z b bs) (hb:Bts bs) :
    (∃ n r Z',zGC bs 0 1=some (n,r)/\zJ Pg 53 [.pointer (some ⟨b,0,none⟩)] Z (iV n) Z'/\Only (·=b) Z Z'/\InP Z' b r) \/
    (∃ Z',zGC bs 0 1=none/\zBX Pg 53 [.pointer (some ⟨b,0,none⟩)] Z (.iface 119 (.agg ⟨[]⟩)) Z'/\Only (·=b) Z Z'):=by
  rcases xTQ h hb with ⟨v,s,h1,n,r,h2,rfl,h3,h4,h5⟩ | ⟨x,s,h1,rfl,h2,h3⟩
  · obtain ⟨v,Z',g1,g2,_,g3,g4⟩:=xWH (S:=(·=b)) (m0:=b) (Q:=fun v s=>v=iV n/\InP s b r) ⟨_,s,h1,h4,h5,rfl,h3⟩ h.lt (by rintro v s m ⟨rfl,hi⟩;exact ⟨rfl,hi.lowM⟩);exact .inl ⟨n,r,Z',h2,g3 ▸ g1,g2,g4⟩
  · obtain ⟨Z',g1,g2⟩:=xDF h1 h3 zVD;exact .inr ⟨Z',h2,g1,g2⟩
def yBW (n:Int):Int:=if n / 32 % 2=0 then n+32 else n-32
theorem xOI:(List.range 256).all (fun k=>match uP Pg .xor 5 (.tmp 19) (.const (.int .u8 32)) (.int .u8 (k:Int)) (.int .u8 32) with | some (.int .u8 z)=>eqI z (yBW k) | _=>false)=true:=by kernel_rfl
theorem xVU (h:0<=n/\n<=255):uP Pg .xor 5 (.tmp 19) (.const (.int .u8 32)) (.int .u8 n) (.int .u8 32)=some (.int .u8 (yBW n)):=by
 have:=List.all_eq_true.1 xOI n.toNat (List.mem_range.2 (by omega))
 rw [show ((n.toNat:Nat):Int)=n by omega] at this;split at this
 ·rename_i z hz;rw [hz,(yJC _ _).1 this]
 ·cases this
theorem xOJ (h:0<=n/\n<=255):yBW n=126↔n=94:=by unfold yBW;split <;> omega
theorem xOK (h:0<=n/\n<=255):yBW n=125↔n=93:=by unfold yBW;split <;> omega
def xR:List Int->Option (List Int)
 | []=>some []
 | [c]=>if c=125 then none else some [c]
 | c::d::r=>if c=125 then (if d=94 then (xR r).map (126::·) else if d=93 then (xR r).map (125::·) else none) else (xR (d::r)).map (c::·)
theorem zXD {c:Int} {r:List Int} (h:c≠125):xR (c::r)=(xR r).map (c::·):=by
 cases r with
 | nil=>simp [xR,h]
 | cons d r=>rw [xR,if_neg h]
theorem AxB.cutS {n0:Nat} {xs:List Int} (h:AxB U n0 p xs.length c xs):BS U p xs.length c xs:=by
 refine ⟨h.bytes, ?_⟩
 have h':Ax U n0 1 p xs.length c (xs.map byV):=h;clear h;generalize xs.length=len at h' ⊢;generalize xs.map byV=cs at h';rcases h' with h | ⟨b,rfl,h2,h3,h4,h5,h6⟩
 ·cases h with
  | nil=>rfl
  | more g1 g2 g3 g4 g5 g6 g7 =>
   refine ⟨?_,by rw [wY];exact Nat.le_refl _⟩
   simp only [zDG,g1,zZ,g2,wR,Nat.beq_refl,cond_true];rfl
 ·subst h2;exact ⟨by simp [zDG,h5.get,zZ,wR],by rw [zAP h3];exact Nat.le_refl _⟩
theorem xPO (h:BS Z p l c bs) (hb:Bts bs) (hl:l<=1073741823) :
  zJA Pg 51 [.slice p l c] Z.re (fun v s=>∃ out q d,xR bs=some out/\v=.slice q out.length d/\New Z.re s/\BS s q out.length d out/\∀ b,AtP q b->Z.y<=b) (fun x s=>x=spX/\xR bs=none/\New Z.re s):=by
 have hbl:=h.leng;have h0:InP (Z.re.row [.slice p l c] 1) Z.y bs:=⟨p,l,c,zI _ _ _,(h.le (le0 Z)).le (Le.row _ _ _),fun k hk=>h.lt k hk⟩;refine xIK (Pd:=fun s=>xR bs=none/\New Z.re s) (P0:=fun q m d s=>∃ out,xR bs=some out/\m=out.length/\New Z.re s/\AxB s (Z.y+1) q out.length d out)
  (yLD (Inv:=fun k q m d s=>∃ r acc,r.length=k/\InP s Z.y r/\Bts r/\New Z.re s/\m=acc.length/\AxB s (Z.y+1) q acc.length d acc/\acc.length+r.length<=bs.length/\xR bs=(xR r).map (acc++·)) ?_ bs.length none 0 0 _ ⟨bs,[],rfl,h0,hb,New.row _ _ _,rfl,Ax.nil,by simp,by cases xR bs <;> rfl⟩) ?_ ?_
 rotate_left
 ·rintro s ⟨g1,g2⟩;exact yLB ⟨rfl,g1,g2⟩
 ·rintro q m d s ⟨out,g1,rfl,g2,g3⟩;exact yLC ⟨out,q,d,g1,rfl,g2,g3.cutS,fun b hb=>by have:=(g3.bd b hb).1;omega⟩
 rintro k q m d s ⟨r,acc,rfl,hi,hr,hN,rfl,ha,hlen,he⟩;have hi':=hi;obtain ⟨q0,l0,c0,o0,b0,n0⟩:=hi';have hl0:=b0.leng;have ld:zH Pg s 49 ⟨Z.y,0,none⟩=some (.slice q0 l0 c0):=o0.rw.ld yGO (k:=0) rfl;have hnx:Z.y+1<=s.y:=by have:=o0.lt;omega
 have push:∀ (x:Int) (t:St) (r':List Int),Only (·=Z.y) s t->InP t Z.y r'->New Z.re t->acc.length+1<=bs.length ->
   ∃ q' d' t',yA Pg 49 49 (.slice q acc.length d) (.slice (some ⟨t.y,0,none⟩) 1 1) (t.row [.int .u8 x] 1)=some (.slice q' (acc++[x]).length d',t')/\AxB t' (Z.y+1) q' (acc++[x]).length d' (acc++[x])/\InP t' Z.y r'/\New Z.re t':=by
  intro x t r' ho hi' hN' hle
  have ha':AxB t (Z.y+1) q acc.length d acc:=ha.only (S:=(·=Z.y)) ho fun b hb e=>by have:=(ha.bd b hb).1;have e:b=Z.y:=e;omega
  have nr:New t (t.row [.int .u8 x] 1):=New.row _ _ _
  have ht:=ho.y
  obtain ⟨q',d',t',g1,g2,g3,g4⟩:=AxB.push (d:=1) (ha'.le nr.le) (yDN t [x]) (by simp;omega) (by have:=nr.le.y;omega)
  refine ⟨q',d',t',g1,g2, ?_,(hN'.row').of_only g3 fun b hb=>by have:=(ha'.bd b hb).1;show Z.y<=b;omega⟩
  obtain ⟨p1,l1,c1,o1,b1,n1⟩:=hi'.le nr.le
  have hS:∀ k,k<=Z.y->¬ AtP q k:=fun k hk e=>by have:=(ha'.bd k e).1;omega
  exact ⟨p1,l1,c1,g3.own' o1 (hS _ (Nat.le_refl _)),b1.only g3 (fun k hk=>hS k (Nat.le_of_lt (n1 k hk))),n1⟩
 cases r with
 | nil =>
  simp at hl0;exact xBC ld ⟨acc,by rw [he];simp [xR],rfl,hN,ha⟩ (by omega)
 | cons c0 r =>
  simp at hl0 hlen;obtain ⟨s1,k1,k2,_,i1⟩:=yIH hi;have N1:New Z.re s1:=hN.of_only k2 fun b hb=>by have hb:b=Z.y:=hb;show Z.y<=b;omega
  have hc0:=hr c0 List.mem_cons_self;by_cases c1:c0=125;rotate_left
  ·obtain ⟨q',d',t',g1,g2,g3,g4⟩:=push c0 s1 r k2 i1 N1 (by omega);exact xBD ld k1 g1 ⟨r.length,by simp,r,acc++[c0],rfl,g3,hr.tl,g4,rfl,g2,by simp;omega,by rw [he,zXD c1];cases xR r <;> simp⟩ (by omega) c1
  subst c1;cases r with
  | nil=>exact xBE ld k1 (yTR i1) ⟨by rw [he,show xR [125]=none from rfl];rfl,N1⟩ (by omega) rfl
  | cons d0 r =>
   simp at hlen;obtain ⟨s2,k3,k4,_,i2⟩:=yIH i1;have N2:New Z.re s2:=N1.of_only k4 fun b hb=>by have hb:b=Z.y:=hb;show Z.y<=b;omega
   have ho2:Only (·=Z.y) s s2:=k2.trans' k4 fun _ _ e=>.inl e
   have hd0:=hr d0 (by simp);have hx:=xVU hd0;by_cases d1:d0=94
   ·subst d1;obtain ⟨q',d',t',g1,g2,g3,g4⟩:=push (yBW 94) s2 r ho2 i2 N2 (by omega);exact xBH ⟨ld,k1,k3,hx,zMT,g1⟩ ⟨r.length,by simp;omega,r,acc++[yBW 94],rfl,g3,hr.tl.tl,g4,rfl,g2,by simp;omega,by rw [he,xR,if_pos rfl,if_pos rfl];cases xR r <;> simp <;> rfl⟩ (by omega) rfl rfl
   by_cases d2:d0=93
   ·subst d2;obtain ⟨q',d',t',g1,g2,g3,g4⟩:=push (yBW 93) s2 r ho2 i2 N2 (by omega);exact xBG ⟨ld,k1,k3,hx,zMT,g1⟩ ⟨r.length,by simp;omega,r,acc++[yBW 93],rfl,g3,hr.tl.tl,g4,rfl,g2,by simp;omega,by rw [he,xR,if_pos rfl,if_neg (by omega),if_pos rfl];cases xR r <;> simp <;> rfl⟩ (by omega) rfl (by decide) rfl
   ·exact xBF ld k1 k3 hx yAP ⟨by rw [he,xR,if_pos rfl,if_neg d1,if_neg d2];rfl,N2⟩ (by omega) rfl (fun e=>d1 ((xOJ hd0).1 e)) (fun e=>d2 ((xOK hd0).1 e))
theorem xPP (h:BS Z p l c bs) (hb:Bts bs) (hl:l<=1073741823) :
  (∃ out q d Z',xR bs=some out/\zJ Pg 51 [.slice p l c] Z (.slice q out.length d) Z'/\New Z Z'/\BS Z' q out.length d out/\∀ b,AtP q b->Z.y<=b) \/
  (xR bs=none/\zBX Pg 51 [.slice p l c] Z (.iface 119 (.agg ⟨[]⟩)) Z):=by
 rcases xPO h hb hl with ⟨v,s,h1,out,q,d,h2,rfl,h3,h4,h5⟩ | ⟨x,s,h1,rfl,h2,h3⟩
 ·obtain ⟨v,Z',g1,g2,q,d,rfl,g3,g4⟩:=zL.new (Q:=fun v s=>∃ q d,v=.slice q out.length d/\BS s q out.length d out/\∀ b,AtP q b->Z.y<=b) ⟨_,s,h1,h3,q,d,rfl,h4,h5⟩ (by rintro v s s' ⟨q,d,rfl,g,g'⟩ hle;exact ⟨q,d,rfl,g.le hle,g'⟩) (by
   rintro v s hr ⟨q,d,rfl,g,g'⟩;refine ⟨q,d,rfl, ?_,g'⟩
   cases q with
   | none=>exact ⟨zAV g.bt,g.cut⟩
   | some a=>exact Bool.noConfusion (show false=true from hr))
  exact .inl ⟨out,q,d,Z',h2,g1,g2,g3,g4⟩
 ·exact .inr ⟨h2,zLY h1 h3.lw zVD⟩
end
end
section
noncomputable section
variable (sep:oA) (bg:Nat) (kA:Int) (q4:oA) (l4 c4:Nat) (bP:oA) (Q:(Option Addr)->Nat->Nat->Int->St->Prop) (bQ bR:Nat) (aL:Int) (Z:St) (Nx Q0:(Option Addr)->Nat->Nat->Int->St->Prop) (q0:vPa)
def yNB:Code:=(Code.part [1,1,1,1,1,1,1,1,0,0,0] (dj 84))
def zQB:lNa:=[(0,.slice bP bQ bR),(1,.slice sep 1 bg),(2,iV 0),(3,iV kA),(9,.slice q4 l4 c4),(10,iV aL)]
def xCQ:Alt:=⟨(Option Addr) × Nat × Nat × Int,.normal,fun t=>zQB sep bg kA q4 l4 c4 t.1 t.2.1 t.2.2.1 t.2.2.2,fun t=>[],fun t Z=>Q t.1 t.2.1 t.2.2.1 t.2.2.2 Z⟩
def zYO (sep:oA) (bg:Nat) (kA:Int) (q4:oA) (l4 c4:Nat) (bP:oA) (bQ bR:Nat) (aL:Int):lNa:=[(0,.slice bP bQ bR),(9,.slice q4 l4 c4),(10,iV aL)]
def zNO:Alt:=⟨(Option Addr) × Nat × Nat × Int,(.exit 0),fun t=>zYO sep bg kA q4 l4 c4 t.1 t.2.1 t.2.2.1 t.2.2.2,fun t=>[],fun t Z=>Q t.1 t.2.1 t.2.2.1 t.2.2.2 Z⟩
def zYQ:Prop:=xK Pg dl none yNB 70 (zQB sep bg kA q4 l4 c4 bP bQ bR aL) [] [xCQ sep bg kA q4 l4 c4 Nx,zNO sep bg kA q4 l4 c4 Q0] Z
def yNC:Prop:=xO Pg dl none yNB 70 (zQB sep bg kA q4 l4 c4 bP bQ bR aL) [] [zNO sep bg kA q4 l4 c4 Q0] Z
def zYP:Prop:=kZ dl (dj 84) [1,1,1,1,1,1,1,1,0,0] (dm 84 q0) (.exit 0) 70 (zYO sep bg kA q4 l4 c4 bP bQ bR aL) Z
end
variable {a_0 b s sep q4 bP qH qF qR q1:oA} {a_0_l a_0_c b_l b_c s_l s_c bg l4 c4 bQ bR lJ cK lH cF lR cR l1 c1:Nat} {s1 s2:ByteArray} {Z ZB Z3 ZT Z2:St} {Q:vPa} {c n1 n2 kA aL nA:Int} {sep_a q4_a:Addr} {Inv:Nat->(Option Addr)->Nat->Nat->Int->St->Prop} {Q0 Nx P0:(Option Addr)->Nat->Nat->Int->St->Prop}
theorem xVE (h1:xJ Pg (evL [.slice a_0 a_0_l a_0_c]) Z (.convert 49 9 (.tmp 0))=some (.string s1)) (h2:xJ Pg (evL [.slice b b_l b_c]) Z (.convert 49 9 (.tmp 0))=some (.string s2)) (h3:uP Pg .eql 9 (.tmp 6) (.tmp 8) (.string s1) (.string s2)=some (.bool true)) (nx:Q (.bool true) Z):dq 57 [.slice a_0 a_0_l a_0_c,.slice b b_l b_c] Z Q :=
 zK [.g,.g,.v (.string s1),.g,.v (.string s2),.v (.bool true),.g] (kd (an3 h1 h2 h3 nx))
theorem xVD (h1:xJ Pg (evL [.slice a_0 a_0_l a_0_c]) Z (.convert 49 9 (.tmp 0))=some (.string s1)) (h2:xJ Pg (evL [.slice b b_l b_c]) Z (.convert 49 9 (.tmp 0))=some (.string s2)) (h3:uP Pg .eql 9 (.tmp 6) (.tmp 8) (.string s1) (.string s2)=some (.bool false)) (nx:Q (.bool false) Z):dq 57 [.slice a_0 a_0_l a_0_c,.slice b b_l b_c] Z Q :=
 zK [.g,.g,.v (.string s1),.g,.v (.string s2),.v (.bool false),.g] (kd (an3 h1 h2 h3 nx))
theorem xMP (h1:(yCM Pg Z (.func 138) [.slice b b_l b_c,.int .u8 c]=some (iV n1)/\Z=Z)) (nx:Q (iV n1) Z):dq 124 [.slice b b_l b_c,.int .u8 c] Z Q :=
 zK [.g,.g,.g,.e (iV n1) Z,.g] (kd (ai h1 nx))
theorem xRV (h1:dg Z 5 sep_a (.int .u8 n1)) (h2:dh 124 [.slice s s_l s_c,.int .u8 n1] Z (iV n2) Z) (nx:Q (iV n2) Z):dq 102 [.slice s s_l s_c,.slice (some sep_a) 1 bg] Z Q :=
 zK [.g,.g,.g,.g,.g,.g,.g,.g,.g,.g,.g,.g,.i,.l (.int .u8 n1),.c (iV n2) Z,.g] (kd (an3 (⟨by decide,by decide⟩:uD 0 1) h1 h2 nx))
theorem xRX (h1:dg Z 5 sep_a (.int .u8 n1)) (h2:(yCM Pg Z (.func 123) [.slice s s_l s_c,.int .u8 n1]=some (iV n2)/\Z=Z)) (nx:Q (iV n2) Z):dq 101 [.slice s s_l s_c,.slice (some sep_a) 1 bg] Z Q :=
 zK [.g,.g,.g,.g,.g,.g,.g,.g,.g,.i,.l (.int .u8 n1),.e (iV n2) Z,.g] (kd (an3 (⟨by decide,by decide⟩:uD 0 1) h1 h2 nx))
theorem yNA (hb:∀ k bP bQ bR aL Z,Inv k bP bQ bR aL Z->zYQ sep bg kA q4 l4 c4 bP bQ bR aL Z (NX4 Inv k) Q0):∀ k bP bQ bR aL Z,Inv k bP bQ bR aL Z->yNC sep bg kA q4 l4 c4 bP bQ bR aL Z Q0 :=
 zAS (ai (vN 0) trivial) hb
theorem xCP (h1:dh 102 [.slice bP bQ bR,.slice sep 1 bg] Z (iV nA) Z) (h2:xZ Pg Z 49 (.slice bP bQ bR) none (some (iV (nA+0))) (some (iV (nA+0)))=some (.slice qH lJ cK)) (h3:di (evL [pv (zS q4_a (Int.toNat aL*1)),.slice qH lJ cK]) Z (.store 49 (.tmp 0) (.tmp 1))=some (undef,ZB)) (h4:xZ Pg ZB 49 (.slice bP bQ bR) (some (iV (nA+1))) none none=some (.slice qF lH cF)) (nx:Nx qF lH cF (aL+1) ZB) (u1:aL<kA:=by omega) (u2:¬ nA<0:=by omega) (u3:I6 (nA+0):=by omega) (u4:Ix aL l4:=by omega) (u5:I6 (nA+1):=by omega) (u6:I6 (aL+1):=by omega):zYQ sep bg kA (some q4_a) l4 c4 bP bQ bR aL Z Nx Q0 :=
 kO 0 (qF,lH,cF,aL+1) [.g,.g,.b true,.g,.g,.c (iV nA) Z,.g,.g,.b false,.g,.g,.g,.g,.g,.n (nA+0),.g,.g,.n (nA+0),.v (.slice qH lJ cK),.i,.e undef ZB,.g,.g,.g,.g,.n (nA+1),.v (.slice qF lH cF),.g,.g,.n (aL+1),.g] (fun _ f=>an5 (zU u1) h1 (zY u2) (w64 u3) (w64 u3) (an6 h2 u4 h3 (w64 u5) h4 (w64 u6) f)) nx
theorem xCO (nx:Q0 bP bQ bR aL Z) (u1:¬ aL<kA:=by omega):zYQ sep bg kA q4 l4 c4 bP bQ bR aL Z Nx Q0 :=
 kO 1 (bP,bQ,bR,aL) [.g,.g,.b false] (fun _ f=>ai (zY u1) f) nx
theorem xLD (h1:dh 101 [.slice s s_l s_c,.slice sep 1 bg] Z (iV n1) Z) (h2:xJ Pg (evL [iV (n1+1),iV ((s_l:Int)+1)]) Z (.call { callee:=.builtin .min,args:=⟨wN 2⟩,argTypes:=⟨[3,3]⟩ })=some (iV n2)) (h3:di (evL [iV n2,iV n2]) Z (.makeSlice 115 (.tmp 0) (.tmp 1))=some (.slice q4 l4 c4,Z3)) (hL:yNC sep bg (n2-1) q4 l4 c4 s s_l s_c 0 Z3 P0) (k0:∀ p0_1' l0_1' c0_1' i10_1' Z',P0 p0_1' l0_1' c0_1' i10_1' Z'->zYP sep bg (n2-1) q4 l4 c4 p0_1' l0_1' c0_1' i10_1' Z' Q) (u1:I6 (n1+1):=by omega) (u2:I6 ((s_l:Int)+1):=by omega) (u3:I6 (n2-1):=by omega):dq 84 [.slice s s_l s_c,.slice sep 1 bg,iV 0,iV (-1)] Z Q :=
 let s1:=zQB sep bg (n2-1) q4 l4 c4 s s_l s_c 0;zK [.g,.g,.g,.g,.g,.g,.g,.g,.g,.g,.c (iV n1) Z,.n (n1+1),.g,.g,.g,.g,.n ((s_l:Int)+1),.v (iV n2),.g,.g,.e (.slice q4 l4 c4) Z3,.g,.g,.n (n2-1),.g,.g,.lf 70 s1 [zNO sep bg (n2-1) q4 l4 c4 P0]] (kd (an6 h1 (w64 u1) (w64 u2) h2 h3 (w64 u3) (ai (ai tt (ai (arf s1) hL)) (ai (kz4 k0) trivial))))
theorem yMZ (h1:di (evL [pv (zS q4_a (Int.toNat aL*1)),.slice bP bQ bR]) Z (.store 49 (.tmp 0) (.tmp 1))=some (undef,ZT)) (h2:xZ Pg ZT 115 (.slice (some q4_a) l4 c4) none (some (iV (aL+1))) none=some (.slice qR lR cR)) (nx:Q (.slice qR lR cR) ZT) (u1:Ix aL l4:=by omega) (u2:I6 (aL+1):=by omega):zYP sep bg kA (some q4_a) l4 c4 bP bQ bR aL Z Q :=
 sK [.g,.g,.g,.i,.e undef ZT,.g,.g,.n (aL+1),.v (.slice qR lR cR),.g] (an4 u1 h1 (w64 u2) h2 nx)
theorem xHF (h1:dh 84 [.slice s s_l s_c,.slice sep 1 bg,iV 0,iV (-1)] Z (.slice q1 l1 c1) Z2) (nx:Q (.slice q1 l1 c1) Z2):dq 49 [.slice s s_l s_c,.slice sep 1 bg] Z Q :=
 zK [.g,.g,.g,.c (.slice q1 l1 c1) Z2,.g] (kd (ai h1 nx))
theorem xBI (nx:Q (.func (.func 48) ⟨[]⟩ ⟨[pq Z.y 0]⟩) (Z.row [.slice b b_l b_c] 1)):dq 26 [.slice b b_l b_c] Z Q :=
 zK [.g,.g,.g,.g] (kd nx)
end
def zFY (bs:List Int):List UInt8:=bs.map fun n=>UInt8.ofNat n.toNat
theorem zOD:∀ bs:List Int,zBV (bs.map byV)=some (zFY bs)
 | []=>rfl
 | b::bs=>by rw [List.map_cons,zBV,zOD bs];rfl
theorem yPR {x y:Int} (hx:0<=x/\x<=255) (hy:0<=y/\y<=255) (h:UInt8.ofNat x.toNat=UInt8.ofNat y.toNat):x=y:=by
 have:=congrArg UInt8.toNat h;simp only [UInt8.toNat_ofNat'] at this;rw [Nat.mod_eq_of_lt (by omega),Nat.mod_eq_of_lt (by omega)] at this;omega
theorem yKE:∀ {xs ys:List Int},Bts xs->Bts ys->zFY xs=zFY ys->xs=ys
 | [],[],_,_,_=>rfl
 | [],_::_,_,_,h=>by simp [zFY] at h
 | _::_,[],_,_,h=>by simp [zFY] at h
 | x::xs,y::ys,hx,hy,h=>by
  simp only [zFY,List.map_cons,List.cons.injEq] at h;rw [yPR (hx x List.mem_cons_self) (hy y List.mem_cons_self) h.1,yKE hx.tl hy.tl h.2]
theorem xLU {s t:ByteArray} {o1 o2:Operand}:uP Tryz.prog .eql 9 o1 o2 (.string s) (.string t)=some (.bool (s.data.toList == t.data.toList)):=by
 have e:uP Tryz.prog .eql 9 o1 o2 (.string s) (.string t)=(yJ Tryz.prog (do eqGuard .eql 9 o1 o2 (.string s) (.string t);binOp .eql 9 (.string s) (.string t))).filter (zQ RD):=by kernel_rfl
 have e1:yJ Tryz.prog (eqGuard .eql 9 o1 o2 (.string s) (.string t))=some ():=by kernel_rfl
 have e2:binOp .eql 9 (.string s) (.string t)=pure (.bool (s.toList == t.toList)):=rfl;rw [e,vF,e1];simp only [Option.bind_some];rw [e2,yHX,ByteArray.toList_eq,ByteArray.toList_eq];rfl
section
variable {Z:St}
theorem yNY {p:Option Addr} {l c:Nat} {bs:List Int} (h:yV Z p l bs):xJ Tryz.prog (evL [.slice p l c]) Z (.convert 49 9 (.tmp 0))=some (.string ⟨⟨zFY bs⟩⟩):=by
 have hl:=yV.len h;cases p with
 | none =>
  have h0:l=0:=h.1.2;subst h0;have:bs=[]:=List.eq_nil_of_length_eq_zero hl;subst this;show xJ Tryz.prog (evL [.slice none 0 c]) Z (.convert 49 9 (.tmp 0))=some (.string ⟨⟨[]⟩⟩);kernel_rfl
 | some a =>
  have hr:=h.1.2;rw [zMM] at hr;have hrd:=hr.rd;rw [List.length_map,hl] at hrd;have e:xJ Tryz.prog (evL [.slice (some a) l c]) Z (.convert 49 9 (.tmp 0))=(match yR Z a l with
    | some cs=>match zBV cs with
     | some bs=>some (.string ⟨⟨bs⟩⟩)
     | none=>none
    | none=>none):=by kernel_rfl
  rw [e,hrd];simp only [zOD]
theorem xXA {p q:Option Addr} {l m c d:Nat} {xs ys:List Int} (h1:yV Z p l xs) (h2:yV Z q m ys) (b1:Bts xs) (b2:Bts ys):zJ Tryz.prog 57 [.slice p l c,.slice q m d] Z (.bool (decide (xs=ys))) Z:=by
 have k1:=yNY (c:=c) (SlV.le h1 (le0 Z));have k2:=yNY (c:=d) (SlV.le h2 (le0 Z));by_cases e:xs=ys
 ·subst e;rw [decide_eq_true rfl];exact (xVE k1 k2 (by rw [xLU,beq_self_eq_true]) ⟨rfl,Nat.le_refl _⟩).pure
 ·rw [decide_eq_false e];refine (xVD k1 k2 ?_ ⟨rfl,Nat.le_refl _⟩).pure;have:(zFY xs == zFY ys)=false:=by rw [beq_eq_false_iff_ne];exact fun h=>e (yKE b1 b2 h)
  rw [xLU];show some (Value.bool (zFY xs == zFY ys))=_;rw [this]
end
def zAY:Nat->List Int->Option (List Int × List Int)
 | 0,r=>some ([],r)
 | k+1,r=>match zGC r 0 1 with
  | some (n,r')=>(zAY k r').map fun p=>(n::p.1,p.2)
  | none=>none
def zTV (content:List Int):List Int->Option Rec
 | [a,b,c,d,e,f]=>if (0<=d/\d<=2)/\yQ ⟨a,b,c,d,e,f⟩=true/\yI ⟨a,b,c,d,e,f⟩=content then some ⟨a,b,c,d,e,f⟩ else none
 | _=>none
def xHX:List Int->Option Rec
 | []=>none
 | x::t=>match zAY 6 t with
  | some (l,_)=>zTV (x::t) l
  | none=>none
def zDY (p:List Int):Option Rec:=match xR p with
 | some c=>xHX c
 | none=>none
theorem yLS:∀ {r:List Int} {n u:Int},Bts r->∀ m r',zGC r n u=some (m,r')->Bts r'
 | [],n,u,_,m,r',h=>by cases h
 | c::r,n,u,hb,m,r',h=>by
  unfold zGC at h;split at h
  ·split at h
   ·cases h;exact hb.tl
   ·split at h
    ·exact yLS hb.tl m r' h
    ·cases h
  ·cases h
theorem yTB:∀ (k:Nat) (bs:List Int),bs.length<=k->Bts bs->∀ out,xR bs=some out->Bts out:=by
 intro k;have one:∀ {x:Int} {o:List Int},(0<=x/\x<=255)->Bts o->Bts (x::o):=fun hx ho y hy=>by
  rcases List.mem_cons.1 hy with e | e
  ·rw [e];exact hx
  ·exact ho y e
 induction k with
 | zero=>intro bs hk _ out h;have:bs=[]:=List.eq_nil_of_length_eq_zero (by omega);subst this;simp [xR] at h;subst h;intro x hx;cases hx
 | succ k ih =>
  intro bs hk hb out h;match bs,hk,hb,h with
  | [],_,_,h=>simp [xR] at h;subst h;intro x hx;cases hx
  | [c],_,hb,h =>
   unfold xR at h;split at h
   ·cases h
   ·simp at h;subst h;exact hb
  | c::d::r,hk,hb,h =>
   unfold xR at h;simp at hk;split at h
   ·split at h
    ·obtain ⟨o,h1,rfl⟩:=Option.map_eq_some_iff.1 h;exact one (by omega) (ih r (by omega) hb.tl.tl o h1)
    ·split at h
     ·obtain ⟨o,h1,rfl⟩:=Option.map_eq_some_iff.1 h;exact one (by omega) (ih r (by omega) hb.tl.tl o h1)
     ·cases h
   ·obtain ⟨o,h1,rfl⟩:=Option.map_eq_some_iff.1 h;exact one (hb c List.mem_cons_self) (ih (d::r) (by simp;omega) hb.tl o h1)
theorem zUO {x:Rec}:Bts (yI x):=by
 intro y hy;unfold yI at hy;rcases List.mem_append.1 hy with h | h
 ·unfold wA at h;rcases List.mem_cons.1 h with e | e
  ·rw [e];omega
  ·obtain ⟨n,_,h2⟩:=List.mem_flatMap.1 e;exact xBO _ _ h2
 ·have key:∀ (l:List Int) (p:Int × Int),0<=p.1/\p.1<=255/\0<=p.2/\p.2<=255->0<=(l.foldl (fun p c=>((p.1+c) % 256,(p.2+(p.1+c) % 256) % 256)) p).1/\(l.foldl (fun p c=>((p.1+c) % 256,(p.2+(p.1+c) % 256) % 256)) p).1<=255/\0<=(l.foldl (fun p c=>((p.1+c) % 256,(p.2+(p.1+c) % 256) % 256)) p).2/\(l.foldl (fun p c=>((p.1+c) % 256,(p.2+(p.1+c) % 256) % 256)) p).2<=255:=by
   intro l;induction l with
   | nil=>intro p hp;exact hp
   | cons c l ih=>intro p hp;rw [List.foldl_cons];exact ih _ ⟨by omega,by omega,by omega,by omega⟩
  have:=key (wA x) (0,0) (by omega);simp only [List.mem_cons,List.not_mem_nil,or_false] at h;unfold chk at h;rcases h with rfl | rfl
  ·exact ⟨this.1,this.2.1⟩
  ·exact ⟨this.2.2.1,this.2.2.2⟩
section
noncomputable section
variable (BA BB:Nat) (q1:oA) (l1 c1 BD BC:Nat) (q0:Int->St->Prop) (Q:St->Prop) (bp:Int) (Z:St) (Nx:Int->St->Prop) (q2:vPa) (Qd Q0:St->Prop)
def yYB:Code:=(Code.part [1,1,1,1,1,1,0,1,0,0] (dj 27))
def zLP:lNa:=[(2,pq BA 0),(3,pq BB 0),(4,.slice q1 l1 c1),(5,pq BD 0),(6,pq BC 0),(20,iV bp)]
def zGI:Alt:=⟨Int,.normal,fun t=>zLP BA BB q1 l1 c1 BD BC t,fun t=>[],fun t Z=>q0 t Z⟩
def yDZ (BA BB:Nat) (q1:oA) (l1 c1 BD BC:Nat):lNa:=[(2,pq BA 0),(3,pq BB 0)]
def zAG:Alt:=⟨Unit,(zKG spX),fun t=>yDZ BA BB q1 l1 c1 BD BC,fun t=>[],fun t Z=>Q Z⟩
def yEA (BA BB:Nat) (q1:oA) (l1 c1 BD BC:Nat):lNa:=[(2,pq BA 0),(3,pq BB 0),(4,.slice q1 l1 c1),(6,pq BC 0)]
def zAH:Alt:=⟨Unit,(.exit 0),fun t=>yEA BA BB q1 l1 c1 BD BC,fun t=>[],fun t Z=>Q Z⟩
def zVG:Prop:=yRM Pg yYB 61 (zLP BA BB q1 l1 c1 BD BC bp) [] [zGI BA BB q1 l1 c1 BD BC Nx,zAG BA BB q1 l1 c1 BD BC Qd,zAH BA BB q1 l1 c1 BD BC Q0] Z
def yYC:Prop:=yRG Pg yYB 61 (zLP BA BB q1 l1 c1 BD BC bp) [] [zAG BA BB q1 l1 c1 BD BC Qd,zAH BA BB q1 l1 c1 BD BC Q0] Z
def yEB:Prop:=∀ g:Nat->Value,∃ an,Hid (zVB Pg (dj 27) [1,1,1,1,1,1,0,1,0] (xWK Pg 27 (.func (.func 50) ⟨[]⟩ ⟨[pq BA 0,pq BB 0]⟩) q2) (zKG spX) ⟨Fm 61 (ov (yDZ BA BB q1 l1 c1 BD BC) g),[]⟩ Z an)
def zGJ:Prop:=∀ g:Nat->Value,∃ an,Hid (zVB Pg (dj 27) [1,1,1,1,1,1,0,1,0] (xWK Pg 27 (.func (.func 50) ⟨[]⟩ ⟨[pq BA 0,pq BB 0]⟩) q2) (.exit 0) ⟨Fm 61 (ov (yEA BA BB q1 l1 c1 BD BC) g),[]⟩ Z an)
end
variable {BA BB l1 c1 BD BC bT bU lF cJ lV cT:Nat} {q1 piece qK qT:oA} {Inv:Nat->Int->St->Prop} {Qd Q0 Pd P0:St->Prop} {bp nA n3 n5 n6 n7 n8 n9 n10 nBZ nW nS nT nX nY nU nBC nCC nOB nPB zA nQB nRB nSB nTB nUB nVB nWB nXB nBJ nBK nDC nEC nFC nBL nBa nBb nBc nBd nBe nBf nBg nBh nBi nBj nBk:Int} {ZD ZB Z ZPB Z2 Z4 Z3 ZT ZJ ZA ZG ZH ZQB ZEB ZRB ZFB ZSB ZTB ZGB:St} {Nx:Int->St->Prop} {Q:vPa} {b11 bA bB bC bD bE:Bool}
theorem ySV (hb:∀ k bp Z,Inv k bp Z->zVG BA BB q1 l1 c1 BD BC bp Z (fun i20_1' Z'=>∃ k',k' < k/\Inv k' i20_1' Z') Qd Q0):∀ k bp Z,Inv k bp Z->yYC BA BB q1 l1 c1 BD BC bp Z Qd Q0 :=
 fun k bp Z h=>zSJ (alts:=[zAG BA BB q1 l1 c1 BD BC Qd,zAH BA BB q1 l1 c1 BD BC Q0]) (T:=Int) (lf:=fun t=>zLP BA BB q1 l1 c1 BD BC t) (mf:=fun t=>[]) (Inv:=fun k t Z=>Inv k t Z) (ai (yVI spX) (ai (vN 0) trivial)) (fun k t Z h=>hb k t Z h) k bp Z h
theorem xIG (h1:dh 53 [pq BD 0] Z (iV nA) ZD) (h2:di (evL [pq BC (0+Int.toNat bp*1),iV nA]) ZD (.store 3 (.tmp 0) (.tmp 1))=some (undef,ZB)) (nx:Nx (bp+1) ZB) (u1:bp<6:=by omega) (u2:0<=bp/\bp<6:=by omega) (u3:I6a (bp+1):=by omega):zVG BA BB q1 l1 c1 BD BC bp Z Nx Qd Q0 :=
 vP [.b true,.g,.g,.g,.g,.c (iV nA) ZD,.i,.e undef ZB,.n (bp+1),.g,.fin (zGI BA BB q1 l1 c1 BD BC Nx) (bp+1)] (fun g=>kc (by kernel_rfl) (ai (zU u1) (ai h1 (ai u2 (ai h2 (ai (vS (n:=bp+1) u3.1 u3.2) (fin (alts:=[zGI BA BB q1 l1 c1 BD BC Nx,zAG BA BB q1 l1 c1 BD BC Qd,zAH BA BB q1 l1 c1 BD BC Q0]) (zGI BA BB q1 l1 c1 BD BC Nx) (bp+1) nx in0)))))))
theorem xIF (h1:zBX Pg 53 [pq BD 0] Z (.iface 119 (de [])) ZPB) (nx:Qd ZPB) (u1:bp<6:=by omega):zVG BA BB q1 l1 c1 BD BC bp Z Nx Qd Q0 :=
 vP [.b true,.g,.g,.die,.g,.g,.dx (.iface 119 (de [])) ZPB,.fin (zAG BA BB q1 l1 c1 BD BC Qd) ()] (fun g=>kc (by kernel_rfl) (ai (zU u1) (ai h1 (fin (alts:=[zGI BA BB q1 l1 c1 BD BC Nx,zAG BA BB q1 l1 c1 BD BC Qd,zAH BA BB q1 l1 c1 BD BC Q0]) (zAG BA BB q1 l1 c1 BD BC Qd) () nx (inS in0)))))
theorem xIE (nx:Q0 Z) (u1:¬ bp<6:=by omega):zVG BA BB q1 l1 c1 BD BC bp Z Nx Qd Q0 :=
 vP [.b false,.fin (zAH BA BB q1 l1 c1 BD BC Q0) ()] (fun g=>kc (by kernel_rfl) (ai (zY u1) (fin (alts:=[zGI BA BB q1 l1 c1 BD BC Nx,zAG BA BB q1 l1 c1 BD BC Qd,zAH BA BB q1 l1 c1 BD BC Q0]) (zAH BA BB q1 l1 c1 BD BC Q0) () nx (inS (inS in0)))))
theorem xPL (h1:dh 51 [.slice piece bT bU] ((Z.row (rcd 0 0 0 0 0 0) 6).row [.bool false] 1) (.slice q1 l1 c1) Z2) (h2:dh 52 [pq Z2.y 0] (Z2.row [.slice q1 l1 c1] 1) (.int .u8 n3) Z4) (hL:yYC Z.y (Z.y+1) q1 l1 c1 Z2.y Z4.y 0 (Z4.row (zBP 0 0 0 0 0 0) 1) Pd P0) (kd:∀ Z',Pd Z'->yEB Z.y (Z.y+1) q1 l1 c1 Z2.y Z4.y Z' Q) (k0:∀ Z',P0 Z'->zGJ Z.y (Z.y+1) q1 l1 c1 Z2.y Z4.y Z' Q):dq 27 [.slice piece bT bU] Z Q :=
 zWQ [.g,.g,.g,.g,.c (.slice q1 l1 c1) Z2,.g,.g,.g,.g,.g,.g,.g,.g,.g,.c (.int .u8 n3) Z4,.g,.g,.lf 61 (zLP Z.y (Z.y+1) q1 l1 c1 Z2.y Z4.y 0) [zAG Z.y (Z.y+1) q1 l1 c1 Z2.y Z4.y Pd,zAH Z.y (Z.y+1) q1 l1 c1 Z2.y Z4.y P0]] (kc (by kernel_rfl) (ai h1 (ai h2 (ai (ai tt (ai (arf (zLP Z.y (Z.y+1) q1 l1 c1 Z2.y Z4.y 0)) hL)) (ai (fun (t:Unit) (g':Nat->Value) (Z':St) (q:Pd Z')=>kd Z' q g') (ai (fun (t:Unit) (g':Nat->Value) (Z':St) (q:P0 Z')=>k0 Z' q g') trivial))))))
theorem xPK:let Y1:=Z2.row [.slice q1 l1 c1] 1;∀ (h1:dh 51 [.slice piece bT bU] ((Z.row (rcd 0 0 0 0 0 0) 6).row [.bool false] 1) (.slice q1 l1 c1) Z2) (h2:zBX Pg 52 [pq Z2.y 0] Y1 (.iface 119 (de [])) Y1) (h3:di (evL [pq Z.y 0,de (rcd 0 0 0 0 0 0)]) ((Y1.row [] 0).own (Z2.y+1) [] 0) (.store 64 (.tmp 0) (.tmp 1))=some (undef,Z3)) (h4:di (evL [pq ((Z.y+1)) 0,.bool false]) Z3 (.store 4 (.tmp 0) (.tmp 1))=some (undef,Z4)) (h5:dg Z4 64 (dc Z.y 0) (de (rcd n5 n6 n7 n8 n9 n10))) (h6:dg Z4 4 ⟨(Z.y+1),0,none⟩ (.bool b11)) (nx:Q (.tuple ⟨[de (rcd n5 n6 n7 n8 n9 n10),.bool b11]⟩) Z4),dq 27 [.slice piece bT bU] Z Q:=
 fun h1 h2 h3 h4 h5 h6 nx=>zWQ [.g,.g,.g,.g,.c (.slice q1 l1 c1) Z2,.g,.g,.g,.g,.g,.g,.die,.g,.g,.g,.dx (.iface 119 (de [])) (Z2.row [.slice q1 l1 c1] 1),.g,.g,.g,.g,.g,.g,.g,.g,.e undef (((Z2.row [.slice q1 l1 c1] 1).row [] 0).own (Z2.y+1) [] 0),.g,.g,.g,.g,.e undef Z3,.e undef Z4,.l (de (rcd n5 n6 n7 n8 n9 n10)),.l (.bool b11)] (kc (by kernel_rfl) (ai h1 (ai h2 (ai ((zI _ _ _).store (vs:=[]) rfl zLJ rfl (by first | (simp;done) | (simp;omega)) rfl:di (evL [pq ((Z2.y+1)) 0,de []]) ((Z2.row [.slice q1 l1 c1] 1).row [] 0) (.store 119 (.tmp 0) (.tmp 1))=some (undef,(((Z2.row [.slice q1 l1 c1] 1).row [] 0).own (Z2.y+1) [] 0))) (ai h3 (ai h4 (ai h5 (ai h6 nx))))))))
theorem xPJ:let Y1:=Z.row (rcd 0 0 0 0 0 0) 6;let Y2:=Y1.row [.bool false] 1;∀ (h1:zBX Pg 51 [.slice piece bT bU] Y2 (.iface 119 (de [])) Y2) (nx:Q (.tuple ⟨[de (rcd 0 0 0 0 0 0),.bool false]⟩) ((((Y2.row [] 0).own (Z.y+2) [] 0).own Z.y (rcd 0 0 0 0 0 0) 6).own (Z.y+1) [.bool false] 1)),dq 27 [.slice piece bT bU] Z Q:=
 fun h1 nx=>zWQ [.g,.g,.g,.die,.g,.dx (.iface 119 (de [])) ((Z.row (rcd 0 0 0 0 0 0) 6).row [.bool false] 1),.g,.g,.g,.g,.g,.g,.g,.g,.e undef ((((Z.row (rcd 0 0 0 0 0 0) 6).row [.bool false] 1).row [] 0).own (Z.y+2) [] 0),.g,.g,.g,.g,.e undef (((((Z.row (rcd 0 0 0 0 0 0) 6).row [.bool false] 1).row [] 0).own (Z.y+2) [] 0).own Z.y (rcd 0 0 0 0 0 0) 6),.e undef ((((((Z.row (rcd 0 0 0 0 0 0) 6).row [.bool false] 1).row [] 0).own (Z.y+2) [] 0).own Z.y (rcd 0 0 0 0 0 0) 6).own (Z.y+1) [.bool false] 1),.l (de (rcd 0 0 0 0 0 0)),.l (.bool false)] (kc (by kernel_rfl) (ai h1 (ai ((zI _ _ _).store (vs:=[]) rfl zLJ rfl (by first | (simp;done) | (simp;omega)) rfl:di (evL [pq ((Z.y+2)) 0,de []]) (((Z.row (rcd 0 0 0 0 0 0) 6).row [.bool false] 1).row [] 0) (.store 119 (.tmp 0) (.tmp 1))=some (undef,((((Z.row (rcd 0 0 0 0 0 0) 6).row [.bool false] 1).row [] 0).own (Z.y+2) [] 0))) (ai (((zI _ _ _).row.row.own (by first | (simp;done) | (simp;omega))).store (vs:=(rcd 0 0 0 0 0 0)) rfl yP rfl (by first | (simp;done) | (simp;omega)) rfl:di (evL [pq Z.y 0,de (rcd 0 0 0 0 0 0)]) ((((Z.row (rcd 0 0 0 0 0 0) 6).row [.bool false] 1).row [] 0).own (Z.y+2) [] 0) (.store 64 (.tmp 0) (.tmp 1))=some (undef,(((((Z.row (rcd 0 0 0 0 0 0) 6).row [.bool false] 1).row [] 0).own (Z.y+2) [] 0).own Z.y (rcd 0 0 0 0 0 0) 6))) (ai ((((zI _ _ _).row.own (by first | (simp;done) | (simp;omega))).own (by first | (simp;done) | (simp;omega))).store (vs:=[.bool false]) rfl xHJ rfl (by first | (simp;done) | (simp;omega)) rfl:di (evL [pq ((Z.y+1)) 0,.bool false]) (((((Z.row (rcd 0 0 0 0 0 0) 6).row [.bool false] 1).row [] 0).own (Z.y+2) [] 0).own Z.y (rcd 0 0 0 0 0 0) 6) (.store 4 (.tmp 0) (.tmp 1))=some (undef,((((((Z.row (rcd 0 0 0 0 0 0) 6).row [.bool false] 1).row [] 0).own (Z.y+2) [] 0).own Z.y (rcd 0 0 0 0 0 0) 6).own (Z.y+1) [.bool false] 1))) (ai ((((zI _ _ _).row.row.own (by first | (simp;done) | (simp;omega))).put.own (by first | (simp;done) | (simp;omega))).rw.ldN uM yP (k:=0) rfl rfl (by first | (simp;done) | (simp;omega)):dg ((((((Z.row (rcd 0 0 0 0 0 0) 6).row [.bool false] 1).row [] 0).own (Z.y+2) [] 0).own Z.y (rcd 0 0 0 0 0 0) 6).own (Z.y+1) [.bool false] 1) 64 (dc Z.y 0) (de (rcd 0 0 0 0 0 0))) (ai ((((zI _ _ _).row.own (by first | (simp;done) | (simp;omega))).own (by first | (simp;done) | (simp;omega))).put.rw.ld xVL (k:=0) rfl:dg ((((((Z.row (rcd 0 0 0 0 0 0) 6).row [.bool false] 1).row [] 0).own (Z.y+2) [] 0).own Z.y (rcd 0 0 0 0 0 0) 6).own (Z.y+1) [.bool false] 1) 4 ⟨(Z.y+1),0,none⟩ (.bool false)) nx)))))))
theorem ySQ (h1:di (evL [pq BA 0,de (rcd 0 0 0 0 0 0)]) ((Z.row [] 0).own Z.y [] 0) (.store 64 (.tmp 0) (.tmp 1))=some (undef,ZT)) (h2:di (evL [pq BB 0,.bool false]) ZT (.store 4 (.tmp 0) (.tmp 1))=some (undef,ZJ)) (h3:dg ZJ 64 (dc BA 0) (de (rcd nBZ nW nS nT nX nY))) (h4:dg ZJ 4 (dc BB 0) (.bool bA)) (nx:Q (.tuple ⟨[de (rcd nBZ nW nS nT nX nY),.bool bA]⟩) ZJ):yEB BA BB q1 l1 c1 BD BC Z Q :=
 fun g=>⟨[.g,.g,.g,.g,.g,.g,.g,.g,.e undef ((Z.row [] 0).own Z.y [] 0),.g,.g,.g,.g,.e undef ZT,.e undef ZJ,.l (de (rcd nBZ nW nS nT nX nY)),.l (.bool bA)],kc (by kernel_rfl) (ai ((zI _ _ _).store (vs:=[]) rfl zLJ rfl (by first | (simp;done) | (simp;omega)) rfl:di (evL [pq Z.y 0,de []]) (Z.row [] 0) (.store 119 (.tmp 0) (.tmp 1))=some (undef,((Z.row [] 0).own Z.y [] 0))) (ai h1 (ai h2 (ai h3 (ai h4 nx)))))⟩
@[reducible] def Ha5 (Z ZA ZG:St) (BC lF cJ BA:Nat) (nU nBC nCC nOB nPB zA nQB nRB nSB nTB nUB nVB nWB nXB:Int) (qK:oA):Prop:=zH Pg Z 3 ⟨BC,3,none⟩=some (iV nU)/\dh 56 [] Z (.slice qK lF cJ) ZA/\(dh 55 [iV nU,iV 0,iV (((lF:Nat):Int)-1)] ZA (.bool true) ZA)/\dh 54 [.bool true] ZA (.tuple ⟨[]⟩) ZA/\zX ZA.y [.slice qK lF cJ]/\((zLq ZA 3 ⟨BC,3,none⟩ (iV nU)))/\zH Pg ZA 3 ⟨BC,0,none⟩=some (iV nBC)/\zH Pg ZA 3 ⟨BC,1,none⟩=some (iV nCC)/\zH Pg ZA 3 ⟨BC,2,none⟩=some (iV nOB)/\zH Pg ZA 3 ⟨BC,3,none⟩=some (iV nPB)/\vV .u8 (nPB)=zA/\zH Pg ZA 3 ⟨BC,4,none⟩=some (iV nQB)/\zH Pg ZA 3 ⟨BC,5,none⟩=some (iV nRB)/\(di (evL [.pointer (some ⟨BA,0,none⟩),.agg ⟨rcd nBC nCC nOB zA nQB nRB⟩]) ZA (.store 64 (.tmp 0) (.tmp 1))=some (undef,ZG))/\zH Pg ZG 64 ⟨BA,0,none⟩=some (.agg ⟨rcd nSB nTB nUB nVB nWB nXB⟩)
theorem ySU (H:Ha5 Z ZA ZG BC lF cJ BA nU nBC nCC nOB nPB zA nQB nRB nSB nTB nUB nVB nWB nXB qK) (h16:dh 45 [de (rcd nSB nTB nUB nVB nWB nXB)] ZG (.bool true) ZG) (h17:dh 47 [de (rcd nSB nTB nUB nVB nWB nXB)] ZG (.slice qT lV cT) ZH) (h18:dh 57 [.slice qT lV cT,.slice q1 l1 c1] ZH (.bool true) ZH) (h19:dh 54 [.bool true] ZH (.tuple ⟨[]⟩) ZH) (h20:dg ZH 64 (dc BA 0) (de (rcd nBJ nBK nDC nEC nFC nBL))) (h21:di (evL [pq BA 0,de (rcd nBJ nBK nDC nEC nFC nBL)]) ZH (.store 64 (.tmp 0) (.tmp 1))=some (undef,ZQB)) (h22:di (evL [pq BB 0,.bool true]) ZQB (.store 4 (.tmp 0) (.tmp 1))=some (undef,ZEB)) (h23:dg ZEB 64 (dc BA 0) (de (rcd nBa nBb nBc nBd nBe nBf))) (h24:dg ZEB 4 (dc BB 0) (.bool bB)) (nx:Q (.tuple ⟨[de (rcd nBa nBb nBc nBd nBe nBf),.bool bB]⟩) ZEB) (u1:I6a ((lF:Int)-1):=by omega) (b_BC:BC<Z.y:=by omega):zGJ BA BB q1 l1 c1 BD BC Z Q :=
 match H with|⟨h1,h2,h3,h4,h5,h6,h7,h8,h9,h10,h11,h12,h13,h14,h15⟩=>fun g=>⟨[.i,.l (iV nU),.c (.slice qK lF cJ) ZA,.g,.n ((lF:Int)-1),.c (.bool true) ZA,.c (.tuple ⟨[]⟩) ZA,.i,.l (iV nBC),.i,.l (iV nCC),.i,.l (iV nOB),.i,.l (iV nPB),.n zA,.i,.l (iV nQB),.i,.l (iV nRB),.g,.e undef ZG,.l (de (rcd nSB nTB nUB nVB nWB nXB)),.g,.g,.g,.c (.bool true) ZG,.g,.l (de (rcd nSB nTB nUB nVB nWB nXB)),.c (.slice qT lV cT) ZH,.g,.c (.bool true) ZH,.g,.c (.tuple ⟨[]⟩) ZH,.l (de (rcd nBJ nBK nDC nEC nFC nBL)),.e undef ZQB,.e undef ZEB,.g,.g,.l (de (rcd nBa nBb nBc nBd nBe nBf)),.l (.bool bB)],kc (by kernel_rfl) (ai (⟨by decide,by decide⟩:uD 3 6) (ai h1 (ai h2 (ai (vS (n:=(lF:Int)-1) u1.1 u1.2) (ai h3 (ai h4 (ai ((zM (zV b_BC) zO):zX Z.y [pq BC 3]) (ai h5 (ai (⟨⟨b_BC,rfl⟩,h1⟩:(zLq Z 3 (dc BC 3) (iV nU))) (ai h6 (ai (⟨by decide,by decide⟩:uD 0 6) (ai h7 (ai (⟨by decide,by decide⟩:uD 1 6) (ai h8 (ai (⟨by decide,by decide⟩:uD 2 6) (ai h9 (ai (⟨by decide,by decide⟩:uD 3 6) (ai h10 (ai h11 (ai (⟨by decide,by decide⟩:uD 4 6) (ai h12 (ai (⟨by decide,by decide⟩:uD 5 6) (ai h13 (ai h14 (ai h15 (ai h16 (ai h15 (ai h17 (ai h18 (ai h19 (ai h20 (ai h21 (ai h22 (ai h23 (ai h24 nx)))))))))))))))))))))))))))))))))))⟩
theorem yST:let y0:=rcd nSB nTB nUB nVB nWB nXB;let y1:=(ZH.row [] 0).own ZH.y [] 0;let y2:=rcd nDC nEC nFC nBL nBg nBh;∀ (H:Ha5 Z ZA ZG BC lF cJ BA nU nBC nCC nOB nPB zA nQB nRB nSB nTB nUB nVB nWB nXB qK) (h16:dh 45 [de y0] ZG (.bool true) ZG) (h17:dh 47 [de y0] ZG (.slice qT lV cT) ZH) (h18:dh 57 [.slice qT lV cT,.slice q1 l1 c1] ZH (.bool false) ZH) (h19:zBX Pg 54 [.bool false] ZH (.iface 119 (de [])) ZH) (h20:di (evL [pq BA 0,de (rcd 0 0 0 0 0 0)]) y1 (.store 64 (.tmp 0) (.tmp 1))=some (undef,ZRB)) (h21:di (evL [pq BB 0,.bool false]) ZRB (.store 4 (.tmp 0) (.tmp 1))=some (undef,ZFB)) (h22:dg ZFB 64 (dc BA 0) (de y2)) (h23:dg ZFB 4 (dc BB 0) (.bool bC)) (nx:Q (.tuple ⟨[de y2,.bool bC]⟩) ZFB) (u1:I6a ((lF:Int)-1):=by omega) (b_BC:BC<Z.y:=by omega),zGJ BA BB q1 l1 c1 BD BC Z Q :=
 let y0:=rcd nSB nTB nUB nVB nWB nXB;let y1:=(ZH.row [] 0).own ZH.y [] 0;let y2:=rcd nDC nEC nFC nBL nBg nBh;fun H h16 h17 h18 h19 h20 h21 h22 h23 nx u1 b_BC=>match H with|⟨h1,h2,h3,h4,h5,h6,h7,h8,h9,h10,h11,h12,h13,h14,h15⟩=>fun g=>⟨[.i,.l (iV nU),.c (.slice qK lF cJ) ZA,.g,.n ((lF:Int)-1),.c (.bool true) ZA,.c (.tuple ⟨[]⟩) ZA,.i,.l (iV nBC),.i,.l (iV nCC),.i,.l (iV nOB),.i,.l (iV nPB),.n zA,.i,.l (iV nQB),.i,.l (iV nRB),.g,.e undef ZG,.l (de y0),.g,.g,.die,.g,.c (.bool true) ZG,.g,.l (de y0),.c (.slice qT lV cT) ZH,.g,.c (.bool false) ZH,.g,.dx (.iface 119 (de [])) ZH,.g,.g,.g,.g,.g,.g,.g,.g,.e undef y1,.g,.g,.g,.g,.e undef ZRB,.e undef ZFB,.l (de y2),.l (.bool bC)],kc (by kernel_rfl) (ai (⟨by decide,by decide⟩:uD 3 6) (ai h1 (ai h2 (ai (vS (n:=(lF:Int)-1) u1.1 u1.2) (ai h3 (ai h4 (ai ((zM (zV b_BC) zO):zX Z.y [pq BC 3]) (ai h5 (ai (⟨⟨b_BC,rfl⟩,h1⟩:(zLq Z 3 (dc BC 3) (iV nU))) (ai h6 (ai (⟨by decide,by decide⟩:uD 0 6) (ai h7 (ai (⟨by decide,by decide⟩:uD 1 6) (ai h8 (ai (⟨by decide,by decide⟩:uD 2 6) (ai h9 (ai (⟨by decide,by decide⟩:uD 3 6) (ai h10 (ai h11 (ai (⟨by decide,by decide⟩:uD 4 6) (ai h12 (ai (⟨by decide,by decide⟩:uD 5 6) (ai h13 (ai h14 (ai h15 (ai h16 (ai h15 (ai h17 (ai h18 (ai h19 (ai ((zI _ _ _).store (vs:=[]) rfl zLJ rfl (by first | (simp;done) | (simp;omega)) rfl:di (evL [pq ZH.y 0,de []]) (ZH.row [] 0) (.store 119 (.tmp 0) (.tmp 1))=some (undef,y1)) (ai h20 (ai h21 (ai h22 (ai h23 nx)))))))))))))))))))))))))))))))))))⟩
theorem ySS (H:Ha5 Z ZA ZG BC lF cJ BA nU nBC nCC nOB nPB zA nQB nRB nSB nTB nUB nVB nWB nXB qK) (h16:dh 45 [de (rcd nSB nTB nUB nVB nWB nXB)] ZG (.bool false) ZG) (h17:zBX Pg 54 [.bool false] ZG (.iface 119 (de [])) ZG) (h18:di (evL [pq BA 0,de (rcd 0 0 0 0 0 0)]) ((ZG.row [] 0).own ZG.y [] 0) (.store 64 (.tmp 0) (.tmp 1))=some (undef,ZSB)) (h19:di (evL [pq BB 0,.bool false]) ZSB (.store 4 (.tmp 0) (.tmp 1))=some (undef,ZH)) (h20:dg ZH 64 (dc BA 0) (de (rcd nBi nBJ nBK nDC nEC nFC))) (h21:dg ZH 4 (dc BB 0) (.bool bD)) (nx:Q (.tuple ⟨[de (rcd nBi nBJ nBK nDC nEC nFC),.bool bD]⟩) ZH) (u1:I6a ((lF:Int)-1):=by omega) (b_BC:BC<Z.y:=by omega):zGJ BA BB q1 l1 c1 BD BC Z Q :=
 match H with|⟨h1,h2,h3,h4,h5,h6,h7,h8,h9,h10,h11,h12,h13,h14,h15⟩=>fun g=>⟨[.i,.l (iV nU),.c (.slice qK lF cJ) ZA,.g,.n ((lF:Int)-1),.c (.bool true) ZA,.c (.tuple ⟨[]⟩) ZA,.i,.l (iV nBC),.i,.l (iV nCC),.i,.l (iV nOB),.i,.l (iV nPB),.n zA,.i,.l (iV nQB),.i,.l (iV nRB),.g,.e undef ZG,.l (de (rcd nSB nTB nUB nVB nWB nXB)),.g,.g,.die,.g,.c (.bool false) ZG,.g,.g,.dx (.iface 119 (de [])) ZG,.g,.g,.g,.g,.g,.g,.g,.g,.e undef ((ZG.row [] 0).own ZG.y [] 0),.g,.g,.g,.g,.e undef ZSB,.e undef ZH,.l (de (rcd nBi nBJ nBK nDC nEC nFC)),.l (.bool bD)],kc (by kernel_rfl) (ai (⟨by decide,by decide⟩:uD 3 6) (ai h1 (ai h2 (ai (vS (n:=(lF:Int)-1) u1.1 u1.2) (ai h3 (ai h4 (ai ((zM (zV b_BC) zO):zX Z.y [pq BC 3]) (ai h5 (ai (⟨⟨b_BC,rfl⟩,h1⟩:(zLq Z 3 (dc BC 3) (iV nU))) (ai h6 (ai (⟨by decide,by decide⟩:uD 0 6) (ai h7 (ai (⟨by decide,by decide⟩:uD 1 6) (ai h8 (ai (⟨by decide,by decide⟩:uD 2 6) (ai h9 (ai (⟨by decide,by decide⟩:uD 3 6) (ai h10 (ai h11 (ai (⟨by decide,by decide⟩:uD 4 6) (ai h12 (ai (⟨by decide,by decide⟩:uD 5 6) (ai h13 (ai h14 (ai h15 (ai h16 (ai h17 (ai ((zI _ _ _).store (vs:=[]) rfl zLJ rfl (by first | (simp;done) | (simp;omega)) rfl:di (evL [pq ZG.y 0,de []]) (ZG.row [] 0) (.store 119 (.tmp 0) (.tmp 1))=some (undef,((ZG.row [] 0).own ZG.y [] 0))) (ai h18 (ai h19 (ai h20 (ai h21 nx))))))))))))))))))))))))))))))))⟩
theorem ySR (h1:dg Z 3 (dc BC 3) (iV nU)) (h2:dh 56 [] Z (.slice qK lF cJ) ZA) (h3:dh 55 [iV nU,iV 0,iV ((lF:Int)-1)] ZA (.bool false) ZA) (h4:zX ZA.y [.slice qK lF cJ]) (h5:(zLq ZA 3 (dc BC 3) (iV nU))) (h6:zBX Pg 54 [.bool false] ZA (.iface 119 (de [])) ZA) (h7:di (evL [pq BA 0,de (rcd 0 0 0 0 0 0)]) ((ZA.row [] 0).own ZA.y [] 0) (.store 64 (.tmp 0) (.tmp 1))=some (undef,ZTB)) (h8:di (evL [pq BB 0,.bool false]) ZTB (.store 4 (.tmp 0) (.tmp 1))=some (undef,ZGB)) (h9:dg ZGB 64 (dc BA 0) (de (rcd nOB nPB nBj nQB nRB nBk))) (h10:dg ZGB 4 (dc BB 0) (.bool bE)) (nx:Q (.tuple ⟨[de (rcd nOB nPB nBj nQB nRB nBk),.bool bE]⟩) ZGB) (u1:I6a ((lF:Int)-1):=by omega) (b_BC:BC<Z.y:=by omega):zGJ BA BB q1 l1 c1 BD BC Z Q :=
 fun g=>⟨[.die,.i,.l (iV nU),.c (.slice qK lF cJ) ZA,.g,.n ((lF:Int)-1),.c (.bool false) ZA,.dx (.iface 119 (de [])) ZA,.g,.g,.g,.g,.g,.g,.g,.g,.e undef ((ZA.row [] 0).own ZA.y [] 0),.g,.g,.g,.g,.e undef ZTB,.e undef ZGB,.l (de (rcd nOB nPB nBj nQB nRB nBk)),.l (.bool bE)],kc (by kernel_rfl) (ai (tt:true=true) (ai (⟨by decide,by decide⟩:uD 3 6) (ai h1 (ai h2 (ai (vS (n:=(lF:Int)-1) u1.1 u1.2) (ai h3 (ai ((zM (zV b_BC) zO):zX Z.y [pq BC 3]) (ai h4 (ai (⟨⟨b_BC,rfl⟩,h1⟩:(zLq Z 3 (dc BC 3) (iV nU))) (ai h5 (ai h6 (ai ((zI _ _ _).store (vs:=[]) rfl zLJ rfl (by first | (simp;done) | (simp;omega)) rfl:di (evL [pq ZA.y 0,de []]) (ZA.row [] 0) (.store 119 (.tmp 0) (.tmp 1))=some (undef,((ZA.row [] 0).own ZA.y [] 0))) (ai h7 (ai h8 (ai h9 (ai h10 nx))))))))))))))))⟩
end
abbrev zJD:Rec:=⟨0,0,0,0,0,0⟩
abbrev zUY (bs:List Int):Value:=.tuple ⟨[xT ((zDY bs).getD zJD),.bool (zDY bs).isSome]⟩
structure J (Z0 s:St) (n B3 B4:Nat) (q:Option Addr) (m d:Nat) (out r L:List Int):Prop where
 nw:New Z0 s
 o1:Own s n (xG zJD) 6
 o2:Own s (n+1) [.bool false] 1
 inp:InP s B3 r
 o4:Own s B4 (L.map zBA) 1
 bs:BS s q m d out
 eq:Z0.y=n
 l3:n+1<B3
 l4:B3<B4
 at_:∀ k,AtP q k->n+1<k/\k<B3
section
variable {Z0 s s':St} {n B3 B4 m d:Nat} {q:Option Addr} {out r r' L L':List Int}
theorem J.num (h:J Z0 s n B3 B4 q m d out r L) (k:Only (·=B3) s s') (i:InP s' B3 r'):J Z0 s' n B3 B4 q m d out r' L:=by
 have hl3:=h.l3;have hl4:=h.l4;have he:=h.eq;exact ⟨h.nw.of_only k fun b hb=>by have hb:b=B3:=hb;omega,k.own' h.o1 (fun e=>by have e:n=B3:=e;omega),k.own' h.o2 (fun e=>by have e:n+1=B3:=e;omega),i,k.own' h.o4 (fun e=>by have e:B4=B3:=e;omega),h.bs.only k (fun b hb e=>by have:=(h.at_ b hb).2;have e:b=B3:=e;omega),he,hl3,hl4,h.at_⟩
theorem J.set (h:J Z0 s n B3 B4 q m d out r L):J Z0 (s.own B4 (L'.map zBA) 1) n B3 B4 q m d out r L':=by
 have hl3:=h.l3;have hl4:=h.l4;have he:=h.eq;have k:Only (·=B4) s (s.own B4 (L'.map zBA) 1):=Only.own (.inr rfl);obtain ⟨p,l,c,o,b,hn⟩:=h.inp;exact ⟨h.nw.of_only k fun b hb=>by have hb:b=B4:=hb;omega,k.own' h.o1 (fun e=>by have e:n=B4:=e;omega),k.own' h.o2 (fun e=>by have e:n+1=B4:=e;omega),⟨p,l,c,k.own' o (fun e=>by have e:B3=B4:=e;omega),b.only k (fun j hj e=>by have:=hn j hj;have e:j=B4:=e;omega),hn⟩,h.o4.put,h.bs.only k (fun b hb e=>by have:=(h.at_ b hb).2;have e:b=B4:=e;omega),he,hl3,hl4,h.at_⟩
theorem J.le (h:J Z0 s n B3 B4 q m d out r L) (k:New s s'):J Z0 s' n B3 B4 q m d out r L :=
 ⟨h.nw.trans k,h.o1.le k.le,h.o2.le k.le,h.inp.le k.le,h.o4.le k.le,h.bs.le k.le,h.eq,h.l3,h.l4,h.at_⟩
theorem xDG {cs:List Value} {b:Bool} (hN:New Z0 s) (he:Z0.y=n) (hl:Z0.low=n) (o1:Own s n cs 6) (hc:cs.length=6) (o2:Own s (n+1) [.bool b] 1) :
  zN Pg (evL [.pointer (some ⟨n,0,none⟩),.agg ⟨rcd 0 0 0 0 0 0⟩]) ((s.row [] 0).own s.y [] 0) (.store 64 (.tmp 0) (.tmp 1))=some (undef,((s.row [] 0).own s.y [] 0).own n (xG zJD) 6) /\
  zN Pg (evL [.pointer (some ⟨n+1,0,none⟩),.bool false]) (((s.row [] 0).own s.y [] 0).own n (xG zJD) 6) (.store 4 (.tmp 0) (.tmp 1))=some (undef,(((s.row [] 0).own s.y [] 0).own n (xG zJD) 6).own (n+1) [.bool false] 1) /\
  zH Pg ((((s.row [] 0).own s.y [] 0).own n (xG zJD) 6).own (n+1) [.bool false] 1) 40 ⟨n,0,none⟩=some (.agg ⟨rcd 0 0 0 0 0 0⟩) /\
  zH Pg ((((s.row [] 0).own s.y [] 0).own n (xG zJD) 6).own (n+1) [.bool false] 1) 4 ⟨n+1,0,none⟩=some (.bool false) /\
  n<=((((s.row [] 0).own s.y [] 0).own n (xG zJD) 6).own (n+1) [.bool false] 1).low:=by
 have h1:=o1.lt;have h2:=o2.lt;have k1:Own ((s.row [] 0).own s.y [] 0) n cs 6:=(o1.row).own (by omega);have k2:Own ((s.row [] 0).own s.y [] 0) (n+1) [.bool b] 1:=(o2.row).own (by omega);have k3:Own (((s.row [] 0).own s.y [] 0).own n (xG zJD) 6) (n+1) [.bool b] 1:=k2.own (by omega);have k4:Own (((s.row [] 0).own s.y [] 0).own n (xG zJD) 6) n (xG zJD) 6:=k1.put;have hlow:n<=s.low:=hN.low n (by omega) (by omega);refine ⟨k1.store (vs:=xG zJD) rfl yP rfl (by simp [hc]) (by simp [hc]),k3.store (vs:=[.bool false]) rfl xHJ rfl (by simp) rfl,(k4.own (by omega)).rw.ldN uM yP (k:=0) rfl rfl (by simp),(k3.put).rw.ld xVL (k:=0) rfl, ?_⟩
 simp only [St.own_low,St.row_low];omega
end
section
variable {Z:St} {bs:List Int}
theorem xBK {k:Nat} {fs:List Int} {r r' t:List Int} {n:Int} {N:Nat} (h:zAY N t=(zAY (k+1) r).map fun p=>(fs++p.1,p.2)) (e:zGC r 0 1=some (n,r')):zAY N t=(zAY k r').map fun p=>((fs++[n])++p.1,p.2):=by
 have e2:zAY (k+1) r=(zAY k r').map fun p=>(n::p.1,p.2):=by rw [zAY,e]
 rw [h,e2];cases zAY k r' <;> simp
theorem zVN {b:Nat} (o:Own Z b xKC 1):zX Z.y [.slice (some ⟨b,0,none⟩) 3 3]:=zM (zBK o.lt) zO
theorem xTW {p:Option Addr} {l c:Nat} (h:BS Z p l c bs) (hb:Bts bs) (hl:l<=1073741823):zJ Pg 27 [.slice p l c] Z (zUY bs) Z:=by
 refine zL.pure (v:=zUY bs) ?_ rfl;have hN0:New Z.re ((Z.re.row (rcd 0 0 0 0 0 0) 6).row [.bool false] 1):=(New.row _ _ _).row';have o1:Own ((Z.re.row (rcd 0 0 0 0 0 0) 6).row [.bool false] 1) Z.y (xG zJD) 6:=(zI _ _ _).row;have o2:Own ((Z.re.row (rcd 0 0 0 0 0 0) 6).row [.bool false] 1) (Z.y+1) [.bool false] 1:=zI _ _ _;have hbl:=h.leng;rcases xPP ((h.le (le0 Z)).le hN0.le) hb hl with ⟨out,q,d,Z2,e1,k1,n1,b1,f1⟩ | ⟨e1,k1⟩;rotate_left
 ·refine xPJ k1 ⟨by simp [zUY,zDY,e1], ?_⟩;have:=(xDG hN0 rfl rfl o1 rfl o2).2.2.2.2;exact this
 have ho:=yTB _ _ (Nat.le_refl _) hb out e1;have N2:New Z.re Z2:=hN0.trans n1;have hn2:Z.y+2<=Z2.y:=n1.nx;have hN3:New Z.re (Z2.row [.slice q out.length d] 1):=N2.row';have n3:New Z2 (Z2.row [.slice q out.length d] 1):=New.row _ _ _;have i3:InP (Z2.row [.slice q out.length d] 1) Z2.y out:=⟨q,out.length,d,zI _ _ _,b1.le n3.le,fun k hk=>b1.lt k hk⟩;have p1:Own (Z2.row [.slice q out.length d] 1) Z.y (xG zJD) 6:=(o1.le n1.le).le n3.le;have p2:Own (Z2.row [.slice q out.length d] 1) (Z.y+1) [.bool false] 1:=(o2.le n1.le).le n3.le;cases out with
 | nil =>
  obtain ⟨g1,g2,g3,g4,g5⟩:=xDG hN3 rfl rfl p1 rfl p2;exact xPK k1 (yTR i3) g1 g2 g3 g4 ⟨by simp [zUY,zDY,e1,xHX],g5⟩
 | cons x t =>
  obtain ⟨Z4,k4,w4,_,i4⟩:=yIH i3;have hn4:Z2.y+1<=Z4.y:=w4.y;have n5:New Z4 (Z4.row (zBP 0 0 0 0 0 0) 1):=New.row _ _ _;have hat:∀ k,AtP q k->Z.y+1<k/\k<Z2.y:=fun k hk=>⟨by have:Z.y+2<=k:=f1 k hk;omega,b1.lt k hk⟩
  have N4:New Z.re Z4:=hN3.of_only w4 fun b hb=>by have hb:b=Z2.y:=hb;show Z.y<=b;omega
  have J0:J Z.re (Z4.row (zBP 0 0 0 0 0 0) 1) Z.y Z2.y Z4.y q (x::t).length d (x::t) t [0,0,0,0,0,0] :=
   ⟨N4.trans n5,(w4.own' p1 (fun e=>by have e:Z.y=Z2.y:=e;omega)).le n5.le,(w4.own' p2 (fun e=>by have e:Z.y+1=Z2.y:=e;omega)).le n5.le,i4.le n5.le,zI _ _ _,((b1.le n3.le).only w4 (fun b hb e=>by have:=(hat b hb).2;have e:b=Z2.y:=e;omega)).le n5.le,rfl,by omega,by omega,hat⟩
  refine xPL k1 k4 (Pd:=fun s=>zDY bs=none/\New Z.re s/\Own s Z.y (xG zJD) 6/\Own s (Z.y+1) [.bool false] 1)
   (P0:=fun s=>∃ fs r,fs.length=6/\zAY 6 t=some (fs,r)/\J Z.re s Z.y Z2.y Z4.y q (x::t).length d (x::t) r fs)
   (ySV (Inv:=fun k i s=>∃ (j:Nat) (fs r:List Int),i=(j:Int)/\j+k=6/\fs.length=j/\Bts r/\(zAY 6 t=(zAY (6-j) r).map fun p=>(fs++p.1,p.2))/\J Z.re s Z.y Z2.y Z4.y q (x::t).length d (x::t) r (fs++List.replicate (6-j) 0)) ?_ 6 0 _ ⟨0,[],t,rfl,rfl,rfl,ho.tl,by cases zAY 6 t <;> rfl,J0⟩) ?_ ?_
  ·rintro k i s ⟨j,fs,r,rfl,hk,hf,hr,hnum,hJ⟩;by_cases hj:j<6;rotate_left
   ·have:j=6:=by omega
    subst this;exact xIE ⟨fs,r,hf,by rw [hnum];simp [zAY],by simpa using hJ⟩ (by omega)
   have e6:6-j=(6-(j+1))+1:=by omega
   rw [e6] at hnum hJ;rcases xTR hJ.inp hr with ⟨n,r',s',g1,g2,g3,g4⟩ | ⟨s',g1,g2,g3⟩
   ·have hJ':=hJ.num g3 g4;have hlen:(List.map zBA (fs++List.replicate (6-(j+1)+1) 0)).length=6:=by simp [hf];omega
    have hset:(List.map zBA (fs++List.replicate (6-(j+1)+1) 0)).take (0+Int.toNat (j:Int)*1)++([zBA n]++(List.map zBA (fs++List.replicate (6-(j+1)+1) 0)).drop (0+Int.toNat (j:Int)*1+1))=List.map zBA ((fs++[n])++List.replicate (6-(j+1)) 0):=by
     rw [show 0+Int.toNat (j:Int)*1=fs.length by simp [hf]];rw [List.map_append,List.take_left' (by simp),List.drop_append];simp [List.replicate_succ]
    have st:=hJ'.o4.store (k:=0+Int.toNat (j:Int)*1) (t:=3) (v:=zBA n) (vs:=[zBA n]) rfl zPA rfl (by rw [hlen];simp;omega) hset;exact xIG g2 st ⟨k-1,by omega,j+1,fs++[n],r',by omega,by omega,by simp [hf],yLS hr n r' g1,xBK hnum g1,hJ'.set⟩ (by omega) (by omega) (by omega)
   ·refine xIF g2 ⟨?_, ?_⟩ (by omega)
    ·have e2:zAY (6-(j+1)+1) r=none:=by rw [zAY,g1]
     rw [e2] at hnum;simp [zDY,e1,xHX,hnum]
    ·have he:=hJ.l3;exact ⟨hJ.nw.of_only g3 fun b hb=>by have hb:b=Z2.y:=hb;show Z.y<=b;omega,g3.own' hJ.o1 (fun e=>by have e:Z.y=Z2.y:=e;omega),g3.own' hJ.o2 (fun e=>by have e:Z.y+1=Z2.y:=e;omega)⟩
  ·rintro s ⟨hn,hN,p1,p2⟩;obtain ⟨g1,g2,g3,g4,g5⟩:=xDG hN rfl rfl p1 rfl p2;exact ySQ g1 g2 g3 g4 ⟨by simp [zUY,hn],g5⟩
  ·rintro s ⟨fs,r,hf,hnum,hJ⟩;match fs,hf with
   | [a,b,c',d',e,f],_ =>
   have hrec:zDY bs=zTV (x::t) [a,b,c',d',e,f]:=by simp [zDY,e1,xHX,hnum]
   obtain ⟨kb,s5,k5,n5,o5⟩:=yIR (Z:=s);have J5:=hJ.le n5;have ld:∀ (k:Nat) (v:Int),[a,b,c',d',e,f][k]?=some v->zH Pg s5 3 ⟨Z4.y,k,none⟩=some (iV v):=fun k v hv=>J5.o4.rw.ld zT (k:=k) (by simp only [List.getElem?_map,hv];rfl)
   have kw:=xM (Z:=s5) (n:=d') (lo:=0) (hi:=((3:Nat):Int)-1);by_cases hd:0<=d'/\d'<=2;rotate_left
   ·have hno:zDY bs=none:=by rw [hrec,zTV,if_neg (fun h=>hd h.1)]
    rw [show inB d' 0 (((3:Nat):Int)-1)=false from xCJ.2 (by omega)] at kw;obtain ⟨g1,g2,g3,g4,g5⟩:=xDG J5.nw rfl rfl J5.o1 rfl J5.o2;exact ySR (hJ.o4.rw.ld zT (k:=3) rfl) k5 kw (zVN o5) ⟨⟨J5.o4.lt,rfl⟩,ld 3 d' rfl⟩ yAP g1 g2 g3 g4 ⟨by simp [zUY,hno],g5⟩ (by omega) hJ.o4.lt
   rw [show inB d' 0 (((3:Nat):Int)-1)=true from wD.2 (by omega)] at kw;have hd8:vV .u8 d'=d':=by rw [zVS];omega
   have q1:Own (s5.own Z.y (xG ⟨a,b,c',d',e,f⟩) 6) Z.y (xG ⟨a,b,c',d',e,f⟩) 6:=J5.o1.put;have st1:=J5.o1.store (t:=64) (v:=xT ⟨a,b,c',d',e,f⟩) (vs:=xG ⟨a,b,c',d',e,f⟩) (k:=0) rfl yP rfl (by simp) (ds:=xG ⟨a,b,c',d',e,f⟩) rfl;have w6:Only (·=Z.y) s5 (s5.own Z.y (xG ⟨a,b,c',d',e,f⟩) 6):=Only.own (.inr rfl);have N6:New Z.re (s5.own Z.y (xG ⟨a,b,c',d',e,f⟩) 6):=J5.nw.own (Nat.le_refl _);have q2:Own (s5.own Z.y (xG ⟨a,b,c',d',e,f⟩) 6) (Z.y+1) [.bool false] 1:=J5.o2.own (by omega);have b6:=J5.bs.only w6 (fun k hk e=>by have:=(hat k hk).1;have e:k=Z.y:=e;omega);have ld6:zH Pg (s5.own Z.y (xG ⟨a,b,c',d',e,f⟩) 6) 64 ⟨Z.y,0,none⟩=some (xT ⟨a,b,c',d',e,f⟩):=q1.rw.ldN uM yP (k:=0) rfl rfl (by simp);have kv:=yXF (Z:=s5.own Z.y (xG ⟨a,b,c',d',e,f⟩) 6) (x:=⟨a,b,c',d',e,f⟩) ⟨hd.1,by show d'<=255;omega⟩;have hl6:Own (s5.own Z.y (xG ⟨a,b,c',d',e,f⟩) 6) Z4.y (List.map zBA [a,b,c',d',e,f]) 1:=J5.o4.own (by have:=hJ.l3;have:=hJ.l4;omega);have guard:((⟨Z4.y,3,none⟩:Addr).block<s5.y/\yB RD (iV d')=true)/\zH Pg s5 3 ⟨Z4.y,3,none⟩=some (iV d'):=⟨⟨J5.o4.lt,rfl⟩,ld 3 d' rfl⟩;by_cases hr:yQ ⟨a,b,c',d',e,f⟩=true;rotate_left
   ·have hr':yQ ⟨a,b,c',d',e,f⟩=false:=by simpa using hr
    have hno:zDY bs=none:=by rw [hrec,zTV,if_neg (fun h=>hr h.2.1)]
    rw [hr'] at kv;obtain ⟨g1,g2,g3,g4,g5⟩:=xDG N6 rfl rfl q1 rfl q2;exact ySS ⟨(hJ.o4.rw.ld zT (k:=3) rfl),k5,kw,zMT,(zVN o5),guard,(ld 0 a rfl),(ld 1 b rfl),(ld 2 c' rfl),(ld 3 d' rfl),hd8,(ld 4 e rfl),(ld 5 f rfl),st1,ld6⟩ kv yAP g1 g2 g3 g4 ⟨by simp [zUY,hno],g5⟩ (by omega) hJ.o4.lt
   rw [hr] at kv;obtain ⟨q7,c7,s7,k7,n7,b7,f7⟩:=yGA (Z:=s5.own Z.y (xG ⟨a,b,c',d',e,f⟩) 6) hr;have N7:=N6.trans n7;have r1:=q1.le n7.le;have r2:=q2.le n7.le;have keq:=xXA (c:=c7) (d:=d) b7 (b6.le n7.le).bt zUO ho;by_cases he:yI ⟨a,b,c',d',e,f⟩=x::t;rotate_left
   ·have hno:zDY bs=none:=by rw [hrec,zTV,if_neg (fun h=>he h.2.2)]
    rw [decide_eq_false he] at keq;obtain ⟨g1,g2,g3,g4,g5⟩:=xDG N7 rfl rfl r1 rfl r2;exact yST ⟨(hJ.o4.rw.ld zT (k:=3) rfl),k5,kw,zMT,(zVN o5),guard,(ld 0 a rfl),(ld 1 b rfl),(ld 2 c' rfl),(ld 3 d' rfl),hd8,(ld 4 e rfl),(ld 5 f rfl),st1,ld6⟩ kv k7 keq yAP g1 g2 g3 g4 ⟨by simp [zUY,hno],g5⟩ (by omega) hJ.o4.lt
   rw [decide_eq_true he] at keq;have hyes:zDY bs=some ⟨a,b,c',d',e,f⟩:=by rw [hrec,zTV,if_pos ⟨hd,hr,he⟩]
   have ld7:zH Pg s7 64 ⟨Z.y,0,none⟩=some (xT ⟨a,b,c',d',e,f⟩):=r1.rw.ldN uM yP (k:=0) rfl rfl (by simp);have st2:=r1.store (t:=64) (v:=xT ⟨a,b,c',d',e,f⟩) (vs:=xG ⟨a,b,c',d',e,f⟩) (k:=0) rfl yP rfl (by simp) (ds:=xG ⟨a,b,c',d',e,f⟩) rfl;have t1:Own (s7.own Z.y (xG ⟨a,b,c',d',e,f⟩) 6) Z.y (xG ⟨a,b,c',d',e,f⟩) 6:=r1.put;have t2:Own (s7.own Z.y (xG ⟨a,b,c',d',e,f⟩) 6) (Z.y+1) [.bool false] 1:=r2.own (by omega);have st3:=t2.store (t:=4) (v:=.bool true) (vs:=[.bool true]) (k:=0) rfl xHJ rfl (by simp) (ds:=[.bool true]) rfl;have hlow:Z.y<=s7.low:=N7.lw;refine ySU ⟨(hJ.o4.rw.ld zT (k:=3) rfl),k5,kw,zMT,(zVN o5),guard,(ld 0 a rfl),(ld 1 b rfl),(ld 2 c' rfl),(ld 3 d' rfl),hd8,(ld 4 e rfl),(ld 5 f rfl),st1,ld6⟩ kv k7 keq zMT ld7 st2 st3 ((t1.own (by omega)).rw.ldN uM yP (k:=0) rfl rfl (by simp)) ((t2.put).rw.ld xVL (k:=0) rfl) ⟨by simp [zUY,hyes], ?_⟩ (by omega) hJ.o4.lt;simp only [St.own_low];omega
end
section
variable {x:Rec}
theorem yXI {c:Int} (h:0<=c):Int.tmod c 128=c % 128:=Int.tmod_eq_emod_of_nonneg h
theorem zXE:∀ cs:List Int,xR (cs.flatMap zAL)=some cs
 | []=>rfl
 | c::cs=>by
  have ih:=zXE cs;rw [List.flatMap_cons];by_cases h6:c=126
  ·subst h6;rw [show zAL 126=[125,94] from rfl];show xR (125::94::cs.flatMap zAL)=_;rw [xR,if_pos rfl,if_pos rfl,ih];rfl
  ·by_cases h5:c=125
   ·subst h5;rw [show zAL 125=[125,93] from rfl];show xR (125::93::cs.flatMap zAL)=_;rw [xR,if_pos rfl,if_neg (by omega),if_pos rfl,ih];rfl
   ·rw [show zAL c=[c] by unfold zAL;rw [if_neg h6,if_neg h5]];show xR (c::cs.flatMap zAL)=_;rw [zXD h5,ih];rfl
theorem xBN:∀ (k:Nat) (m u:Int) (rest:List Int),0<=m->1<=u->m+k*u<268435456->zGC (zIC k++rest) m u=some (m+k*u,rest):=by
 intro k;induction k using Nat.strongRecOn with
 | _ k ih =>
  intro m u rest hm hu hk;by_cases hs:k<=127
  ·rw [zIB hs];show zGC ((k:Int)::rest) m u=_;rw [zGC,yXI (by omega),show (k:Int) % 128=k by omega,if_pos hk,if_pos (by omega)]
  ·rw [zPN (by omega)];have hd:(k:Int)=((k % 128:Nat):Int)+128*((k / 128:Nat):Int):=by omega
   have hp:0<=((k % 128:Nat):Int)*u:=Int.mul_nonneg (by omega) (by omega);have hq:(u*128:Int)<=((k / 128:Nat):Int)*(u*128):=by
    have:=Int.mul_le_mul_of_nonneg_right (a:=(1:Int)) (b:=((k / 128:Nat):Int)) (c:=u*128) (by omega) (by omega);omega
   have he:(k:Int)*u=((k % 128:Nat):Int)*u+((k / 128:Nat):Int)*(u*128):=by
    rw [hd,Int.add_mul];congr 1;rw [Int.mul_comm 128,Int.mul_assoc,Int.mul_comm 128]
   have hm2:∀ z:Int,z=((k % 128:Nat):Int)+128->Int.tmod z 128=((k % 128:Nat):Int):=by
    intro z hz;rw [yXI (by omega)];omega
   rw [List.cons_append,zGC,hm2 _ (by omega),if_pos (by omega),if_neg (by omega),if_pos (by omega),ih (k / 128) (by omega) _ _ rest (by omega) (by omega) (by omega)];congr 2;omega
theorem xBM {n:Int} {rest:List Int} (h0:0<=n) (h:n<268435456):zGC (zIA n++rest) 0 1=some (n,rest):=by
 unfold zIA;rw [xBN n.toNat 0 1 rest (by omega) (by omega) (by omega)];congr 2;omega
theorem yEJ:∀ (l:List Int) (rest:List Int),(∀ n∈l,0<=n/\n<268435456)->zAY l.length (l.flatMap zIA++rest)=some (l,rest)
 | [],rest,_=>rfl
 | n::l,rest,h=>by
  have hn:=h n List.mem_cons_self;rw [List.flatMap_cons,List.append_assoc];show (match zGC (zIA n++(l.flatMap zIA++rest)) 0 1 with | some (n,r')=>(zAY l.length r').map fun (p:List Int × List Int)=>(n::p.1,p.2) | none=>none)=_;rw [xBM hn.1 hn.2];show (zAY l.length (l.flatMap zIA++rest)).map (fun (p:List Int × List Int)=>(n::p.1,p.2))=_;rw [yEJ l rest fun n hn=>h n (List.mem_cons_of_mem _ hn)];rfl
theorem xUR (h:yQ x=true):∀ n∈vI x,0<=n/\n<=10000000:=fun n hn=>by
 have:=zBH h;simp [vI] at hn;omega
theorem yKQ (h:yQ x=true):0<=x.k/\x.k<=2:=by
 unfold yQ at h;simp only [Bool.and_eq_true] at h;have h:=h.2;split at h
 ·omega
 ·split at h
  ·omega
  ·split at h
   ·omega
   ·cases h
theorem xHW (h:yQ x=true):zDY ((yI x).flatMap zAL)=some x:=by
 have hn:=yEJ (vI x) [(chk (wA x)).1,(chk (wA x)).2] fun n hn=>by have:=xUR h n hn;omega
 unfold zDY;rw [zXE];show xHX (((zDU x).length:Int) % 256::(zDU x++[(chk (wA x)).1,(chk (wA x)).2]))=_;show (match zAY 6 ((vI x).flatMap zIA++[(chk (wA x)).1,(chk (wA x)).2]) with | some (l,_)=>zTV (yI x) l | none=>none)=_;rw [show (6:Nat)=(vI x).length from rfl,hn];show zTV (yI x) (vI x)=_;show (if (0<=x.k/\x.k<=2)/\yQ x=true/\yI x=yI x then some x else none)=_;rw [if_pos ⟨yKQ h,h,rfl⟩]
end
section
variable {a:Addr} {d:Nat}
def zBZ:List Int->Int
 | []=>-1
 | c::r=>if c=126 then 0 else if zBZ r=-1 then -1 else zBZ r+1
def yN:List Int->List (List Int)
 | []=>[[]]
 | c::r=>if c=126 then []::yN r else match yN r with
  | p::ps=>(c::p)::ps
  | []=>[[c]]
theorem yDI:∀ bs:List Int,yN bs≠[]
 | []=>by simp [yN]
 | c::r=>by
  unfold yN;split
  ·simp
  ·cases yN r <;> simp
theorem zMW:∀ bs:List Int,(yN bs).length=bs.count 126+1
 | []=>rfl
 | c::r=>by
  have ih:=zMW r;unfold yN;by_cases h:c=126
  ·subst h;rw [if_pos rfl];simp [ih]
  ·rw [if_neg h,List.count_cons_of_ne h,<- ih];cases hs:yN r with
   | nil=>exact absurd hs (yDI r)
   | cons p ps=>rfl
theorem zLW:∀ bs:List Int, -1<=zBZ bs
 | []=>by simp [zBZ]
 | c::r=>by
  have:=zLW r;unfold zBZ;split
  ·omega
  ·split <;> omega
theorem yIZ:∀ {bs:List Int},zBZ bs=-1->yN bs=[bs]/\bs.count 126=0
 | [],_=>⟨rfl,rfl⟩
 | c::r,h=>by
  unfold zBZ at h;split at h
  ·omega
  ·rename_i hc;have hg:=zLW r;have hr:zBZ r=-1:=by
    by_cases e:zBZ r=-1
    ·exact e
    ·rw [if_neg e] at h;omega
   obtain ⟨h1,h2⟩:=yIZ hr;refine ⟨?_,by rw [List.count_cons_of_ne hc,h2]⟩
   unfold yN;rw [if_neg hc,h1]
theorem zYL:∀ {bs:List Int} {m:Nat},zBZ bs=(m:Int)->m<bs.length/\yN bs=bs.take m::yN (bs.drop (m+1))/\bs.count 126=(bs.drop (m+1)).count 126+1
 | [],m,h=>by simp [zBZ] at h
 | c::r,m,h=>by
  unfold zBZ at h;split at h
  ·rename_i hc;have:m=0:=by omega
   subst this hc;refine ⟨by simp,by rw [yN,if_pos rfl];rfl,by simp⟩
  ·rename_i hc;split at h
   ·omega
   ·have hm:zBZ r=((m-1:Nat):Int):=by have:=zLW r;omega
    have hm1:1<=m:=by have:=zLW r;omega
    obtain ⟨h1,h2,h3⟩:=zYL hm;obtain ⟨k,rfl⟩:∃ k,m=k+1:=⟨m-1,by omega⟩;simp only [Nat.add_sub_cancel] at h1 h2 h3;refine ⟨by simp;omega, ?_,by rw [List.count_cons_of_ne hc];exact h3⟩
    rw [yN,if_neg hc,h2];rfl
theorem yLR {c:Int} (h:0<=c/\c<=255):(UInt8.ofNat c.toNat == ((126:Int).toNat.toUInt8))=decide (c=126):=by
 by_cases e:c=126
 ·subst e;rfl
 ·rw [decide_eq_false e,beq_eq_false_iff_ne];intro h2;exact e (yPR h (y:=126) (by omega) h2)
theorem yMT:∀ {bs:List Int},Bts bs->Lib.indexByte (zFY bs) ((126:Int).toNat.toUInt8)=zBZ bs
 | [],_=>rfl
 | c::r,h=>by
  have ih:=yMT h.tl;have hc:=yLR (h c List.mem_cons_self);show (if UInt8.ofNat c.toNat == _ then (0:Int) else if Lib.indexByte (zFY r) _ == -1 then -1 else Lib.indexByte (zFY r) _+1)=_;rw [hc,ih,show zBZ (c::r)=if c=126 then 0 else if zBZ r=-1 then -1 else zBZ r+1 from rfl];by_cases e:c=126
  ·simp [e]
  ·by_cases e2:zBZ r=-1 <;> simp [e,e2]
theorem yOZ:∀ {bs:List Int},Bts bs->(zFY bs).count ((126:Int).toNat.toUInt8)=bs.count 126
 | [],_=>rfl
 | c::r,h=>by
  have ih:=yOZ h.tl;have hc:=yLR (h c List.mem_cons_self);show (UInt8.ofNat c.toNat::zFY r).count _=_;rw [List.count_cons,ih,hc,List.count_cons];simp
section
variable {Z U:St} {bs:List Int} {p:Option Addr} {l c:Nat}
theorem yGJ (h:yV Z p l bs):zOC Z (.slice p l c)=some (zFY bs):=by
 have hl:=yV.len h;cases p with
 | none =>
  have h0:l=0:=h.1.2;subst h0;have:bs=[]:=List.eq_nil_of_length_eq_zero hl;subst this;rfl
 | some a =>
  have hr:=h.1.2;rw [zMM] at hr;have hrd:=hr.rd;rw [List.length_map,hl] at hrd;unfold zOC;simp only [hrd,zOD]
theorem xQQ:yCM Tryz.prog Z (.func 123) [.slice p l c,.int .u8 126]=(match zOC Z (.slice p l c) with
  | some bs=>some (goInt ((ByteArray.mk ⟨bs⟩).foldl (fun n x=>if x == (126:Int).toNat.toUInt8 then n+1 else n) (0:Nat)))
  | none=>none):=by kernel_rfl
theorem xQP:yCM Tryz.prog Z (.func 138) [.slice p l c,.int .u8 126]=(match zOC Z (.slice p l c) with
  | some bs=>(match (List.range (ByteArray.mk ⟨bs⟩).size).find? fun i=>(ByteArray.mk ⟨bs⟩)[i]! == (126:Int).toNat.toUInt8 with
   | some i=>some (goInt i)
   | none=>some (goInt (-1)))
  | none=>none):=by kernel_rfl
theorem xWZ (h:yV Z p l bs) (hb:Bts bs):yCM Tryz.prog Z (.func 123) [.slice p l c,.int .u8 126]=some (iV (bs.count 126:Nat)):=by
 rw [xQQ,yGJ h];show some (goInt _)=_;have k:=Lib.foldl_data (fun (n:Int) x=>if x == (126:Int).toNat.toUInt8 then n+1 else n) ((0:Nat):Int) (ByteArray.mk ⟨zFY bs⟩);rw [k,Lib.count_foldl];show some (Value.int .i64 (((0:Nat):Int)+((zFY bs).count _:Nat)))=_;rw [yOZ hb];simp
theorem xWL (h:yV Z p l bs) (hb:Bts bs):yCM Tryz.prog Z (.func 138) [.slice p l c,.int .u8 126]=some (iV (zBZ bs)):=by
 rw [xQP,yGJ h];have k:=Lib.firstIdx_eq (ByteArray.mk ⟨zFY bs⟩) ((126:Int).toNat.toUInt8);have k2:Lib.indexByte (ByteArray.mk ⟨zFY bs⟩).data.toList ((126:Int).toNat.toUInt8)=zBZ bs:=yMT hb;rw [k2] at k;unfold firstIdx at k;simp only;split at k
 ·rename_i i hi;simp only [hi];rw [<- k];rfl
 ·rename_i hi;simp only [hi];rw [<- k];rfl
theorem xRW (h:yV Z p l bs) (hb:Bts bs):zJ Tryz.prog 124 [.slice p l c,.int .u8 126] Z (iV (zBZ bs)) Z :=
 (xMP ⟨xWL (SlV.le h (le0 Z)) hb,rfl⟩ ⟨rfl,Nat.le_refl _⟩).pure
theorem xVC (hs:Row Z a [byV 126]) (h:yV Z p l bs) (hb:Bts bs):zJ Tryz.prog 102 [.slice p l c,.slice (some a) 1 d] Z (iV (zBZ bs)) Z :=
 (xRV (hs.re.ld1 zGD) (xRW (SlV.le h (le0 Z)) hb) ⟨rfl,Nat.le_refl _⟩).pure
theorem xVF (hs:Row Z a [byV 126]) (h:yV Z p l bs) (hb:Bts bs):zJ Tryz.prog 101 [.slice p l c,.slice (some a) 1 d] Z (iV (bs.count 126:Nat)) Z :=
 (xRX (hs.re.ld1 zGD) ⟨xWZ (SlV.le h (le0 Z)) hb,rfl⟩ ⟨rfl,Nat.le_refl _⟩).pure
end
end
section
variable {a:Addr} {d:Nat}
theorem xPX {a b:Int} {Z:St}:xJ Pg (evL [iV a,iV b]) Z (.call { callee:=.builtin .min,args:=⟨wN 2⟩,argTypes:=⟨[3,3]⟩ })=some (iV (min a b)):=by
 have e:yJ Pg (Builtin.min_ ⟨[3,3]⟩ 0 ⟨[iV a,iV b]⟩)=some (iV (min a b)):=by
  rw [show min a b=if b<a then b else a by split <;> omega];simp only [Builtin.min_,List.foldlM,Builtin.min2];rfl
 have e2:xJ Pg (evL [iV a,iV b]) Z (.call { callee:=.builtin .min,args:=⟨wN 2⟩,argTypes:=⟨[3,3]⟩ }) =
   match ((yJ Pg (Builtin.min_ ⟨[3,3]⟩ 0 ⟨[iV a,iV b]⟩)).filter (zQ RD)) with | some v=>some v | none=>xV Pg (evL [iV a,iV b]) Z (.call { callee:=.builtin .min,args:=⟨wN 2⟩,argTypes:=⟨[3,3]⟩ }):=rfl
 rw [e2,e];rfl
def PcV (U:St) (p:Option Addr) (v:Value) (pc:List Int):Prop:=∃ q l c,v=.slice q l c/\BS U q l c pc/\∀ b,AtP q b->AtP p b
section
variable {Z U U':St} {bs:List Int} {p:Option Addr} {l c:Nat}
theorem PcV.le {v:Value} {pc:List Int} (h:PcV U p v pc) (k:Le U U'):PcV U' p v pc:=by
 obtain ⟨q,l,c,rfl,h1,h2⟩:=h;exact ⟨q,l,c,rfl,h1.le k,h2⟩
theorem PcV.only {S:Nat->Prop} {v:Value} {pc:List Int} (h:PcV U p v pc) (k:Only S U U') (hs:∀ b,AtP p b->¬ S b):PcV U' p v pc:=by
 obtain ⟨q,l,c,rfl,h1,h2⟩:=h;exact ⟨q,l,c,rfl,h1.only k fun b hb=>hs b (h2 b hb),h2⟩
def zTJ (U:St) (p:Option Addr) (vs:List Value) (pcs:List (List Int)):Prop:=∀ (i:Nat) (pc:List Int),pcs[i]?=some pc->∃ v,vs[i]?=some v/\PcV U p v pc
theorem zTJ.le {vs:List Value} {pcs:List (List Int)} (h:zTJ U p vs pcs) (k:Le U U'):zTJ U' p vs pcs:=fun i pc hi=>by
 obtain ⟨v,h1,h2⟩:=h i pc hi;exact ⟨v,h1,h2.le k⟩
theorem zTJ.set {S:Nat->Prop} {vs:List Value} {pcs:List (List Int)} {v:Value} {pc:List Int} (h:zTJ U p vs pcs) (k:Only S U U') (hs:∀ b,AtP p b->¬ S b) (hv:PcV U p v pc) (hl:pcs.length<vs.length):zTJ U' p (vs.set pcs.length v) (pcs++[pc]):=fun i x hi=>by
 rcases Nat.lt_trichotomy i pcs.length with e | e | e
 ·rw [List.getElem?_append_left e] at hi;obtain ⟨v',h1,h2⟩:=h i x hi;exact ⟨v',by rw [List.getElem?_set_ne (by omega)];exact h1,h2.only k hs⟩
 ·subst e;simp at hi;subst hi;exact ⟨v,by simp [hl],hv.only k hs⟩
 ·rw [List.getElem?_append_right (by omega)] at hi;have:i-pcs.length≠0:=by omega
  cases hj:i-pcs.length with
  | zero=>omega
  | succ j=>rw [hj] at hi;simp at hi
theorem yXS {vs:List Value} {j:Nat} {v:Value} (hj:j<vs.length):vs.take (0+Int.toNat (j:Int)*1)++([v]++vs.drop (0+Int.toNat (j:Int)*1+1))=vs.set j v:=by
 rw [show 0+Int.toNat (j:Int)*1=j by simp,List.set_eq_take_append_cons_drop,if_pos hj];rfl
theorem xQL (hs:Row Z a [byV 126]) (h:BS Z p l c bs) (hb:Bts bs) (hl:l<=1073741000) :
  ∃ B vs c' Z',zJ Pg 84 [.slice p l c,.slice (some a) 1 d,iV 0,iV (-1)] Z (.slice (some ⟨B,0,none⟩) (yN bs).length c') Z'/\New Z Z'/\Own Z' B vs 1/\vs.length=(yN bs).length/\zTJ Z' p vs (yN bs)/\Z.y<=B:=by
 have hbl:=h.leng;have hcl:bs.count 126<=bs.length:=List.count_le_length;have hsl:=zMW bs;have hpl:∀ b,AtP p b->b<Z.y:=h.lt;suffices hmain:zL Pg 84 [.slice p l c,.slice (some a) 1 d,iV 0,iV (-1)] Z.re fun v s=>New Z.re s/\∃ B vs c',v=.slice (some ⟨B,0,none⟩) (yN bs).length c'/\Own s B vs 1/\vs.length=(yN bs).length/\zTJ s p vs (yN bs)/\Z.y<=B by
  obtain ⟨v,Z',g1,g2,B,vs,c',rfl,g3,g4,g5,g6⟩:=zL.new hmain (by
   rintro v s s' ⟨B,vs,c',rfl,g3,g4,g5,g6⟩ hle;exact ⟨B,vs,c',rfl,g3.le hle,g4,g5.le hle,g6⟩) (by
   rintro v s hr ⟨B,vs,c',rfl,_⟩;exact Bool.noConfusion (show false=true from hr))
  exact ⟨B,vs,c',Z',g1,g2,g3,g4,g5,g6⟩
 have hmin:min (((bs.count 126:Nat):Int)+1) ((l:Nat)+1:Int)=((bs.count 126+1:Nat):Int):=by omega
 have see:=xPX (Z:=Z.re) (a:=((bs.count 126:Nat):Int)+1) (b:=((l:Nat):Int)+1);rw [hmin] at see;have mk:=yYZ (P:=Pg) (Z:=Z.re) (st:=115) (e:=49) (z:=.slice none 0 0) (n:=1) (by kernel_rfl) (by kernel_rfl) (len:=bs.count 126+1) (by omega);have hk:((bs.count 126+1:Nat):Int)-1=((bs.count 126:Nat):Int):=by omega
 let F:(Option Addr)->Nat->Nat->Nat->List (List Int)->List Int->St->Prop:=fun p0 l0 c0 j done rest s=>∃ vs,done.length=j/\BS s p0 l0 c0 rest/\Bts rest/\rest.length<=bs.length/\(∀ b,AtP p0 b->AtP p b)/\New Z.re s/\Own s Z.y vs 1/\vs.length=bs.count 126+1/\zTJ s p vs done/\yN bs=done++yN rest/\rest.count 126+j=bs.count 126
 refine xLD (xVF hs.re (SlV.le h.bt (le0 Z)) hb) see mk (P0:=fun p0 l0 c0 i s=>∃ rest done,i=((bs.count 126:Nat):Int)/\F p0 l0 c0 (bs.count 126) done rest s) ?_ ?_ (by omega) (by omega) (by omega)
 ·rw [hk];refine yNA (Inv:=fun k p0 l0 c0 i s=>∃ (j:Nat) (done:List (List Int)) (rest:List Int),i=(j:Int)/\k=rest.count 126/\F p0 l0 c0 j done rest s) ?_ (bs.count 126) p l c 0 _ ⟨0,[],bs,rfl,rfl,yL [.slice none 0 0] (bs.count 126+1),rfl,(h.le (le0 Z)).le (Le.row _ _ _),hb,Nat.le_refl _,fun _ hb=>hb,New.row _ _ _,zI _ _ _,by rw [zEI];simp,fun i pc hi=>by simp at hi,rfl,rfl⟩;rintro k p0 l0 c0 i s ⟨j,done,rest,rfl,rfl,vs,hd,hB,hr,hrl,hat,hN,ho,hvl,hP,hsp,hcnt⟩;by_cases hj:j<bs.count 126;rotate_left
  ·have:j=bs.count 126:=by omega
   subst this;exact xCO ⟨rest,done,rfl,vs,hd,hB,hr,hrl,hat,hN,ho,hvl,hP,hsp,hcnt⟩ (by omega)
  have hL:=hB.leng;have hge:=zLW rest;have hne:zBZ rest≠-1:=fun e=>by have:=(yIZ e).2;omega
  obtain ⟨m,hm⟩:∃ m:Nat,zBZ rest=(m:Int):=⟨(zBZ rest).toNat,by omega⟩;obtain ⟨m1,m2,m3⟩:=zYL hm;have ki:=xVC (c:=c0) (d:=d) (hs.re.le hN.le) hB.bt hr;rw [hm] at ki;obtain ⟨q,k2,b2,f2⟩:=hB.take3 (k:=m) (by omega) (by omega) (by omega);have st:=ho.store (P:=Pg) (t:=49) (v:=.slice q m m) (vs:=[.slice q m m]) (k:=0+Int.toNat (j:Int)*1) rfl yHN rfl (by simp [hvl];omega) (yXS (by omega));have w:Only (·=Z.y) s (s.own Z.y (vs.set j (.slice q m m)) 1):=Only.own (.inr rfl);have hS:∀ b,AtP p b->¬ (b=Z.y):=fun b hb e=>by have:=hpl b hb;omega
  have B':=hB.only w (fun b hb=>hS b (hat b hb));obtain ⟨q',c',k4,b4,f4⟩:=B'.drop (k:=m+1) (by omega) (by omega);have hP':=hP.set w hS (pc:=rest.take m) ⟨q,m,m,rfl,b2,fun b hb=>hat b (f2 b hb)⟩ (by omega);rw [hd] at hP';refine xCP ki (by rw [Int.add_zero];exact k2) st (by rw [show (m:Int)+1=((m+1:Nat):Int) by omega];exact k4) ⟨(rest.drop (m+1)).count 126,by omega,j+1,done++[rest.take m],rest.drop (m+1),by omega,rfl,vs.set j (.slice q m m),by simp [hd],b4,fun x hx=>hr x (List.mem_of_mem_drop hx),by simp;omega,fun b hb=>hat b (f4 b hb),hN.own (Nat.le_refl _),ho.put,by simp [hvl],hP',by rw [hsp,m2];simp,by omega⟩ (by omega) (by omega) (by omega) (by omega) (by omega) (by omega)
 ·rintro p0 l0 c0 i s ⟨rest,done,rfl,vs,hd,hB,hr,hrl,hat,hN,ho,hvl,hP,hsp,hcnt⟩;have h0:rest.count 126=0:=by omega
  have hone:yN rest=[rest]:=by
   by_cases e:zBZ rest=-1
   ·exact (yIZ e).1
   ·have hge:=zLW rest;obtain ⟨m,hm⟩:∃ m:Nat,zBZ rest=(m:Int):=⟨(zBZ rest).toNat,by omega⟩;have:=(zYL hm).2.2;omega
  have st:=ho.store (P:=Pg) (t:=49) (v:=.slice p0 l0 c0) (vs:=[.slice p0 l0 c0]) (k:=0+Int.toNat ((bs.count 126:Nat):Int)*1) rfl yHN rfl (by simp [hvl]) (yXS (by omega));have w:Only (·=Z.y) s (s.own Z.y (vs.set (bs.count 126) (.slice p0 l0 c0)) 1):=Only.own (.inr rfl);have hS:∀ b,AtP p b->¬ (b=Z.y):=fun b hb e=>by have:=hpl b hb;omega
  have hP':=hP.set w hS (pc:=rest) ⟨p0,l0,c0,rfl,hB,hat⟩ (by omega);rw [hd] at hP';have hfin:yN bs=done++[rest]:=by rw [hsp,hone]
  have o':Own (s.own Z.y (vs.set (bs.count 126) (.slice p0 l0 c0)) 1) Z.y (vs.set (bs.count 126) (.slice p0 l0 c0)) 1:=ho.put;have hx:yY (bs.count 126+1)=true:=zKF (by omega);have hok:zDG (s.own Z.y (vs.set (bs.count 126) (.slice p0 l0 c0)) 1) ⟨Z.y,0,none⟩ 1=true:=by simp [zDG,o'.get,zZ,wR]
  have e1:wG (some (iV (((bs.count 126:Nat):Int)+1))) (bs.count 126+1) (bs.count 126+1)=some (bs.count 126+1):=uZ (by omega) (Nat.le_refl _);have e2:wG (none:Option Value) 0 (bs.count 126+1)=some 0:=rfl;have e3:Nat.ble 0 (bs.count 126+1)=true:=(zP _ _).2 (Nat.zero_le _);have hq:(bif Nat.beq (bs.count 126+1) 0 then (⟨Z.y,0,none⟩:Addr) else zS ⟨Z.y,0,none⟩ (0*1))=⟨Z.y,0,none⟩:=rfl;have u85:Pg.underlying 115=some (.slice 49):=by kernel_rfl
  have sl:xZ Pg (s.own Z.y (vs.set (bs.count 126) (.slice p0 l0 c0)) 1) 115 (.slice (some ⟨Z.y,0,none⟩) (bs.count 126+1) (bs.count 126+1)) none (some (iV (((bs.count 126:Nat):Int)+1))) none=some (.slice (some ⟨Z.y,0,none⟩) (bs.count 126+1) (bs.count 126+1)):=by
   simp only [xZ,u85,yHN,hok,cond_true,wJ,zAP hx,e1,e2,e3,hx,Bool.or_true,hq,Nat.sub_zero]
  rw [hk];refine yMZ (q4_a:=⟨Z.y,0,none⟩) st sl ⟨hN.own (Nat.le_refl _),Z.y,vs.set (bs.count 126) (.slice p0 l0 c0),bs.count 126+1,by rw [hsl],o',by simp [hvl,hsl],by rw [hfin];exact hP',Nat.le_refl _⟩ (by omega) (by omega)
theorem xOW (hs:Row Z a [byV 126]) (h:BS Z p l c bs) (hb:Bts bs) (hl:l<=1073741000) :
  ∃ B vs c' Z',zJ Pg 49 [.slice p l c,.slice (some a) 1 d] Z (.slice (some ⟨B,0,none⟩) (yN bs).length c') Z'/\New Z Z'/\Own Z' B vs 1/\vs.length=(yN bs).length/\zTJ Z' p vs (yN bs)/\Z.y<=B:=by
 obtain ⟨B,vs,c',s,g1,g2,g3,g4,g5,g6⟩:=xQL (d:=d) hs.re (h.le (le0 Z)) hb hl;obtain ⟨v,Z',g1,g2,B,vs,c',rfl,g3,g4,g5,g6⟩:=zL.new (Q:=fun v s=>∃ B vs c',v=.slice (some ⟨B,0,none⟩) (yN bs).length c'/\Own s B vs 1/\vs.length=(yN bs).length/\zTJ s p vs (yN bs)/\Z.y<=B) (xHF g1 ⟨g2,B,vs,c',rfl,g3,g4,g5,g6⟩) (by
   rintro v s s' ⟨B,vs,c',rfl,g3,g4,g5,g6⟩ hle;exact ⟨B,vs,c',rfl,g3.le hle,g4,g5.le hle,g6⟩) (by
   rintro v s hr ⟨B,vs,c',rfl,_⟩;exact Bool.noConfusion (show false=true from hr))
 exact ⟨B,vs,c',Z',g1,g2,g3,g4,g5,g6⟩
end
end
section
noncomputable section
variable (l:Nat) (q2:oA) (l2 c2:Nat) (aK:Int) (q0:Int->St->Prop) (Q:St->Prop) (Z:St) (Nx:Int->St->Prop) (q3:vPa) (Qr Q0:St->Prop)
def yYG:Code:=(Code.part [1,0,0] (dj 48))
def zPL:lNa:=[(0,.func (.yield l) ⟨[]⟩ ⟨[]⟩),(7,.slice q2 l2 c2),(8,iV (l2:Int)),(9,iV aK)]
def xIQ:Alt:=⟨Int,.normal,fun t=>zPL l q2 l2 c2 t,fun t=>[],fun t Z=>q0 t Z⟩
def yEG (l:Nat) (q2:oA) (l2 c2:Nat):lNa:=[]
def zRS:Alt:=⟨Unit,.ret,fun t=>yEG l q2 l2 c2,fun t=>[],fun t Z=>Q Z⟩
def yEH (l:Nat) (q2:oA) (l2 c2:Nat):lNa:=[]
def zRT:Alt:=⟨Unit,(.exit 0),fun t=>yEH l q2 l2 c2,fun t=>[],fun t Z=>Q Z⟩
def zPM:Prop:=xK Pg dl none yYG 26 (zPL l q2 l2 c2 aK) [] [xIQ l q2 l2 c2 Nx,zRS l q2 l2 c2 Qr,zRT l q2 l2 c2 Q0] Z
def yYH:Prop:=xO Pg dl none yYG 26 (zPL l q2 l2 c2 aK) [] [zRS l q2 l2 c2 Qr,zRT l q2 l2 c2 Q0] Z
def xBJ:Prop:=kZ dl (dj 48) [1,0] (dm 48 q3) .ret 26 (yEG l q2 l2 c2) Z
def yEI:Prop:=kZ dl (dj 48) [1,0] (dm 48 q3) (.exit 0) 26 (yEH l q2 l2 c2) Z
end
variable {l l2 c2 lB cC l1 c1:Nat} {q2 qE q1:oA} {Inv:Nat->Int->St->Prop} {Qr Q0 Pr P0:St->Prop} {aK:Int} {q2_a v0:Addr} {ZB Z Z3:St} {Nx:Int->St->Prop} {Q:vPa}
theorem yTF (hb:∀ k aK Z,Inv k aK Z->zPM l q2 l2 c2 aK Z (NX1 Inv k) Qr Q0):∀ k aK Z,Inv k aK Z->yYH l q2 l2 c2 aK Z Qr Q0 :=
 uH (ai zAW (ai (vN 0) trivial)) hb
theorem xIP (h1:dg Z 49 (zS q2_a (Int.toNat aK*1)) (.slice qE lB cC)) (h2:zAC Pg l [.bool true,.slice qE lB cC] Z (.bool true) ZB) (nx:Nx (aK+1) ZB) (u1:aK<(l2:Int):=by omega) (u2:Ix aK l2:=by omega) (u3:0<(lB:Int):=by omega) (u4:0<aK:=by omega) (u5:I6 (aK+1):=by omega):zPM l (some q2_a) l2 c2 aK Z Nx Qr Q0 :=
 kO 0 (aK+1) [.b true,.g,.i,.l (.slice qE lB cC),.g,.g,.g,.g,.b true,.g,.g,.g,.b true,.g,.c (.bool true) ZB,.g,.g,.n (aK+1),.g] (fun _ f=>ai (zU u1) (an6 u2 h1 (zU u3) (zU u4) h2 (w64 u5) f)) nx
theorem xIO (h1:dg Z 49 (zS q2_a (Int.toNat aK*1)) (.slice qE lB cC)) (h2:zAC Pg l [.bool false,.slice qE lB cC] Z (.bool true) ZB) (nx:Nx (aK+1) ZB) (u1:aK<(l2:Int):=by omega) (u2:Ix aK l2:=by omega) (u3:0<(lB:Int):=by omega) (u4:¬ 0<aK:=by omega) (u5:I6 (aK+1):=by omega):zPM l (some q2_a) l2 c2 aK Z Nx Qr Q0 :=
 kO 0 (aK+1) [.b true,.g,.i,.l (.slice qE lB cC),.g,.g,.g,.g,.b true,.g,.g,.g,.b false,.g,.c (.bool true) ZB,.g,.g,.n (aK+1),.g] (fun _ f=>ai (zU u1) (an6 u2 h1 (zU u3) (zY u4) h2 (w64 u5) f)) nx
theorem xIN (h1:dg Z 49 (zS q2_a (Int.toNat aK*1)) (.slice qE lB cC)) (nx:Nx (aK+1) Z) (u1:aK<(l2:Int):=by omega) (u2:Ix aK l2:=by omega) (u3:¬ 0<(lB:Int):=by omega) (u4:I6 (aK+1):=by omega):zPM l (some q2_a) l2 c2 aK Z Nx Qr Q0 :=
 kO 0 (aK+1) [.b true,.g,.i,.l (.slice qE lB cC),.g,.g,.g,.g,.b false,.g,.g,.n (aK+1),.g] (fun _ f=>an5 (zU u1) u2 h1 (zY u3) (w64 u4) f) nx
theorem xIM (nx:Q0 Z) (u1:¬ aK<(l2:Int):=by omega):zPM l q2 l2 c2 aK Z Nx Qr Q0 :=
 kO 2 () [.b false] (fun _ f=>ai (zY u1) f) nx
theorem xPQ (h1:dg Z 49 v0 (.slice q1 l1 c1)) (h2:dh 49 [.slice q1 l1 c1,.slice (some (dc Z.y 0)) 1 1] (Z.row [.int .u8 126] 1) (.slice q2 l2 c2) Z3) (hL:yYH l q2 l2 c2 0 Z3 Pr P0) (kr:∀ Z',Pr Z'->xBJ l q2 l2 c2 Z' Q) (k0:∀ Z',P0 Z'->yEI l q2 l2 c2 Z' Q):dq 48 [.func (.yield l) ⟨[]⟩ ⟨[]⟩,pv v0] Z Q :=
 zK [.l (.slice q1 l1 c1),.g,.c (.slice q2 l2 c2) Z3,.g,.g,.lf 26 (zPL l q2 l2 c2 0) [zRS l q2 l2 c2 Pr,zRT l q2 l2 c2 P0]] (kd (an2 h1 h2 (ai (ai tt (ai (arf (zPL l q2 l2 c2 0)) hL)) (ai (kz0 kr) (ai (kz0 k0) trivial)))))
theorem yTE (nx:Q (.tuple ⟨[]⟩) Z):yEI l q2 l2 c2 Z Q :=
 sK [] nx
end
section
noncomputable section
variable (BA BB:Nat) (f5:FuncId) (bV:lVa) (g:Nat->Value) (ms:List Nat) (st:LoopState) (Z:St) (pend:Option Code) (Q:vPa) (Qn:St->Prop) (db:Nat)
def xQ:Code:=(Code.part [1,1,1,1,0,1,0,0] (dj 13))
def xP:Code:=(Code.part [1,1,1,1,0,1,0,1] (dj 13))
def wH:lNa:=[(2,pq BA 0),(3,pq BB 0),(20,.func (.func f5) ⟨[]⟩ ⟨bV⟩)]
def zCV:Blk:=.loop (Fm 45 (ov (wH BA BB f5 bV) g)) [21,22] xQ xP st pend db
def yHD:Prop:=yBP Pg dl (.tmp 20) ⟨[21,22]⟩ xQ xP 45 (wH BA BB f5 bV) [(.normal,Qn)] Z
def zLE:Prop:=∀ g:Nat->Value,∃ an,Hid (kAt Pg dl none (dj 13) [1,1,1,1,0,1,0] (dm 13 Q) .normal ⟨Fm 45 (ov (wH BA BB f5 bV) g),ms⟩ Z an)
end
variable {b yp qIB qJB q2 qG qI qZ:oA} {b_l b_c BA BB yp_l yp_c lo lLB cIB lMB cJB db l2 c2 lG cG lK cH lAB cZ:Nat} {Z ZQ ZUB U Z1 Z3 Z6 ZJ ZM bw ZVB:St} {Q:vPa} {f5:FuncId} {bV:lVa} {nI nJ nK nH nL nCB nGC n4 nS nDB nT:Int} {g:Nat->Value} {Qn Pn:St->Prop} {bG:Bool} {ms:List Nat}
theorem xGC (nx:Q (.tuple ⟨[.slice none 0 0,iV 0,iV 3]⟩) ((((Z.row [.slice none 0 0] 1).row [iV 0] 1).own Z.y [.slice none 0 0] 1).own (Z.y+1) [iV 0] 1)) (u1:5000<(b_l:Int):=by omega):dq 13 [.slice b b_l b_c] Z Q :=
 let s1:=Z.row [.slice none 0 0] 1;let s2:=s1.row [iV 0] 1;let s3:=s2.own Z.y [.slice none 0 0] 1;let s4:=s3.own (Z.y+1) [iV 0] 1;zK [.g,.g,.g,.g,.g,.b true,.e undef s3,.e undef s4,.g,.l (.slice none 0 0),.l (iV 0)] (kd (an5 (zU u1) ((zI _ _ _).row.store (vs:=[.slice none 0 0]) rfl zWF rfl (nle rfl) rfl:di (evL [pq Z.y 0,.slice none 0 0]) s2 (.store 52 (.tmp 0) (.tmp 1))=some (undef,s3)) (((zI _ _ _).own (nne Z.y 1 0 rfl)).store (vs:=[iV 0]) rfl zPA rfl (nle rfl) rfl:di (evL [pq ((Z.y+1)) 0,iV 0]) s3 (.store 3 (.tmp 0) (.tmp 1))=some (undef,s4)) (((zI _ _ _).row.put.own (nne Z.y 0 1 rfl)).rw.ld zIZ (k:=0) rfl:dg s4 52 (dc Z.y 0) (.slice none 0 0)) (((zI _ _ _).own (nne Z.y 1 0 rfl)).put.rw.ld zT (k:=0) rfl:dg s4 3 ⟨(Z.y+1),0,none⟩ (iV 0)) nx))
theorem yWX:let s1:=Z.row (rcd 0 0 0 0 0 0) 6;let s2:=s1.own Z.y (rcd nI nJ nK nH nL nCB) 6;∀ (hl:yD U.heap lo=some (zCV BA BB f5 bV g .ready none db)) (hZ:Z=U.re.put lo (zCV BA BB f5 bV g .busy none db)) (h1:dh 27 [.slice yp yp_l yp_c] Z (.tuple ⟨[de (rcd nI nJ nK nH nL nCB),.bool true]⟩) Z) (h2:dg s2 52 (dc BA 0) (.slice qIB lLB cIB)) (h3:yA Pg 52 52 (.slice qIB lLB cIB) (.slice (some ⟨(Z.y+1),0,none⟩) 1 1) (s2.row (rcd nI nJ nK nH nL nCB) 6)=some (.slice qJB lMB cJB,ZQ)) (h4:di (evL [pq BA 0,.slice qJB lMB cJB]) ZQ (.store 52 (.tmp 0) (.tmp 1))=some (undef,ZUB)) (nx:Qn ZUB),zCT Pg lo [.bool true,.slice yp yp_l yp_c] U (Fm 45 (ov (wH BA BB f5 bV) g)) [21,22] xQ xP db [⟨Unit,.normal,fun _=>[],fun _=>[],fun _ Z=>Qn Z⟩]:=
 let s1:=Z.row (rcd 0 0 0 0 0 0) 6;let s2:=s1.own Z.y (rcd nI nJ nK nH nL nCB) 6;fun hl hZ h1 h2 h3 h4 nx=>zWN hl rfl hZ [.g,.g,.g,.c (.tuple ⟨[de (rcd nI nJ nK nH nL nCB),.bool true]⟩) Z,.g,.g,.g,.g,.e undef s2,.g,.g,.g,.g,.g,.g,.g,.l (.slice qIB lLB cIB),.l (de (rcd nI nJ nK nH nL nCB)),.g,.e (.slice qJB lMB cJB) ZQ,.e undef ZUB,.fin ⟨Unit,.normal,fun _=>[],fun _=>[],fun _ Z=>Qn Z⟩ ()] (kc (by kernel_rfl) (ai (ai (rfl:Exit.normal=Exit.normal) (rfl:U.re=U.re)) (an6 h1 ((zI _ _ _).store (vs:=(rcd nI nJ nK nH nL nCB)) rfl yP rfl (nle rfl) rfl:di (evL [pq Z.y 0,de (rcd nI nJ nK nH nL nCB)]) s1 (.store 64 (.tmp 0) (.tmp 1))=some (undef,s2)) h2 ((zI _ _ _).put.rw.ldN uM yP (k:=0) rfl rfl (nle rfl):dg s2 64 (dc Z.y 0) (de (rcd nI nJ nK nH nL nCB))) h3 h4 (xCZ (alts:=[⟨Unit,.normal,fun _=>[],fun _=>[],fun _ Z=>Qn Z⟩]) ⟨Unit,.normal,fun _=>[],fun _=>[],fun _ Z=>Qn Z⟩ () nx in0))))
theorem yWW:let s1:=Z.row (rcd 0 0 0 0 0 0) 6;let s2:=s1.own Z.y (rcd nI nJ nK nH nL nCB) 6;∀ (hl:yD U.heap lo=some (zCV BA BB f5 bV g .ready none db)) (hZ:Z=U.re.put lo (zCV BA BB f5 bV g .busy none db)) (h1:dh 27 [.slice yp yp_l yp_c] Z (.tuple ⟨[de (rcd nI nJ nK nH nL nCB),.bool false]⟩) Z) (h2:dg s2 3 (dc BB 0) (iV nGC)) (h3:di (evL [pq BB 0,iV (nGC+1)]) s2 (.store 3 (.tmp 0) (.tmp 1))=some (undef,ZQ)) (nx:Qn ZQ) (u1:I6 (nGC+1):=by omega),zCT Pg lo [.bool true,.slice yp yp_l yp_c] U (Fm 45 (ov (wH BA BB f5 bV) g)) [21,22] xQ xP db [⟨Unit,.normal,fun _=>[],fun _=>[],fun _ Z=>Qn Z⟩]:=
 let s1:=Z.row (rcd 0 0 0 0 0 0) 6;let s2:=s1.own Z.y (rcd nI nJ nK nH nL nCB) 6;fun hl hZ h1 h2 h3 nx u1=>zWN hl rfl hZ [.g,.g,.g,.c (.tuple ⟨[de (rcd nI nJ nK nH nL nCB),.bool false]⟩) Z,.g,.g,.g,.g,.e undef s2,.g,.g,.g,.g,.g,.g,.g,.l (iV nGC),.n (nGC+1),.e undef ZQ,.fin ⟨Unit,.normal,fun _=>[],fun _=>[],fun _ Z=>Qn Z⟩ ()] (kc (by kernel_rfl) (ai (ai (rfl:Exit.normal=Exit.normal) (rfl:U.re=U.re)) (an5 h1 ((zI _ _ _).store (vs:=(rcd nI nJ nK nH nL nCB)) rfl yP rfl (nle rfl) rfl:di (evL [pq Z.y 0,de (rcd nI nJ nK nH nL nCB)]) s1 (.store 64 (.tmp 0) (.tmp 1))=some (undef,s2)) h2 (w64 u1) h3 (xCZ (alts:=[⟨Unit,.normal,fun _=>[],fun _=>[],fun _ Z=>Qn Z⟩]) ⟨Unit,.normal,fun _=>[],fun _=>[],fun _ Z=>Qn Z⟩ () nx in0))))
theorem yWV:let s1:=Z.row (rcd 0 0 0 0 0 0) 6;let s2:=s1.own Z.y (rcd nI nJ nK nH nL nCB) 6;∀ (hl:yD U.heap lo=some (zCV BA BB f5 bV g .ready none db)) (hZ:Z=U.re.put lo (zCV BA BB f5 bV g .busy none db)) (h1:dh 27 [.slice yp yp_l yp_c] Z (.tuple ⟨[de (rcd nI nJ nK nH nL nCB),.bool bG]⟩) Z) (h2:dg s2 3 (dc BB 0) (iV nGC)) (h3:di (evL [pq BB 0,iV (nGC+1)]) s2 (.store 3 (.tmp 0) (.tmp 1))=some (undef,ZQ)) (nx:Qn ZQ) (u1:I6 (nGC+1):=by omega),zCT Pg lo [.bool false,.slice yp yp_l yp_c] U (Fm 45 (ov (wH BA BB f5 bV) g)) [21,22] xQ xP db [⟨Unit,.normal,fun _=>[],fun _=>[],fun _ Z=>Qn Z⟩]:=
 let s1:=Z.row (rcd 0 0 0 0 0 0) 6;let s2:=s1.own Z.y (rcd nI nJ nK nH nL nCB) 6;fun hl hZ h1 h2 h3 nx u1=>zWN hl rfl hZ [.g,.g,.g,.c (.tuple ⟨[de (rcd nI nJ nK nH nL nCB),.bool bG]⟩) Z,.g,.g,.g,.g,.e undef s2,.g,.g,.g,.g,.g,.l (iV nGC),.n (nGC+1),.e undef ZQ,.fin ⟨Unit,.normal,fun _=>[],fun _=>[],fun _ Z=>Qn Z⟩ ()] (kc (by kernel_rfl) (ai (ai (rfl:Exit.normal=Exit.normal) (rfl:U.re=U.re)) (an5 h1 ((zI _ _ _).store (vs:=(rcd nI nJ nK nH nL nCB)) rfl yP rfl (nle rfl) rfl:di (evL [pq Z.y 0,de (rcd nI nJ nK nH nL nCB)]) s1 (.store 64 (.tmp 0) (.tmp 1))=some (undef,s2)) h2 (w64 u1) h3 (xCZ (alts:=[⟨Unit,.normal,fun _=>[],fun _=>[],fun _ Z=>Qn Z⟩]) ⟨Unit,.normal,fun _=>[],fun _=>[],fun _ Z=>Qn Z⟩ () nx in0))))
theorem xGB (h1:di (evL [iV (b_l:Int),iV (b_l:Int)]) ((Z.row [.slice none 0 0] 1).row [iV 0] 1) (.makeSlice 49 (.tmp 0) (.tmp 1))=some (.slice q2 l2 c2,Z1)) (h2:di (evL [.slice q2 l2 c2,.slice b b_l b_c]) Z1 (.call { callee:=.builtin .copy,args:=⟨wN 2⟩,argTypes:=⟨[49,49]⟩ })=some ((iV n4),Z3)) (h3:dh 26 [.slice q2 l2 c2] Z3 (.func (.func f5) ⟨[]⟩ ⟨bV⟩) Z6) (hL:yHD Z.y (Z.y+1) f5 bV Z6 Pn) (kn:∀ Z',Pn Z'->zLE Z.y (Z.y+1) f5 bV [Z6.y] Z' Q) (u1:¬ 5000<(b_l:Int):=by omega):dq 13 [.slice b b_l b_c] Z Q :=
 let s1:=wH Z.y (Z.y+1) f5 bV;zK [.g,.g,.g,.g,.g,.b false,.g,.g,.e (.slice q2 l2 c2) Z1,.g,.g,.g,.e (iV n4) Z3,.g,.c (.func (.func f5) ⟨[]⟩ ⟨bV⟩) Z6,.rf 45 s1 [(.normal,Pn)]] (kd (an4 (zY u1) h1 h2 h3 (ai (ai tt (ai (arf s1) hL)) (ai (kz kn) trivial))))
theorem yJU (h1:dg Z 52 (dc BA 0) (.slice qG lG cG)) (h2:di (evL [pq BA 0,.slice none 0 0]) Z (.store 52 (.tmp 0) (.tmp 1))=some (undef,ZJ)) (h3:di (evL [pq BB 0,iV 0]) ZJ (.store 3 (.tmp 0) (.tmp 1))=some (undef,ZM)) (h4:yGS ms ZM bw) (h5:dg bw 52 (dc BA 0) (.slice qI lK cH)) (h6:dg bw 3 (dc BB 0) (iV nS)) (nx:Q (.tuple ⟨[.slice qI lK cH,iV nS,iV 3]⟩) bw) (u1:60<(lG:Int):=by omega):zLE BA BB f5 bV ms Z Q :=
 sK [.l (.slice qG lG cG),.g,.b true,.e undef ZJ,.e undef ZM,.g,.l (.slice qI lK cH),.l (iV nS)] (an4 h1 (zU u1) h2 h3 (zHL (K:=(fun bw=>dg bw 52 (dc BA 0) (.slice qI lK cH)/\dg bw 3 (dc BB 0) (iV nS)/\Q (.tuple ⟨[.slice qI lK cH,iV nS,iV 3]⟩) bw)) h4 (ai h5 (ai h6 nx))))
theorem yJT (h1:dg Z 52 (dc BA 0) (.slice qG lG cG)) (h2:dg Z 3 (dc BB 0) (iV nDB)) (h3:di (evL [pq BA 0,.slice qG lG cG]) Z (.store 52 (.tmp 0) (.tmp 1))=some (undef,ZM)) (h4:di (evL [pq BB 0,iV nDB]) ZM (.store 3 (.tmp 0) (.tmp 1))=some (undef,ZVB)) (h5:zX ZM.y [pq BB 0,iV nDB]) (h6:(zLq ZM 3 (dc BB 0) (iV nDB))) (h7:yGS ms ZVB bw) (h8:dg bw 52 (dc BA 0) (.slice qZ lAB cZ)) (h9:dg bw 3 (dc BB 0) (iV nT)) (b_qG:∀ a,qG=some a->a.block<Z.y) (nx:Q (.tuple ⟨[.slice qZ lAB cZ,iV nT,iV 0]⟩) bw) (u1:¬ 60<(lG:Int):=by omega) (b_BA:BA<Z.y:=by omega) (b_BB:BB<Z.y:=by omega):zLE BA BB f5 bV ms Z Q :=
 sK [.l (.slice qG lG cG),.g,.b false,.l (.slice qG lG cG),.l (iV nDB),.e undef ZM,.e undef ZVB,.g,.l (.slice qZ lAB cZ),.l (iV nT)] (an6 h1 (zY u1) h1 h2 h3 h4 (an6 ((zM (zV b_BA) zO):zX Z.y [pq BA 0]) ((zM (zV b_BB) zO):zX Z.y [pq BB 0]) ((zM (zV b_BA) (zM (zEH b_qG) zO)):zX Z.y [pq BA 0,.slice qG lG cG]) h5 (⟨⟨b_BB,rfl⟩,h2⟩:(zLq Z 3 (dc BB 0) (iV nDB))) h6 (zHL (K:=(fun bw=>dg bw 52 (dc BA 0) (.slice qZ lAB cZ)/\dg bw 3 (dc BB 0) (iV nT)/\Q (.tuple ⟨[.slice qZ lAB cZ,iV nT,iV 0]⟩) bw)) h7 (ai h8 (ai h9 nx)))))
end
def zMQ (st:List Rec × Int) (i:Nat) (pc:List Int):List Rec × Int :=
 if pc=[] then st else match (if 0<i then zDY pc else none) with
  | some r=>(st.1++[r],st.2)
  | none=>(st.1,st.2+1)
def dTo (pcs:List (List Int)):Nat->List Rec × Int
 | 0=>([],0)
 | i+1=>match pcs[i]? with
  | some pc=>zMQ (dTo pcs i) i pc
  | none=>dTo pcs i
theorem zKH {pcs:List (List Int)} {i:Nat} {pc:List Int} (h:pcs[i]?=some pc):dTo pcs (i+1)=zMQ (dTo pcs i) i pc:=by
 show (match pcs[i]? with | some pc=>zMQ (dTo pcs i) i pc | none=>dTo pcs i)=_;rw [h]
theorem yVJ (pcs:List (List Int)):∀ i,0<=(dTo pcs i).2/\(dTo pcs i).2<=(i:Int)/\(dTo pcs i).1.length<=i
 | 0=>by simp [dTo]
 | i+1=>by
  have ih:=yVJ pcs i;cases h:pcs[i]? with
  | none=>rw [show dTo pcs (i+1)=dTo pcs i by show (match pcs[i]? with | some pc=>zMQ (dTo pcs i) i pc | none=>dTo pcs i)=_;rw [h]];omega
  | some pc =>
   rw [zKH h];unfold zMQ;split
   ·omega
   ·cases (if 0<i then zDY pc else none) with
    | none=>simp only;omega
    | some r=>simp only [List.length_append,List.length_cons,List.length_nil];omega
theorem yDH:∀ {bs pc:List Int},Bts bs->pc∈yN bs->Bts pc/\pc.length<=bs.length
 | [],pc,_,h=>by simp [yN] at h;subst h;exact ⟨(fun x hx=>by cases hx),Nat.le_refl _⟩
 | c::r,pc,hb,h=>by
  rw [yN] at h;have key:∀ p,p∈yN r->Bts p/\p.length<=r.length:=fun p hp=>yDH hb.tl hp
  split at h
  ·rcases List.mem_cons.1 h with e | e
   ·subst e;exact ⟨(fun x hx=>by cases hx),Nat.zero_le _⟩
   ·have:=key pc e;exact ⟨this.1,by simp;omega⟩
  ·have hne:=yDI r;cases hs:yN r with
   | nil=>exact absurd hs hne
   | cons p ps =>
    rw [hs] at h;rcases List.mem_cons.1 h with e | e
    ·subst e;have:=key p (by rw [hs];exact List.mem_cons_self);refine ⟨fun x hx=>?_,by simp;omega⟩
     rcases List.mem_cons.1 hx with e | e
     ·rw [e];exact hb c List.mem_cons_self
     ·exact this.1 x e
    ·have:=key pc (by rw [hs];exact List.mem_cons_of_mem _ e);exact ⟨this.1,by simp;omega⟩
section
variable {Z U:St} {bs:List Int} {p:Option Addr} {l c:Nat}
theorem xIL:∃ b Z',zJ Pg 26 [.slice p l c] Z (.func (.func 48) ⟨[]⟩ ⟨[.pointer (some ⟨b,0,none⟩)]⟩) Z'/\New Z Z'/\Own Z' b [.slice p l c] 1/\Z.y<=b:=by
 obtain ⟨v,Z',g1,g2,b,rfl,g3,g4⟩:=zL.new (Q:=fun v s=>∃ b,v=.func (.func 48) ⟨[]⟩ ⟨[.pointer (some ⟨b,0,none⟩)]⟩/\Own s b [.slice p l c] 1/\Z.y<=b) (xBI ⟨New.row _ _ _,Z.y,rfl,zI _ _ _,Nat.le_refl _⟩) (by
  rintro v s s' ⟨b,rfl,h,h'⟩ hle;exact ⟨b,rfl,h.le hle,h'⟩) (by
  rintro v s hr ⟨b,rfl,_⟩;exact Bool.noConfusion (show false=true from hr))
 exact ⟨b,Z',g1,g2,g3,g4⟩
theorem xDI {n a1:Nat} {Pn:St->Prop} (hb:Bts bs) (hl:l<=1000000) (oa:Own U a1 [.slice p l c] 1) (hB:BS U p l c bs) (o1:Own U n [.slice none 0 0] 1) (o2:Own U (n+1) [iV 0] 1)
    (hpn:∀ b,AtP p b->n+1<b) (hlow:n<=U.low)
    (hQ:∀ z q d n1,(∀ b,b<n->yD z.heap b=yD U.heap b)->Own z n [.slice q (dTo (yN bs) (yN bs).length).1.length d] 1->Own z (n+1) [iV (dTo (yN bs) (yN bs).length).2] 1->U.y+2<=n1->Gr Pg z n1 64 6 q (dTo (yN bs) (yN bs).length).1.length d ((dTo (yN bs) (yN bs).length).1.map xT)->yD z.heap U.y=some .defd->U.y<z.y->n<=z.low->Pn z) :
    yHD n (n+1) 48 [.pointer (some ⟨a1,0,none⟩)] U Pn:=by
  refine yEC (fs:=[.pointer (some ⟨a1,0,none⟩)]) (f:=48) (fun g0=>by kernel_rfl) (fun g0=>?_);obtain ⟨pcs,hpcs⟩:∃ pcs,pcs=yN bs:=⟨_,rfl⟩;rw [<- hpcs] at hQ;have hpl:pcs.length<=l+1:=by rw [hpcs,zMW];have:=hB.leng;have:bs.count 126<=bs.length:=List.count_le_length;omega
  obtain ⟨L,hL⟩:∃ L:LoopState->Blk,L=fun st=>zCV n (n+1) 48 [.pointer (some ⟨a1,0,none⟩)] g0 st none U.y:=⟨_,rfl⟩
  have hn2:=o2.lt;have ha:=oa.lt;obtain ⟨Ua,hUa⟩:∃ Ua,Ua=(U.add .defd).add (L .ready):=⟨_,rfl⟩;have hN:New U Ua:=by rw [hUa];exact (New.add _ _).trans (New.add _ _)
  have nxa:Ua.y=U.y+2:=by rw [hUa];rfl
  have Ld:yD Ua.heap U.y=some .defd:=by rw [hUa,St.add_get,if_neg (by simp),St.add_get,if_pos rfl]
  have Ll:yD Ua.heap (U.y+1)=some (L .ready):=by rw [hUa,St.add_get,if_pos (by simp)]
  obtain ⟨t1,ht1⟩:∃ t1,t1=Ua.re.row [.int .u8 126] 1:=⟨_,rfl⟩;have N1:New Ua.re t1:=by rw [ht1];exact New.row _ _ _
  have os:Own t1 Ua.y [byV 126] 1:=by rw [ht1];exact zI _ _ _
  have Na:Le U Ua.re:=hN.le.trans (le0 Ua);obtain ⟨B,vs,c',Z3,k2,n3,oB,vl,hP,hBn⟩:=xOW (d:=1) os.rw ((hB.le Na).le N1.le) hb (by omega);rw [<- hpcs] at k2 vl hP;have N3:New Ua.re Z3:=N1.trans n3;have n31:Ua.y+1<=B:=by
    have e:t1.y=Ua.y+1:=by rw [ht1];rfl
    omega
  have oBl:=oB.lt;have hlow1:n<=Ua.low:=hN.low n hlow (by omega);let K:Nat->St->Prop:=fun j z=>∃ q d,Own z B vs 1/\zTJ z p vs pcs/\Own z n [.slice q (dTo pcs j).1.length d] 1/\Own z (n+1) [iV (dTo pcs j).2] 1/\Gr Pg z Z3.y 64 6 q (dTo pcs j).1.length d ((dTo pcs j).1.map xT)/\yD z.heap U.y=some .defd/\yD z.heap (U.y+1)=some (L .ready)/\Z3.y<=z.y/\n<=z.low/\(∀ b,b<n->yD z.heap b=yD U.heap b)/\(dTo pcs j=([],0)\/z.low<=n+1)
  have LE3:Le U Z3:=Na.trans N3.le;have K0:K 0 Z3:=⟨none,0,oB,hP,o1.le LE3,o2.le LE3,Gr.nil,by rw [N3.le.get _ (by show U.y<Ua.y;omega)];exact Ld,by rw [N3.le.get _ (by show U.y+1<Ua.y;omega)];exact Ll,Nat.le_refl _,N3.low n (by show n<=Ua.y;omega) (by show n<=Ua.y;omega),fun b hb=>LE3.get b (by omega),.inl rfl⟩;have round:∀ (j:Nat) (z:St) (pc:List Int) (q1:Option Addr) (l1 c1:Nat),K j z->pcs[j]?=some pc->pc≠[]->BS z q1 l1 c1 pc->(∀ b,AtP q1 b->AtP p b)->∃ zz,zAC Pg (U.y+1) [.bool (decide (0<j)),.slice q1 l1 c1] z (.bool true) zz/\K (j+1) zz:=by
    rintro j z pc q1 l1 c1 ⟨q,d,kB,kP,k1,k2,kG,kd,kl,kn,kw,ko,kz⟩ hj hne hb1 hat
    have hjl:j<pcs.length:=(List.getElem?_eq_some_iff.1 hj).1;obtain ⟨hbt,hpl2⟩:=yDH hb (hpcs ▸ List.mem_of_getElem? hj);have hbl:=hB.leng;have hl1:=hb1.leng;have bd:=yVJ pcs j;obtain ⟨z1,hz1⟩:∃ z1,z1=z.re.put (U.y+1) (L .busy):=⟨_,rfl⟩;have w1:Only (·=U.y+1) z z1:=by rw [hz1];exact (Only.re z).trans' (Only.put (S:=(·=U.y+1)) (.inr rfl)) fun _ _ e=>.inl e
    have nx1:z1.y=z.y:=by rw [hz1];rfl
    have L1:yD z1.heap (U.y+1)=some (L .busy):=by rw [hz1,St.put_get,if_pos rfl]
    have S1:∀ b,AtP p b->¬ (b=U.y+1):=fun b hb e=>by have:=hB.lt b hb;omega
    have p1:Own z1 n _ 1:=w1.own' k1 (fun e=>by have e:n=U.y+1:=e;omega);have p2:Own z1 (n+1) _ 1:=w1.own' k2 (fun e=>by have e:n+1=U.y+1:=e;omega);have pB:Own z1 B vs 1:=w1.own' kB (fun e=>by have e:B=U.y+1:=e;omega);have pP:zTJ z1 p vs pcs:=fun i x hi=>by obtain ⟨v,h1,h2⟩:=kP i x hi;exact ⟨v,h1,h2.only w1 S1⟩
    have pG:=kG.only w1 (fun b hb e=>by have:=(kG.bd hb).1;have e:b=U.y+1:=e;omega);have pd:yD z1.heap U.y=some .defd:=by rw [w1.get _ (by omega) (by omega)];exact kd
    have hr:=xTW (hb1.only w1 fun b hb=>S1 b (hat b hb)) hbt (by omega);have fin:∀ z4:St,zCT Pg (U.y+1) [.bool (decide (0<j)),.slice q1 l1 c1] z (Fm 45 (ov (wH n (n+1) 48 [.pointer (some ⟨a1,0,none⟩)]) g0)) [21,22] xQ xP U.y [⟨Unit,.normal,fun _=>[],fun _=>[],fun _ x=>x=z4⟩] ->
        ∀ (q':Option Addr) (d':Nat) (S:Nat->Prop),Only S z1 z4->(∀ y,S y->y=n\/y=n+1\/Z3.y<=y)->z4.low<=n+1->Own z4 n [.slice q' (dTo pcs (j+1)).1.length d'] 1->Own z4 (n+1) [iV (dTo pcs (j+1)).2] 1->Gr Pg z4 Z3.y 64 6 q' (dTo pcs (j+1)).1.length d' ((dTo pcs (j+1)).1.map xT) ->
        ∃ zz,zAC Pg (U.y+1) [.bool (decide (0<j)),.slice q1 l1 c1] z (.bool true) zz/\K (j+1) zz:=by
      intro z4 hrd q' d' S k hS hlw u1 u2 uG
      have n4:=k.y
      have L4:yD z4.heap (U.y+1)=some (L .busy):=by rw [k.get _ (by omega) (fun h=>by have:=hS _ h;omega)];exact L1
      have D4:yD z4.heap U.y=some .defd:=by rw [k.get _ (by omega) (fun h=>by have:=hS _ h;omega)];exact pd
      obtain ⟨e,z',⟨al,hal,rfl,tt,hq⟩,hc⟩:=hrd
      simp only [In,or_false] at hal
      subst hal
      have hq:z'=z4:=hq
      subst hq
      have hcy:=hc (.inl rfl) (by omega) (by rw [L4,hL];rfl) (by omega)
      have nB:¬ S B:=fun h=>by have:=hS _ h;omega
      have hlow4:n<=z'.low:=k.low n (by rw [hz1];simp only [St.put_low,yXZ];omega) (by omega) (fun y _ hy=>by have:=hS y hy;omega)
      have g:∀ b,b≠U.y+1->yD (⟨(z'.put (U.y+1) (zZB (Fm 45 (ov (wH n (n+1) 48 [.pointer (some ⟨a1,0,none⟩)]) g0)) [21,22] xQ xP U.y .normal)).heap,z'.y,min z.low (min z'.low (U.y+1))⟩:St).heap b=yD z'.heap b:=fun b hb=>by
        show yD (z'.put _ _).heap b=_;rw [St.put_get,if_neg hb]
      have w2:Only (·=U.y+1) z' (z'.put (U.y+1) (zZB (Fm 45 (ov (wH n (n+1) 48 [.pointer (some ⟨a1,0,none⟩)]) g0)) [21,22] xQ xP U.y .normal)):=Only.put (.inr rfl)
      have w3:Le (z'.put (U.y+1) (zZB (Fm 45 (ov (wH n (n+1) 48 [.pointer (some ⟨a1,0,none⟩)]) g0)) [21,22] xQ xP U.y .normal)) ⟨(z'.put (U.y+1) (zZB (Fm 45 (ov (wH n (n+1) 48 [.pointer (some ⟨a1,0,none⟩)]) g0)) [21,22] xQ xP U.y .normal)).heap,z'.y,min z.low (min z'.low (U.y+1))⟩:=⟨Nat.le_refl _,fun _ _=>rfl⟩
      refine ⟨_,hcy,q',d', ?_,fun i x hi=>?_, ?_, ?_, ?_, ?_, ?_, ?_, ?_,fun b hb=>?_,.inr ?_⟩
      · exact (w2.own' (k.own' pB nB) (fun e=>by have e:B=U.y+1:=e;omega)).le w3
      · obtain ⟨v,h1,h2⟩:=pP i x hi;exact ⟨v,h1,((h2.only k fun b hb h=>by have:=hS _ h;have:=hpn b hb;have:=hB.lt b hb;omega).only w2 S1).le w3⟩
      · exact (w2.own' u1 (fun e=>by have e:n=U.y+1:=e;omega)).le w3
      · exact (w2.own' u2 (fun e=>by have e:n+1=U.y+1:=e;omega)).le w3
      · exact (uG.only w2 (fun b hb e=>by have:=(uG.bd hb).1;have e:b=U.y+1:=e;omega)).le w3
      · rw [g _ (by omega)];exact D4
      · show yD (z'.put _ _).heap _=_;rw [St.put_get,if_pos rfl,hL];rfl
      · show Z3.y<=z'.y;omega
      · show n<=min _ _;omega
      · rw [g _ (by omega),k.get b (by omega) (fun h=>by have:=hS _ h;omega),w1.get b (by omega) (by omega)];exact ko b hb
      · show min _ _<=_;omega
    have hstep:=zKH hj;by_cases hgood:0<j/\(zDY pc).isSome=true
    · obtain ⟨r,hrec⟩:=Option.isSome_iff_exists.1 hgood.2;have e1:dTo pcs (j+1)=((dTo pcs j).1++[r],(dTo pcs j).2):=by rw [hstep,zMQ,if_neg hne,if_pos hgood.1,hrec]
      rw [show zUY pc=.tuple ⟨[xT r,.bool true]⟩ by simp [zUY,hrec]] at hr;obtain ⟨z2,hz2⟩:∃ z2,z2=(z1.row (xG zJD) 6).own z1.y (xG r) 6:=⟨_,rfl⟩;have n2:New z1 z2:=by rw [hz2];exact (New.row _ _ _).own (Nat.le_refl _)
      have ld:=(p1.le n2.le).rw.ld (P:=Pg) zIZ (k:=0) rfl;obtain ⟨q',d',z3,ga,gG,gO,gA⟩:=zGW (U:=z2) (xT r) (cs:=xG r) zQS pG n2.le (zGY r) (by omega) (by omega);have hq2:∀ b,AtP q b->Z3.y<=b:=fun b hb=>(pG.bd hb).1
      have u1:Own z3 n [.slice q (dTo pcs j).1.length d] 1:=gO.own' ((p1.le n2.le).le (Le.row _ _ _)) (fun h=>by have:=hq2 _ h;omega);have u2:Own z3 (n+1) [iV (dTo pcs j).2] 1:=gO.own' ((p2.le n2.le).le (Le.row _ _ _)) (fun h=>by have:=hq2 _ h;omega);have st:=u1.store (P:=Pg) (k:=0) (t:=52) (v:=.slice q' ((dTo pcs j).1.length+1) d') (vs:=[.slice q' ((dTo pcs j).1.length+1) d']) rfl zWF rfl (by simp) rfl;have O3:Only (AtP q) z1 z3:=(n2.trans (New.row _ _ _)).only.trans' gO fun _ _ e=>.inl e
      have O4:Only (fun y=>AtP q y\/y=n) z1 (z3.own n [.slice q' ((dTo pcs j).1.length+1) d'] 1):=(O3.mono (T:=fun y=>AtP q y\/y=n) fun _ _ e=>.inl e).trans' (Only.own (S:=(·=n)) (.inr rfl)) fun _ _ e=>.inl (.inr e)
      have hrd:zCT Pg (U.y+1) [.bool true,.slice q1 l1 c1] z (Fm 45 (ov (wH n (n+1) 48 [.pointer (some ⟨a1,0,none⟩)]) g0)) [21,22] xQ xP U.y [⟨Unit,.normal,fun _=>[],fun _=>[],fun _ x=>x=z3.own n [.slice q' ((dTo pcs j).1.length+1) d'] 1⟩]:=by
        subst hz2;exact yWX (by rw [kl,hL]) (by rw [hz1,hL]) hr ld ga st rfl
      refine fin _ (by rw [decide_eq_true hgood.1];exact hrd) q' d' _ O4 (fun y hy=>by rcases hy with hy | hy;exact .inr (.inr (hq2 y hy));exact .inl hy) (by show min _ n<=_;omega) ?_ ?_ ?_
      · rw [e1];simp only [List.length_append,List.length_cons,List.length_nil];exact u1.put
      · rw [e1];exact u2.own (by omega)
      · rw [e1];simp only [List.length_append,List.length_cons,List.length_nil,List.map_append,List.map_cons,List.map_nil];have hq3:∀ b,AtP q' b->Z3.y<=b:=fun b hb=>(gG.bd hb).1
        exact gG.only (S:=(·=n)) (Only.own (.inr rfl)) (fun b hb e=>by have:=hq3 b hb;have e:b=n:=e;omega)
    · have e1:dTo pcs (j+1)=((dTo pcs j).1,(dTo pcs j).2+1):=by
        rw [hstep,zMQ,if_neg hne];by_cases h0:0<j
        · have:zDY pc=none:=by
            cases hh:zDY pc with
            | none=>rfl
            | some r=>exact absurd ⟨h0,by rw [hh];rfl⟩ hgood
          rw [if_pos h0,this]
        · rw [if_neg h0]
      obtain ⟨r0,hr0⟩:∃ r0,r0=(zDY pc).getD zJD:=⟨_,rfl⟩;rw [show zUY pc=.tuple ⟨[xT r0,.bool (zDY pc).isSome]⟩ by rw [hr0]] at hr;obtain ⟨z2,hz2⟩:∃ z2,z2=(z1.row (xG zJD) 6).own z1.y (xG r0) 6:=⟨_,rfl⟩;have n2:New z1 z2:=by rw [hz2];exact (New.row _ _ _).own (Nat.le_refl _)
      have u1:=p1.le n2.le;have u2:=p2.le n2.le;have ld:=u2.rw.ld (P:=Pg) zT (k:=0) rfl;have st:=u2.store (P:=Pg) (k:=0) (t:=3) (v:=iV ((dTo pcs j).2+1)) (vs:=[iV ((dTo pcs j).2+1)]) rfl zPA rfl (by simp) rfl;have O4:Only (·=n+1) z1 (z2.own (n+1) [iV ((dTo pcs j).2+1)] 1):=n2.only.trans' (Only.own (S:=(·=n+1)) (.inr rfl)) fun _ _ e=>.inl e
      have hrd:zCT Pg (U.y+1) [.bool (decide (0<j)),.slice q1 l1 c1] z (Fm 45 (ov (wH n (n+1) 48 [.pointer (some ⟨a1,0,none⟩)]) g0)) [21,22] xQ xP U.y [⟨Unit,.normal,fun _=>[],fun _=>[],fun _ x=>x=z2.own (n+1) [iV ((dTo pcs j).2+1)] 1⟩]:=by
        subst hz2;by_cases h0:0<j
        · have hf:(zDY pc).isSome=false:=by
            cases hh:(zDY pc).isSome with
            | false=>rfl
            | true=>exact absurd ⟨h0,hh⟩ hgood
          rw [hf] at hr;rw [decide_eq_true h0];exact yWW (by rw [kl,hL]) (by rw [hz1,hL]) hr ld st rfl (by omega)
        · rw [decide_eq_false h0];exact yWV (by rw [kl,hL]) (by rw [hz1,hL]) hr ld st rfl (by omega)
      refine fin _ hrd q d _ O4 (fun y hy=>.inr (.inl hy)) (by show min _ (n+1)<=_;omega) ?_ ?_ ?_
      · rw [e1];exact u1.own (by omega)
      · rw [e1];exact u2.put
      · rw [e1];exact (pG.le n2.le).only (S:=(·=n+1)) (Only.own (.inr rfl)) (fun b hb e=>by have:=(pG.bd hb).1;have e:b=n+1:=e;omega)
  have hrun:zL Pg 48 [.func (.yield (U.y+1)) ⟨[]⟩ ⟨[]⟩,.pointer (some ⟨a1,0,none⟩)] Ua.re fun v s=>v=.tuple ⟨[]⟩/\K pcs.length s:=by
    have ld:=(oa.le Na).rw.ld (P:=Pg) yGO (k:=0) rfl;subst ht1;refine xPQ ld k2 (Pr:=fun _=>False) (P0:=fun z=>K pcs.length z) ?_ (fun _ h=>h.elim) (fun z h=>yTE ⟨rfl,h⟩);refine yTF (Inv:=fun k i z=>∃ j:Nat,i=(j:Int)/\j+k=pcs.length/\K j z) ?_ pcs.length 0 Z3 ⟨0,rfl,by omega,K0⟩;rintro k i z ⟨j,rfl,hk,hK⟩;by_cases hj:j<pcs.length;rotate_left
    · have:j=pcs.length:=by omega
      subst this;exact xIM hK (by omega)
    obtain ⟨pc,hpc⟩:∃ pc,pcs[j]?=some pc:=⟨pcs[j],by simp [hj]⟩;obtain ⟨q,d,kB,kP,krest⟩:=id hK;obtain ⟨v,hv,q1,l1,c1,rfl,hb1,hat⟩:=kP j pc hpc;have hl1:=hb1.leng;have ld:zH Pg z 49 (zS ⟨B,0,none⟩ (Int.toNat (j:Int)*1))=some (.slice q1 l1 c1):=kB.rw.load1 yGO (by simpa using hv);by_cases he:pc=[]
    · subst he;have hs:dTo pcs (j+1)=dTo pcs j:=by rw [zKH hpc,zMQ,if_pos rfl]
      have hK':K (j+1) z:=by
        obtain ⟨k1,k2,kG,kr⟩:=krest;exact ⟨q,d,kB,kP,by rw [hs];exact k1,by rw [hs];exact k2,by rw [hs];exact kG,by rw [hs];exact kr⟩
      simp at hl1;exact xIN ld ⟨k-1,by omega,j+1,by omega,by omega,hK'⟩ (by omega) (by omega) (by omega) (by omega)
    · obtain ⟨zz,hy,hK'⟩:=round j z pc q1 l1 c1 hK hpc he hb1 hat
      have hpos:0<l1:=by have:=List.length_pos_iff.2 he;omega
      by_cases h0:0<j
      · rw [decide_eq_true h0] at hy;exact xIP ld hy ⟨k-1,by omega,j+1,by omega,by omega,hK'⟩ (by omega) (by omega) (by omega) (by omega) (by omega)
      · rw [decide_eq_false h0] at hy;exact xIO ld hy ⟨k-1,by omega,j+1,by omega,by omega,hK'⟩ (by omega) (by omega) (by omega) (by omega) (by omega)
  obtain ⟨v,s,h1,rfl,q,d,kB,kP,k1,k2,kG,kd,kl,kn,kw,ko,kz⟩:=hrun;have n3nx:Ua.y<=Z3.y:=N3.nx;have eU:(U.add .defd).add (.loop (Fm 45 (ov (wH n (n+1) 48 [.pointer (some ⟨a1,0,none⟩)]) g0)) (⟨[21,22]⟩:Array Tmp).toList xQ xP .ready none U.y)=Ua:=by rw [hUa,hL];rfl
  rw [eU];have w2:∀ z:St,Only (·=U.y+1) z (z.put (U.y+1) (.loop (Fm 45 (ov (wH n (n+1) 48 [.pointer (some ⟨a1,0,none⟩)]) g0)) (⟨[21,22]⟩:Array Tmp).toList xQ xP .exhausted none U.y)):=fun z=>Only.put (.inr rfl)
  by_cases hlw:s.low<=n+1
  · have hle:Le s ⟨s.heap,s.y,min Ua.low s.low⟩:=⟨Nat.le_refl _,fun _ _=>rfl⟩;refine ⟨_,⟨s.heap,s.y,min Ua.low s.low⟩,.ready,none,yLW h1 (by omega) (by omega),by rw [kl,hL];rfl,.inl ⟨rfl,rfl⟩,.inl ⟨rfl, ?_⟩⟩
    have w:=w2 ⟨s.heap,s.y,min Ua.low s.low⟩;refine hQ _ q d Z3.y (fun b hb=>(w.get b (by show b<s.y;omega) (by omega)).trans (ko b hb)) (w.own' (k1.le hle) (fun e=>by have e:n=U.y+1:=e;omega)) (w.own' (k2.le hle) (fun e=>by have e:n+1=U.y+1:=e;omega)) (by omega) ((kG.le hle).only w (fun b hb e=>by have:=(kG.bd hb).1;have e:b=U.y+1:=e;omega)) ((w.get U.y (by show U.y<s.y;omega) (by omega)).trans kd) (by show U.y<s.y;omega) (by show n<=min (min _ _) _;omega)
  · have kz:=kz.resolve_right hlw;by_cases hl2:Ua.y<=s.low
    · refine ⟨_,Ua,.ready,none,zNE h1 hl2 rfl,by rw [Ll,hL];rfl,.inl ⟨rfl,rfl⟩,.inl ⟨rfl, ?_⟩⟩
      have w:=w2 Ua;refine hQ _ none 0 Z3.y (fun b hb=>(w.get b (by omega) (by omega)).trans (hN.le.get b (by omega))) ?_ ?_ (by omega) ?_ ((w.get U.y (by omega) (by omega)).trans Ld) (by show U.y<Ua.y;omega) (by show n<=min _ _;omega)
      · rw [kz];exact w.own' (o1.le hN.le) (fun e=>by have e:n=U.y+1:=e;omega)
      · rw [kz];exact w.own' (o2.le hN.le) (fun e=>by have e:n+1=U.y+1:=e;omega)
      · rw [kz];exact Gr.nil
    · have hle:Le s ⟨s.heap,s.y,min Ua.low s.low⟩:=⟨Nat.le_refl _,fun _ _=>rfl⟩;refine ⟨_,⟨s.heap,s.y,min Ua.low s.low⟩,.ready,none,yLW h1 (by omega) (by omega),by rw [kl,hL];rfl,.inl ⟨rfl,rfl⟩,.inl ⟨rfl, ?_⟩⟩
      have w:=w2 ⟨s.heap,s.y,min Ua.low s.low⟩;refine hQ _ q d Z3.y (fun b hb=>(w.get b (by show b<s.y;omega) (by omega)).trans (ko b hb)) (w.own' (k1.le hle) (fun e=>by have e:n=U.y+1:=e;omega)) (w.own' (k2.le hle) (fun e=>by have e:n+1=U.y+1:=e;omega)) (by omega) ((kG.le hle).only w (fun b hb e=>by have:=(kG.bd hb).1;have e:b=U.y+1:=e;omega)) ((w.get U.y (by show U.y<s.y;omega) (by omega)).trans kd) (by show U.y<s.y;omega) (by show n<=min (min _ _) _;omega)
end
def uC (bs:List Int):List Rec × Int:=dTo (yN bs) (yN bs).length
section
variable {Z U:St} {bs:List Int} {p:Option Addr} {l c:Nat}
theorem yVK {q:Nat} {cs:List Value} (o:Own Z q cs 1) (hc:cs.length=l) (h:yV Z p l bs):∃ Z',zN Pg (evL [.slice (some ⟨q,0,none⟩) l l,.slice p l c]) Z (.call { callee:=.builtin .copy,args:=⟨wN 2⟩,argTypes:=⟨[49,49]⟩ })=some (iV (l:Int),Z')/\Own Z' q (bs.map byV) 1/\Only (·=q) Z Z':=by
 have hl:=yV.len h;have he:xS Pg 49=some (5,1):=by kernel_rfl
 have e0:∀ l:List Value,evL l (.tmp 0)=l.getD 0 undef:=fun _=>rfl
 have e1:∀ l:List Value,evL l (.tmp 1)=l.getD 1 undef:=fun _=>rfl
 have hmin:Nat.min l l=l:=Nat.min_self l;have hsrc:wU Z 1 (.slice p l 0)=some (l,bs.map byV):=by
  cases p with
  | none =>
   have h0:l=0:=h.1.2;subst h0;have:bs=[]:=List.eq_nil_of_length_eq_zero hl;subst this;rfl
  | some a =>
   have hr:Row Z a (wI (bs.map byV)):=h.1.2;rw [zMM] at hr;have hrd:=hr.rd;rw [List.length_map,hl] at hrd;simp only [wU,Nat.mul_one,hrd,Option.map_some]
 by_cases h0:l=0
 ·subst h0;have hb:bs=[]:=List.eq_nil_of_length_eq_zero hl;have hcs:cs=[]:=List.eq_nil_of_length_eq_zero hc;subst hb hcs;refine ⟨Z, ?_,o,Only.refl _ _⟩
  unfold zN;simp only [show wN 2=[.tmp 0,.tmp 1] from rfl,List.map_cons,List.map_nil,e0,e1,List.getD_cons_zero,List.getD_cons_succ,he,hmin,hsrc];rfl
 ·have hw:yZ Z ⟨q,0,none⟩ (bs.map byV)=some (Z.own q (bs.map byV) 1):=by
   have h2:(Nat.beq 0 0 && Nat.ble (0+(bs.map byV).length) cs.length && !false && (bs.map byV).all cellB)=true:=by
    rw [xMJ,(zP _ _).2 (by simp;omega)];rfl
   unfold yZ;simp only [o.get,zZ,Option.getD_none,h2,cond_true,zBU,St.write_eq];unfold St.own;have hd:cs.drop (0+(bs.map byV).length)=[]:=List.drop_eq_nil_of_le (by simp;omega);rw [hd];simp only [List.take_zero,List.nil_append,List.append_nil];rw [show (bs.map byV).length=cs.length by simp;omega]
  have hb:Nat.beq l 0=false:=by rw [Bool.eq_false_iff];intro e;exact h0 (Nat.eq_of_beq_eq_true e)
  refine ⟨Z.own q (bs.map byV) 1, ?_,o.put,Only.own (.inr rfl)⟩
  unfold zN;simp only [show wN 2=[.tmp 0,.tmp 1] from rfl,List.map_cons,List.map_nil,e0,e1,List.getD_cons_zero,List.getD_cons_succ,he,hmin,hsrc,hb,cond_false,hw];rfl
theorem xTX {q:Nat} (o:Own Z q (bs.map byV) 1) (hl:bs.length=l) (hb:l<=1073741824):BS Z (some ⟨q,0,none⟩) l l bs :=
 yGL o.rw hl (by simp [zDG,o.get,zZ,wR]) (by rw [zAP (zKF hb)];exact Nat.le_refl _)
theorem xOG (h:yV Z p l bs) (hb:Bts bs) (hl:l<=1000000) :
  ((5000<l\/60<(uC bs).1.length)/\zJ Pg 13 [.slice p l c] Z (.tuple ⟨[.slice none 0 0,iV 0,iV 3]⟩) Z) \/
  (l<=5000/\(uC bs).1.length<=60/\∃ q d Z',zJ Pg 13 [.slice p l c] Z (.tuple ⟨[.slice q (uC bs).1.length d,iV (uC bs).2,iV 0]⟩) Z'/\New Z Z'/\wB Z' 64 q (uC bs).1.length (uC bs).1/\∀ b,AtP q b->Z.y<=b):=by
 have hbl:=yV.len h;have N0:New Z.re ((Z.re.row [.slice none 0 0] 1).row [iV 0] 1):=(New.row _ _ _).row';have o1:Own ((Z.re.row [.slice none 0 0] 1).row [iV 0] 1) Z.y [.slice none 0 0] 1:=(zI _ _ _).row;have o2:Own ((Z.re.row [.slice none 0 0] 1).row [iV 0] 1) (Z.y+1) [iV 0] 1:=zI _ _ _;by_cases h5:5000<l
 ·refine .inl ⟨.inl h5,zL.pure (xGC ⟨rfl, ?_⟩ (by omega))⟩;show Z.y<=min (min Z.y Z.y) (Z.y+1)
  omega
 have mk:=yYZ (P:=Pg) (Z:=(Z.re.row [.slice none 0 0] 1).row [iV 0] 1) (st:=49) (e:=5) (z:=.int .u8 0) (n:=1) (by kernel_rfl) (by kernel_rfl) (len:=l) (by omega);obtain ⟨s1,hs1⟩:∃ s1,s1=((Z.re.row [.slice none 0 0] 1).row [iV 0] 1).row (yL [.int .u8 0] l) 1:=⟨_,rfl⟩;have N1:New Z.re s1:=by rw [hs1];exact N0.row'
 have n1:New ((Z.re.row [.slice none 0 0] 1).row [iV 0] 1) s1:=by rw [hs1];exact New.row _ _ _
 have o3:Own s1 (Z.y+2) (yL [.int .u8 0] l) 1:=by rw [hs1];exact zI _ _ _
 obtain ⟨s3,kc,oc,wc⟩:=yVK (c:=c) o3 (by rw [zEI];simp) ((SlV.le h (le0 Z)).le N1.le);have N3:New Z.re s3:=N1.of_only wc fun b hb=>by have hb:b=Z.y+2:=hb;show Z.y<=b;omega
 have w1:Own s3 Z.y [.slice none 0 0] 1:=wc.own' (o1.le n1.le) (fun e=>by have e:Z.y=Z.y+2:=e;omega);have w2:Own s3 (Z.y+1) [iV 0] 1:=wc.own' (o2.le n1.le) (fun e=>by have e:Z.y+1=Z.y+2:=e;omega);obtain ⟨b,s6,k6,n6,ob,hb6⟩:=xIL (Z:=s3) (p:=some ⟨Z.y+2,0,none⟩) (l:=l) (c:=l);have N6:=N3.trans n6;have bd:=yVJ (yN bs) (yN bs).length;have hR:=xDI (n:=Z.y) (a1:=b) (U:=s6) (p:=some ⟨Z.y+2,0,none⟩) (l:=l) (c:=l) (bs:=bs)
  (Pn:=fun z=>∃ q d n1,(∀ b,b<Z.y->yD z.heap b=yD Z.heap b)/\Own z Z.y [.slice q (uC bs).1.length d] 1/\Own z (Z.y+1) [iV (uC bs).2] 1/\s6.y+2<=n1/\Gr Pg z n1 64 6 q (uC bs).1.length d ((uC bs).1.map xT)/\yD z.heap s6.y=some .defd/\s6.y<z.y/\Z.y<=z.low)
  hb (by omega) ob ((xTX oc hbl (by omega)).le n6.le) (w1.le n6.le) (w2.le n6.le) (by rintro k ⟨_,e,rfl⟩;cases e;show Z.y+1<Z.y+2;omega) N6.lw
  (fun z q d n1 g0 g1 g2 g3 g4 g5 g6 g7=>⟨q,d,n1,fun b hb=>(g0 b hb).trans (N6.le.get b hb),g1,g2,g3,g4,g5,g6,g7⟩)
 have hs6:Z.y+2<=s6.y:=by have h1:=(oc.le n6.le).lt;omega
 have key:zL Pg 13 [.slice p l c] Z.re fun v s=>New Z.re s/\((60<(uC bs).1.length/\v=.tuple ⟨[.slice none 0 0,iV 0,iV 3]⟩)\/((uC bs).1.length<=60/\∃ q d,v=.tuple ⟨[.slice q (uC bs).1.length d,iV (uC bs).2,iV 0]⟩/\wB s 64 q (uC bs).1.length (uC bs).1/\∀ b,AtP q b->Z.y<=b)):=by
  subst hs1;refine xGB mk kc k6 hR ?_ (by omega);rintro z ⟨q,d,n1,g0,g1,g2,g3,g4,g5,g6,g7⟩;have l1:=g1.rw.ld (P:=Pg) zIZ (k:=0) rfl;have l2:=g2.rw.ld (P:=Pg) zT (k:=0) rfl;have tail:∀ (v1:Value) (m:Int),∃ s,yGS [s6.y] ((z.own Z.y [v1] 1).own (Z.y+1) [iV m] 1) s/\Own s Z.y [v1] 1/\Own s (Z.y+1) [iV m] 1/\New Z.re s/\∀ q d n1,s6.y+2<=n1->Gr Pg z n1 64 6 q (uC bs).1.length d ((uC bs).1.map xT)->wB s 64 q (uC bs).1.length (uC bs).1:=by
   intro v1 m;have kk:Only (fun y=>y=Z.y\/y=Z.y+1) z ((z.own Z.y [v1] 1).own (Z.y+1) [iV m] 1):=((Only.own (S:=(·=Z.y)) (.inr rfl)).mono (T:=fun y=>y=Z.y\/y=Z.y+1) fun b _ e=>.inl e).trans' (Only.own (S:=(·=Z.y+1)) (.inr rfl)) (fun b _ e=>.inl (.inr e));have q1:=(g1.put (ds:=[v1])).own (ds:=[iV m]) (m:=1) (c:=Z.y+1) (by omega);have q2:=(g2.own (ds:=[v1]) (m:=1) (c:=Z.y) (by omega)).put (ds:=[iV m]);obtain ⟨z8,hz8⟩:∃ z8,z8=(z.own Z.y [v1] 1).own (Z.y+1) [iV m] 1:=⟨_,rfl⟩;have g1:Own z8 Z.y [v1] 1:=by
    rw [hz8];refine ⟨?_,q1.lt⟩
    have:=q1.get;simpa using this
   have g2:Own z8 (Z.y+1) [iV m] 1:=by rw [hz8];exact q2
   rw [<- hz8] at kk ⊢;have hd:yD z8.heap s6.y=some .defd:=(kk.get _ g6 (by omega)).trans g5;obtain ⟨s,m1,m2,m3,m4⟩:=zWH (ms:=[s6.y]) (Z:=z8) (by intro d hd';simp at hd';rw [hd'];exact hd) (by simp);have n8:z8.y=z.y:=by rw [hz8];rfl
   have lo8:Z.y<=z8.low:=by rw [hz8];show Z.y<=min (min _ _) _;omega
   refine ⟨s,m1,⟨(m3 _ (by simp;omega)).trans g1.get,by rw [m2];exact g1.lt⟩,⟨(m3 _ (by simp;omega)).trans g2.get,by rw [m2];exact g2.lt⟩,⟨⟨by show Z.y<=s.y;omega,fun b hb=>?_⟩,fun k e1 e2=>?_⟩,fun q d n1 hn1 hG=>?_⟩
   ·have hb:b<Z.y:=hb;exact (m3 b (by simp;omega)).trans ((kk.get b (by omega) (by omega)).trans (g0 b hb))
   ·have e2:k<=Z.y:=e2;have:=m4 Z.y lo8 (by intro d hd';simp at hd';omega);omega
   ·have hh:SlV Pg z8 64 6 q (uC bs).1.length ((uC bs).1.map xT):=(hG.only kk (fun b hb e=>by have:=(hG.bd hb).1;omega)).slv;refine ⟨⟨hh.1.1, ?_⟩,hh.2⟩
    cases q with
    | none=>exact hh.1.2
    | some a =>
     have hrow:Row z8 a (wI ((uC bs).1.map xT)):=hh.1.2;have hab:=(hG.bd ⟨a,rfl,rfl⟩).1;refine ⟨?_,by rw [m2];exact hrow.lt⟩
     have hrd:=hrow.rd;unfold yR at hrd ⊢;rw [m3 _ (by simp;omega)];exact hrd
  by_cases h60:60<(uC bs).1.length
  ·have st1:=g1.store (P:=Pg) (k:=0) (t:=52) (v:=.slice none 0 0) (vs:=[.slice none 0 0]) (ds:=[.slice none 0 0]) rfl zWF rfl (by simp) rfl;have p2:=g2.own (ds:=[.slice none 0 0]) (m:=1) (c:=Z.y) (by omega);have st2:=p2.store (P:=Pg) (k:=0) (t:=3) (v:=iV 0) (vs:=[iV 0]) (ds:=[iV 0]) rfl zPA rfl (by simp) rfl;obtain ⟨s,m1,u1,u2,hN,_⟩:=tail (.slice none 0 0) 0;exact yJU l1 st1 st2 m1 (u1.rw.ld zIZ (k:=0) rfl) (u2.rw.ld zT (k:=0) rfl) ⟨hN,.inl ⟨h60,rfl⟩⟩ (by omega)
  ·have st1:=g1.store (P:=Pg) (k:=0) (t:=52) (v:=.slice q (uC bs).1.length d) (vs:=[.slice q (uC bs).1.length d]) (ds:=[.slice q (uC bs).1.length d]) rfl zWF rfl (by simp) rfl;have p2:=g2.own (ds:=[.slice q (uC bs).1.length d]) (m:=1) (c:=Z.y) (by omega);have st2:=p2.store (P:=Pg) (k:=0) (t:=3) (v:=iV (uC bs).2) (vs:=[iV (uC bs).2]) (ds:=[iV (uC bs).2]) rfl zPA rfl (by simp) rfl;obtain ⟨s,m1,u1,u2,hN,hG⟩:=tail (.slice q (uC bs).1.length d) (uC bs).2;have hlt:∀ a,q=some a->a.block<z.y:=fun a e=>(g4.bd ⟨a,e,rfl⟩).2
   have hge:∀ b,AtP q b->Z.y<=b:=fun b hb=>by have:=(g4.bd hb).1;omega
   exact yJT l1 l2 st1 st2 (zM (zV p2.lt) (zM (zCR rfl) zO)) ⟨⟨p2.lt,rfl⟩,p2.rw.ld zT (k:=0) rfl⟩ m1 (u1.rw.ld zIZ (k:=0) rfl) (u2.rw.ld zT (k:=0) rfl) hlt ⟨hN,.inr ⟨by omega,q,d,rfl,hG q d n1 g3 g4,hge⟩⟩ (by omega) g1.lt g2.lt
 by_cases h60:60<(uC bs).1.length
 ·refine .inl ⟨.inr h60,zL.pure (key.mono ?_)⟩;rintro v s ⟨hN,⟨_,e⟩ | ⟨e,_⟩⟩
  ·exact ⟨e,hN.lw⟩
  ·omega
 ·refine .inr ⟨by omega,by omega, ?_⟩;obtain ⟨v,Z',e1,e2,q,d,rfl,e3,e4⟩:=zL.new (Q:=fun v s=>∃ q d,v=.tuple ⟨[.slice q (uC bs).1.length d,iV (uC bs).2,iV 0]⟩/\wB s 64 q (uC bs).1.length (uC bs).1/\∀ b,AtP q b->Z.y<=b) (key.mono (by
   rintro v s ⟨hN,⟨e,_⟩ | ⟨_,e⟩⟩
   ·omega
   ·exact ⟨hN,e⟩)) (by
   rintro v s s' ⟨q,d,rfl,g,g'⟩ hle;exact ⟨q,d,rfl,SlV.le g hle,g'⟩) (by
   rintro v s hr ⟨q,d,rfl,g,g'⟩;refine ⟨q,d,rfl, ?_,g'⟩
   cases q with
   | none=>exact zAV g
   | some a=>exact Bool.noConfusion (show false=true from hr))
  exact ⟨q,d,Z',e1,e2,e3,e4⟩
end
section
variable {p:Option Addr} {l c:Nat} {xs:List Rec}
section
variable {Z:St}
theorem zDI.single {ts te b:Nat} (ha:vE Tryz.prog ts=some false) (o:Own Z b [.slice p l c] 1) (h:wB Z te p l xs):zDI Z ts te (some ⟨b,0,none⟩) 1 [xs]:=by
 have hl:=h.len;refine ⟨[.slice p l c],⟨⟨rfl,o.rw⟩,rfl, ?_⟩,rfl, ?_⟩
 ·intro v hv;simp at hv;subst hv;exact .inl ⟨ha,rfl,rfl⟩
 ·intro i r hi;rcases i with _ | i
  ·cases hi;exact ⟨p,c,by rw [hl];rfl,by rw [hl];exact h⟩
  ·simp at hi
theorem zYY:zAT [xs]=if 60<xs.length then 3 else if xs.all yQ then 0 else 1:=by
 unfold zAT;by_cases h:xs.length<=60
 ·cases h2:xs.all yQ <;> simp [h,h2,show ¬ 60<xs.length by omega]
 ·simp [h,show 60<xs.length by omega]
theorem yVE {l:List Rec} (h:l.all yQ=true):∀ s,((l.take s).flatMap uX).length<=55*s:=by
 intro s;induction s with
 | zero=>simp
 | succ s ih =>
  by_cases hs:s<l.length
  ·have hx:l[s]?=some l[s]:=by simp [hs]
   have:=zLX (List.all_eq_true.1 h _ (List.mem_of_getElem? hx));rw [yM hx,List.flatMap_append,List.length_append];simp only [List.flatMap_cons,List.flatMap_nil,List.append_nil];omega
  ·rw [List.take_of_length_le (by omega)] at ih ⊢;omega
theorem xOF (h:wB Z 64 p l xs) (hl:l<=1073741824) (hb:∀ x∈xs,Byte x) :
  (zAT [xs]≠0/\zJ Tryz.prog 11 [.slice p l c] Z (.tuple ⟨[.slice none 0 0,iV (zAT [xs])]⟩) Z) \/
  (zAT [xs]=0/\∃ q d Z',zJ Tryz.prog 11 [.slice p l c] Z (.tuple ⟨[.slice q (zAR xs).length d,iV 0]⟩) Z'/\New Z Z'/\yV Z' q (zAR xs).length (zAR xs)/\zRF Z' q (zAR xs).length d):=by
 have hlen:=h.len;have N1:New Z.re (Z.re.row [.slice p l c] 1):=New.row _ _ _;have o1:Own (Z.re.row [.slice p l c] 1) Z.y [.slice p l c] 1:=zI _ _ _;have h1:wB (Z.re.row [.slice p l c] 1) 64 p l xs:=SlV.le (SlV.le h (le0 Z)) N1.le;have k1:=yGI (c:=1) (zDI.single zIZ o1 h1) (by omega) (by intro r hr;simp at hr;subst hr;exact ⟨by omega,hb⟩);by_cases hz:zAT [xs]=0;rotate_left
 ·exact .inl ⟨hz,(xGA k1 ⟨rfl,N1.lw⟩ hz).pure⟩
 right;have hz':=hz;rw [zYY] at hz;have h60:xs.length<=60:=by
  by_cases e:60<xs.length
  ·rw [if_pos e] at hz;cases hz
  ·omega
 have hall:xs.all yQ=true:=by
  rw [if_neg (by omega)] at hz;cases e:xs.all yQ with
  | true=>rfl
  | false=>rw [e] at hz;cases hz
 refine ⟨hz', ?_⟩
 suffices hmain:zL Tryz.prog 11 [.slice p l c] Z.re fun v s=>New Z.re s/\∃ q d,v=.tuple ⟨[.slice q (zAR xs).length d,iV 0]⟩/\yV s q (zAR xs).length (zAR xs)/\(∀ b,AtP q b->Z.y<=b)/\zRF s q (zAR xs).length d by
  obtain ⟨q,d,Z',g1,g2,g3,_,g5⟩:=zL.newCut (W:=fun v=>.tuple ⟨[v,iV 0]⟩) (fun p c h=>by cases p with | none=>rfl | some a=>exact Bool.noConfusion (show false=true from h)) hmain
  exact ⟨q,d,Z',g1,g2,g3,g5⟩
 refine xFZ k1 (P0:=fun p l c U=>l=(zAR xs).length/\New Z.re U/\yV U p l (zAR xs)/\(∀ b,AtP p b->Z.y<=b)/\zRF U p l c) (yJS (Inv:=fun k q m d i U=>∃ s:Nat,i=s/\s+k=l/\m=((xs.take s).flatMap uX).length/\New Z.re U/\yV U q m ((xs.take s).flatMap uX)/\(∀ b,AtP q b->Z.y<=b)/\zRF U q m d) ?_ l none 0 0 0 _ ⟨0,rfl,by omega,rfl,N1,⟨⟨rfl,rfl⟩,rfl,by simp⟩,fun b hb=>(AtP.none hb).elim,rfl⟩) (by
  rintro q m d U ⟨rfl,hN,hp,hq,hc⟩;exact yJR ⟨hN,q,d,rfl,hp,hq,hc⟩) (by omega)
 rintro k q m d i U ⟨s,rfl,hk,rfl,hN,hp,hq,hc⟩;by_cases hs:s<l;rotate_left
 ·rw [List.take_of_length_le (by omega)] at hp hc ⊢;exact yWS ⟨rfl,hN,hp,hq,hc⟩ (by omega)
 obtain ⟨a,rfl,x,hx,ld⟩:=wS ((SlV.le h (le0 Z)).le hN.le) hs;have hxr:=List.all_eq_true.1 hall x (List.mem_of_getElem? hx);have hf:=zLX hxr;have hto:=yVE hall s;have N2:New U ((U.row (rcd 0 0 0 0 0 0) 6).own U.y (xG x) 6):=(New.row _ _ _).own (Nat.le_refl _);obtain ⟨p2,c2,U2,k2,n2,b2,_⟩:=xQN (Z:=(U.row (rcd 0 0 0 0 0 0) 6).own U.y (xG x) 6) hxr;obtain ⟨p3,c3,U3,k3,n3,b3,f3,g3⟩:=yZE (c:=d) (d:=c2) ((SlV.le hp N2.le).le n2.le) b2 (by omega);have e:(xs.take (s+1)).flatMap uX=(xs.take s).flatMap uX++uX x:=by rw [yM hx,List.flatMap_append];simp
 exact yWT ld k2 k3 ⟨k-1,by omega,s+1,by omega,by omega,by rw [e],(((hN.trans N2).trans n2).row').trans n3,by rw [e];exact b3,fun b hb=>by have h1:=f3 b hb;have h2:=(hN.trans (N2.trans n2)).nx;exact Nat.le_trans h2 h1,g3⟩ (by omega)
end
end
section
variable {xs:List Rec}
def yNP (x:Rec):List Int:=(yI x).flatMap zAL
theorem xQV (c:Int):(126:Int) ∉ zAL c:=by
 unfold zAL;split
 ·simp
 ·split
  ·simp
  ·rename_i h _;simp;omega
theorem xQT (x:Rec):(126:Int) ∉ yNP x:=fun h=>by
 obtain ⟨c,_,h⟩:=List.mem_flatMap.1 h;exact xQV c h
theorem xQU (x:Rec):yNP x≠[]:=by
 unfold yNP yI wA;rw [List.cons_append,List.flatMap_cons];unfold zAL;split
 ·simp
 ·split <;> simp
theorem zVZ:∀ {a b p:List Int} {ps:List (List Int)},(126:Int) ∉ a->yN b=p::ps->yN (a++b)=(a++p)::ps
 | [],b,p,ps,_,h=>h
 | c::a,b,p,ps,hn,h=>by
  have hc:c≠126:=fun e=>hn (by rw [e];simp)
  have ih:=zVZ (a:=a) (fun e=>hn (List.mem_cons_of_mem _ e)) h;rw [List.cons_append,yN,if_neg hc,ih];rfl
theorem zTR:∀ xs:List Rec,yN (zAR xs)=[]::xs.map yNP
 | []=>rfl
 | x::xs=>by
  have ih:=zTR xs;have e:zAR (x::xs)=126::(yNP x++zAR xs):=by
   unfold zAR;rw [List.flatMap_cons];rfl
  rw [e,yN,if_pos rfl,zVZ (xQT x) ih,List.append_nil];rfl
theorem yNX {pcs:List (List Int)} {xs:List Rec} (h0:pcs=[]::xs.map yNP) (hr:xs.all yQ=true):∀ k,k<=xs.length->dTo pcs (k+1)=(xs.take k,0)
 | 0,_=>by
  rw [zKH (pc:=[]) (by rw [h0];rfl)];unfold zMQ;rw [if_pos rfl];rfl
 | k+1,hk=>by
  have ih:=yNX h0 hr k (by omega);obtain ⟨x,hx⟩:∃ x,xs[k]?=some x:=⟨xs[k]'(by omega),List.getElem?_eq_getElem _⟩;have hxr:=List.all_eq_true.1 hr x (List.mem_of_getElem? hx);rw [zKH (pc:=yNP x) (by rw [h0];simp [hx]),ih];unfold zMQ;rw [if_neg (xQU x),if_pos (Nat.succ_pos _),show zDY (yNP x)=some x from xHW hxr];show (xs.take k++[x],(0:Int))=_;rw [yM hx]
theorem xDJ (hr:xs.all yQ=true):uC (zAR xs)=(xs,0):=by
 unfold uC;have e:=zTR xs;have h:=yNX e hr xs.length (Nat.le_refl _);rw [show (yN (zAR xs)).length=xs.length+1 by rw [e];simp,h,List.take_length]
theorem yZQ:∀ {xs:List Rec},xs.all yQ=true->(zAR xs).length<=55*xs.length
 | [],_=>by simp [zAR]
 | x::xs,h=>by
  simp only [List.all_cons,Bool.and_eq_true] at h;have ih:=yZQ h.2;have hf:=zLX h.1;have e:zAR (x::xs)=uX x++zAR xs:=by unfold zAR;rw [List.flatMap_cons]
  rw [e,List.length_append,List.length_cons];omega
theorem xLJ (xs:List Rec):Bts (zAR xs):=fun y hy=>by
 obtain ⟨x,_,h⟩:=List.mem_flatMap.1 hy;unfold uX at h;rcases List.mem_cons.1 h with e | e
 ·omega
 ·obtain ⟨c,hc,h⟩:=List.mem_flatMap.1 e;have:=zUO (x:=x) c hc;unfold zAL at h;split at h
  ·simp at h;omega
  ·split at h
   ·simp at h;omega
   ·simp at h;omega
theorem xDB (h:xs.length<=60) (h2:xs.all yQ=true):zAT [xs]=0:=by
 rw [zYY,if_neg (by omega),h2];rfl
theorem ySH (h:xs.all yQ=true):∀ x∈xs,Byte x:=fun x hx=>by
 have:=yKQ (List.all_eq_true.1 h x hx);exact ⟨this.1,by omega⟩
end
section
variable {l p8_1:Option Addr} {l_l l_c BA BB l8_1 c8_1:Nat} {Qr:(Option Addr)->Nat->Nat->(Option Addr)->Nat->Nat->Bool->St->Prop} {Q0:(Option Addr)->Nat->Nat->St->Prop} {aK nBM:Int} {l_a:Addr} {xA:Tp} {Z:St} {Nx:(Option Addr)->Nat->Nat->Int->St->Prop} {Q:Value->St->Prop} {T1875:Trf}
noncomputable def yYQ:Code:=(Code.part [1,1,1,0,1,0,0] (zR Pg 7))
def zVI (l:Option Addr) (l_l l_c BA BB:Nat) (p8_1:Option Addr) (l8_1 c8_1:Nat) (aK:Int):List (Nat × Value):=[(1,.slice l l_l l_c),(2,.pointer (some ⟨BA,0,none⟩)),(7,.slice (some ⟨BB,0,none⟩) 4 4),(8,.slice p8_1 l8_1 c8_1),(9,iV aK)]
def xJB (l:Option Addr) (l_l l_c BA BB:Nat) (Q:(Option Addr)->Nat->Nat->Int->St->Prop):Alt:=⟨(Option Addr) × Nat × Nat × Int,.normal,fun t=>zVI l l_l l_c BA BB t.1 t.2.1 t.2.2.1 t.2.2.2,fun t=>[],fun t Z=>Q t.1 t.2.1 t.2.2.1 t.2.2.2 Z⟩
def yEM (l:Option Addr) (l_l l_c BA BB:Nat) (p4_1:Option Addr) (l4_1 c4_1:Nat) (a7:Option Addr) (a8 ba:Nat) (t6_1:Bool):List (Nat × Value):=[(4,.slice p4_1 l4_1 c4_1),(5,.slice a7 a8 ba),(6,.bool t6_1)]
def zRY (l:Option Addr) (l_l l_c BA BB:Nat) (Q:(Option Addr)->Nat->Nat->(Option Addr)->Nat->Nat->Bool->St->Prop):Alt:=⟨(Option Addr) × Nat × Nat × (Option Addr) × Nat × Nat × Bool,.ret,fun t=>yEM l l_l l_c BA BB t.1 t.2.1 t.2.2.1 t.2.2.2.1 t.2.2.2.2.1 t.2.2.2.2.2.1 t.2.2.2.2.2.2,fun t=>[],fun t Z=>Q t.1 t.2.1 t.2.2.1 t.2.2.2.1 t.2.2.2.2.1 t.2.2.2.2.2.1 t.2.2.2.2.2.2 Z⟩
def yEN (l:Option Addr) (l_l l_c BA BB:Nat) (p8_1:Option Addr) (l8_1 c8_1:Nat):List (Nat × Value):=[(2,.pointer (some ⟨BA,0,none⟩)),(7,.slice (some ⟨BB,0,none⟩) 4 4),(8,.slice p8_1 l8_1 c8_1)]
def zRZ (l:Option Addr) (l_l l_c BA BB:Nat) (Q:(Option Addr)->Nat->Nat->St->Prop):Alt:=⟨(Option Addr) × Nat × Nat,(.exit 0),fun t=>yEN l l_l l_c BA BB t.1 t.2.1 t.2.2,fun t=>[],fun t Z=>Q t.1 t.2.1 t.2.2 Z⟩
def zVJ (l:Option Addr) (l_l l_c BA BB:Nat) (p8_1:Option Addr) (l8_1 c8_1:Nat) (aK:Int) (Z:St) (Nx:(Option Addr)->Nat->Nat->Int->St->Prop) (Qr:(Option Addr)->Nat->Nat->(Option Addr)->Nat->Nat->Bool->St->Prop) (Q0:(Option Addr)->Nat->Nat->St->Prop):Prop:=xK Pg (zW Pg) none yYQ 50 (zVI l l_l l_c BA BB p8_1 l8_1 c8_1 aK) [] [xJB l l_l l_c BA BB Nx,zRY l l_l l_c BA BB Qr,zRZ l l_l l_c BA BB Q0] Z
def yYR (l:Option Addr) (l_l l_c BA BB:Nat) (p8_1:Option Addr) (l8_1 c8_1:Nat) (aK:Int) (Z:St) (Qr:(Option Addr)->Nat->Nat->(Option Addr)->Nat->Nat->Bool->St->Prop) (Q0:(Option Addr)->Nat->Nat->St->Prop):Prop:=xO Pg (zW Pg) none yYQ 50 (zVI l l_l l_c BA BB p8_1 l8_1 c8_1 aK) [] [zRY l l_l l_c BA BB Qr,zRZ l l_l l_c BA BB Q0] Z
theorem yTQ {Inv:Nat->(Option Addr)->Nat->Nat->Int->St->Prop} (hb:∀ k p8_1 l8_1 c8_1 aK Z,Inv k p8_1 l8_1 c8_1 aK Z->zVJ l l_l l_c BA BB p8_1 l8_1 c8_1 aK Z (NX4 Inv k) Qr Q0):∀ k p8_1 l8_1 c8_1 aK Z,Inv k p8_1 l8_1 c8_1 aK Z->yYR l l_l l_c BA BB p8_1 l8_1 c8_1 aK Z Qr Q0 :=
 zAS (And.intro zAW (And.intro (vN 0) trivial)) hb
theorem xJA {lD cD:Nat} {qC:Option Addr} {nE nC:Int} {ZC ZK:St} (h1:zH Pg Z 37 (zS l_a (Int.toNat aK*7))=some (.agg ⟨tpL xA⟩)) (h2:zJ Pg 15 [iV xA.m,iV 0,iV 3] ((Z.row (yH 0 0 0 0 0 0 0) 7).own Z.y (tpL xA) 7) (.bool true) ((Z.row (yH 0 0 0 0 0 0 0) 7).own Z.y (tpL xA) 7)) (h3:zH Pg ((Z.row (yH 0 0 0 0 0 0 0) 7).own Z.y (tpL xA) 7) 3 ⟨BB,0+Int.toNat xA.m*1,none⟩=some (iV nE)) (h4:zH Pg (((Z.row (yH 0 0 0 0 0 0 0) 7).own Z.y (tpL xA) 7).own Z.y (yH xA.m nE xA.c xA.r.d xA.r.t xA.r.a xA.r.b) 7) 3 ⟨BB,0+Int.toNat xA.m*1,none⟩=some (iV nC)) (h5:zN Pg (evL [.pointer (some ⟨BB,0+Int.toNat xA.m*1,none⟩),iV (nC+1)]) (((Z.row (yH 0 0 0 0 0 0 0) 7).own Z.y (tpL xA) 7).own Z.y (yH xA.m nE xA.c xA.r.d xA.r.t xA.r.a xA.r.b) 7) (.store 3 (.tmp 0) (.tmp 1))=some (undef,ZC)) (h6:zH Pg ZC 37 ⟨Z.y,0,none⟩=some (.agg ⟨yH xA.m nE xA.c xA.r.d xA.r.t xA.r.a xA.r.b⟩)) (h7:yA Pg 25 25 (.slice p8_1 l8_1 c8_1) (.slice (some ⟨ZC.y,0,none⟩) 1 1) (ZC.row (yH xA.m nE xA.c xA.r.d xA.r.t xA.r.a xA.r.b) 7)=some (.slice qC lD cD,ZK)) (nx:Nx qC lD cD (aK+1) ZK) (u1:aK<((l_l:Nat):Int):=by omega) (u2:Ix aK l_l:=by omega) (u3:Ix xA.m 4:=by omega) (u4:I6 (nC+1):=by omega) (u5:I6 (aK+1):=by omega):zVJ (some l_a) l_l l_c BA BB p8_1 l8_1 c8_1 aK Z Nx Qr Q0 :=
 let s1:=Z.row (yH 0 0 0 0 0 0 0) 7;let s2:=s1.own Z.y (tpL xA) 7;let s3:=s2.own Z.y (yH xA.m nE xA.c xA.r.d xA.r.t xA.r.a xA.r.b) 7;kO 0 (qC,lD,cD,aK+1) [.g,.g,.g,.b true,.g,.g,.i,.l (.agg ⟨tpL xA⟩),.g,.e undef s2,.g,.l (iV xA.m),.c (.bool true) s2,.g,.g,.g,.l (iV xA.m),.i,.l (iV nE),.g,.e undef s3,.g,.g,.l (iV xA.m),.i,.l (iV nC),.n (nC+1),.i,.e undef ZC,.g,.l (.agg ⟨yH xA.m nE xA.c xA.r.d xA.r.t xA.r.a xA.r.b⟩),.g,.e (.slice qC lD cD) ZK,.g,.g,.n (aK+1),.g] (fun _ f=>(And.intro (zU u1) (an6 u2 h1 ((zI _ _ _).store (vs:=(tpL xA)) rfl zEQ rfl (nle rfl) rfl:zN Pg (evL [.pointer (some ⟨Z.y,0,none⟩),.agg ⟨tpL xA⟩]) s1 (.store 37 (.tmp 0) (.tmp 1))=some (undef,s2)) ((zI _ _ _).put.rw.ld zT (k:=0) rfl:zH Pg s2 3 ⟨Z.y,0,none⟩=some (iV xA.m)) h2 ((zI _ _ _).put.rw.ld zT (k:=0) rfl:zH Pg s2 3 ⟨Z.y,0,none⟩=some (iV xA.m)) (an6 u3 h3 ((zI _ _ _).put.store (vs:=[iV nE]) rfl zPA rfl (nle rfl) rfl:zN Pg (evL [.pointer (some ⟨Z.y,1,none⟩),iV nE]) s2 (.store 3 (.tmp 0) (.tmp 1))=some (undef,s3)) ((zI _ _ _).put.put.rw.ld zT (k:=0) rfl:zH Pg s3 3 ⟨Z.y,0,none⟩=some (iV xA.m)) u3 h4 (an6 (w64 u4) u3 h5 h6 h7 (w64 u5) f))))) nx
theorem xIZ (h1:zH Pg Z 37 (zS l_a (Int.toNat aK*7))=some (.agg ⟨tpL xA⟩)) (h2:zJ Pg 15 [iV xA.m,iV 0,iV 3] ((Z.row (yH 0 0 0 0 0 0 0) 7).own Z.y (tpL xA) 7) (.bool false) ((Z.row (yH 0 0 0 0 0 0 0) 7).own Z.y (tpL xA) 7)) (nx:Qr none (0:Nat) (0:Nat) none (0:Nat) (0:Nat) false ((Z.row (yH 0 0 0 0 0 0 0) 7).own Z.y (tpL xA) 7)) (u1:aK<((l_l:Nat):Int):=by omega) (u2:Ix aK l_l:=by omega):zVJ (some l_a) l_l l_c BA BB p8_1 l8_1 c8_1 aK Z Nx Qr Q0 :=
 let s1:=Z.row (yH 0 0 0 0 0 0 0) 7;let s2:=s1.own Z.y (tpL xA) 7;kO 1 (none,(0:Nat),(0:Nat),none,(0:Nat),(0:Nat),false) [.g,.g,.g,.b true,.g,.g,.i,.l (.agg ⟨tpL xA⟩),.g,.e undef s2,.g,.l (iV xA.m),.c (.bool false) s2,.g,.g,.g,.g] (fun _ f=>(an6 (zU u1) u2 h1 ((zI _ _ _).store (vs:=(tpL xA)) rfl zEQ rfl (nle rfl) rfl:zN Pg (evL [.pointer (some ⟨Z.y,0,none⟩),.agg ⟨tpL xA⟩]) s1 (.store 37 (.tmp 0) (.tmp 1))=some (undef,s2)) ((zI _ _ _).put.rw.ld zT (k:=0) rfl:zH Pg s2 3 ⟨Z.y,0,none⟩=some (iV xA.m)) h2 f)) nx
theorem xIY (nx:Q0 p8_1 l8_1 c8_1 Z) (u1:¬ aK<((l_l:Nat):Int):=by omega):zVJ l l_l l_c BA BB p8_1 l8_1 c8_1 aK Z Nx Qr Q0 :=
 kO 2 (p8_1,l8_1,c8_1) [.g,.g,.g,.b false] (fun _ f=>(And.intro (zY u1) f)) nx
def yEO (l:Option Addr) (l_l l_c BA BB:Nat) (p4_1:Option Addr) (l4_1 c4_1:Nat) (a7:Option Addr) (a8 ba:Nat) (t6_1:Bool) (Z:St) (Q:Value->St->Prop):Prop:=∀ g:Nat->Value,∃ an,Hid (kAt Pg (zW Pg) none (zR Pg 7) [1,1,1,0,1,0] (kFn Pg 7 Q) .ret ⟨Fm 50 (ov (yEM l l_l l_c BA BB p4_1 l4_1 c4_1 a7 a8 ba t6_1) g),[]⟩ Z an)
def zSA (l:Option Addr) (l_l l_c BA BB:Nat) (p8_1:Option Addr) (l8_1 c8_1:Nat) (Z:St) (Q:Value->St->Prop):Prop:=∀ g:Nat->Value,∃ an,Hid (kAt Pg (zW Pg) none (zR Pg 7) [1,1,1,0,1,0] (kFn Pg 7 Q) (.exit 0) ⟨Fm 50 (ov (yEN l l_l l_c BA BB p8_1 l8_1 c8_1) g),[]⟩ Z an)
theorem xPS {t_0:Trf} {Pr:(Option Addr)->Nat->Nat->(Option Addr)->Nat->Nat->Bool->St->Prop} {P0:(Option Addr)->Nat->Nat->St->Prop} (hL:yYR l l_l l_c Z.y (Z.y+1) none 0 0 0 ((Z.row (trL t_0) 5).row (xW 0 0 0 0) 1) Pr P0) (kr:∀ p4_1' l4_1' c4_1' p5_1' l5_1' c5_1' t6_1' Z',Pr p4_1' l4_1' c4_1' p5_1' l5_1' c5_1' t6_1' Z'->yEO l l_l l_c Z.y (Z.y+1) p4_1' l4_1' c4_1' p5_1' l5_1' c5_1' t6_1' Z' Q) (k0:∀ p8_1' l8_1' c8_1' Z',P0 p8_1' l8_1' c8_1' Z'->zSA l l_l l_c Z.y (Z.y+1) p8_1' l8_1' c8_1' Z' Q):zL Pg 7 [.agg ⟨trL t_0⟩,.slice l l_l l_c] Z Q :=
 let s1:=zVI l l_l l_c Z.y (Z.y+1) none 0 0 0;zK [.g,.g,.g,.g,.g,.g,.g,.g,.lf 50 s1 [zRY l l_l l_c Z.y (Z.y+1) Pr,zRZ l l_l l_c Z.y (Z.y+1) P0]] (kd (And.intro (And.intro tt (And.intro (arf s1) hL)) (And.intro (kz7 kr) (And.intro (kz3 k0) trivial))))
theorem yTN {p4_1 a7:Option Addr} {l4_1 c4_1 a8 ba:Nat} {t6_1:Bool} (nx:Q (.tuple ⟨[.slice p4_1 l4_1 c4_1,.slice a7 a8 ba,.bool t6_1]⟩) Z):yEO l l_l l_c BA BB p4_1 l4_1 c4_1 a7 a8 ba t6_1 Z Q :=
 sK [] nx
theorem yTP (h1:zH Pg Z 24 ⟨BA,0,none⟩=some (.agg ⟨trL T1875⟩)) (h2:zJ Pg 17 [.agg ⟨trL T1875⟩,.slice p8_1 l8_1 c8_1,.slice (some ⟨BB,0,none⟩) 4 4] Z (iV nBM) Z) (nx:Q (.tuple ⟨[.slice p8_1 l8_1 c8_1,.slice (some ⟨BB,0,none⟩) 4 4,.bool true]⟩) Z) (u1:nBM=0:=by omega):zSA l l_l l_c BA BB p8_1 l8_1 c8_1 Z Q :=
 sK [.g,.g,.l (.agg ⟨trL T1875⟩),.g,.g,.c (iV nBM) Z,.b true,.g,.g,.g] (an3 h1 h2 (vT u1) nx)
theorem yTO (h1:zH Pg Z 24 ⟨BA,0,none⟩=some (.agg ⟨trL T1875⟩)) (h2:zJ Pg 17 [.agg ⟨trL T1875⟩,.slice p8_1 l8_1 c8_1,.slice (some ⟨BB,0,none⟩) 4 4] Z (iV nBM) Z) (nx:Q (.tuple ⟨[.slice p8_1 l8_1 c8_1,.slice (some ⟨BB,0,none⟩) 4 4,.bool false]⟩) Z) (u1:¬ nBM=0:=by omega):zSA l l_l l_c BA BB p8_1 l8_1 c8_1 Z Q :=
 sK [.g,.g,.l (.agg ⟨trL T1875⟩),.g,.g,.c (iV nBM) Z,.b false,.g,.g,.g] (an3 h1 h2 (vD u1) nx)
end
theorem yQA:AppT Pg 25 25 37 7:=zBF (by kernel_rfl)
theorem yNS (x:Tp):zGZ Pg 37 7 (tpV x):=.inr ⟨xAA,zEQ,_,rfl,rfl⟩
section
variable {Z:St}
theorem zLS {b n:Nat} {f g:Nat->Int} {m z:Int} (h:Own Z b (vX n f) 1) (h0:0<=m) (h1:m<n) (hg:∀ s,s<n->g s=if (s:Int)=m then z else f s) :
  zN Pg (evL [.pointer (some (zS ⟨b,0,none⟩ (Int.toNat m*1))),iV z]) Z (.store 3 (.tmp 0) (.tmp 1))=some (undef,Z.own b (vX n g) 1):=by
 have:=h.stI (P:=Pg) (t:=3) (i:=m.toNat) (v:=iV z) rfl zPA rfl (by rw [zVW];omega);rw [Int.toNat_of_nonneg h0,xGK (by omega)] at this;rw [this,yRT fun s hs=>?_];rw [hg s hs];by_cases e:s=m.toNat
 ·rw [if_pos e,if_pos (by omega)]
 ·rw [if_neg e,if_neg (by omega)]
theorem xUA {T:Trf} {p:Option Addr} {l c:Nat} {xs:List Tp} (h:zDV Z 37 p l xs) (hl:l<=40) :
  ∃ b q m d q2 m2 d2 Z',zJ Pg 7 [.agg ⟨trL T⟩,.slice p l c] Z (.tuple ⟨[.slice q m d,.slice q2 m2 d2,.bool b]⟩) Z'/\New Z Z' /\
   (b=true->m=l/\m2=4/\d2=4/\∃ cb,q2=some ⟨cb,0,none⟩/\Own Z' cb (vX 4 fun m=>(xF (zAZ xs) m:Int)) 1/\zDV Z' 37 q l (zAZ xs)/\(∀ x∈zAZ xs,0<=x.m/\x.m<=3)/\(∀ x∈zAZ xs,zML T.z x)/\∀ c:Nat,c<10->zYX (zAZ xs) c):=by
 have hlen:=vK h;have h0:=SlV.le h (le0 Z);refine (zL.new (P:=Pg) (f:=7) (args:=[.agg ⟨trL T⟩,.slice p l c]) (Z:=Z) (Q:=fun v s=>∃ b q m d q2 m2 d2,v=.tuple ⟨[.slice q m d,.slice q2 m2 d2,.bool b]⟩/\(b=true->m=l/\m2=4/\d2=4/\∃ cb,q2=some ⟨cb,0,none⟩/\Own s cb (vX 4 fun m=>(xF (zAZ xs) m:Int)) 1/\zDV s 37 q l (zAZ xs)/\(∀ x∈zAZ xs,0<=x.m/\x.m<=3)/\(∀ x∈zAZ xs,zML T.z x)/\∀ c:Nat,c<10->zYX (zAZ xs) c)) ?_ ?_ ?_).elim fun v ⟨Z',g1,g2,b,q,m,d,q2,m2,d2,e,g3⟩=>⟨b,q,m,d,q2,m2,d2,Z',e ▸ g1,g2,g3⟩
 rotate_left
 ·rintro v s s' ⟨b,q,m,d,q2,m2,d2,rfl,g⟩ hle;exact ⟨b,q,m,d,q2,m2,d2,rfl,fun hb=>by
   obtain ⟨e1,e2,e3,cb,e4,e5,e6,e7⟩:=g hb;exact ⟨e1,e2,e3,cb,e4,e5.le hle,SlV.le e6 hle,e7⟩⟩
 ·rintro v s hr ⟨b,q,m,d,q2,m2,d2,rfl,g⟩;refine ⟨b,q,m,d,q2,m2,d2,rfl,fun hb=>?_⟩
  obtain ⟨_,_,_,cb,rfl,_⟩:=g hb;cases q <;> exact Bool.noConfusion (show false=true from hr)
 obtain ⟨Z2,hZ2⟩:∃ Z2,Z2=(Z.re.row (trL T) 5).row (xW 0 0 0 0) 1:=⟨_,rfl⟩;have N2:New Z.re Z2:=by rw [hZ2];exact (New.row _ _ _).row'
 have n2:Z2.y=Z.y+2:=by rw [hZ2];rfl
 have oT:Own Z2 Z.y (trL T) 5:=by rw [hZ2];exact (zI Z.re (trL T) 5).row
 have oC:Own Z2 (Z.y+1) (vX 4 fun m=>(xF (zAZ (xs.take 0)) m:Int)) 1:=by rw [hZ2];exact zI (Z.re.row (trL T) 5) (xW 0 0 0 0) 1
 subst hZ2;refine xPS (Pr:=fun p1 l1 c1 p2 l2 c2 t U=>New Z.re U/\t=false)
  (P0:=fun p' l' c' U=>New Z.re U/\l'=l/\Gr Pg U (Z.y+2) 37 7 p' l c' ((zAZ xs).map tpV)/\Own U (Z.y+1) (vX 4 fun m=>(xF (zAZ xs) m:Int)) 1/\Own U Z.y (trL T) 5/\∀ x∈zAZ xs,0<=x.m/\x.m<=3)
  (yTQ (Inv:=fun k p' l' c' i U=>∃ s:Nat,i=s/\s+k=l/\l'=s/\New Z.re U/\Gr Pg U (Z.y+2) 37 7 p' s c' ((zAZ (xs.take s)).map tpV)/\Own U (Z.y+1) (vX 4 fun m=>(xF (zAZ (xs.take s)) m:Int)) 1/\Own U Z.y (trL T) 5/\∀ x∈zAZ (xs.take s),0<=x.m/\x.m<=3) ?_ l none 0 0 0 _ ⟨0,rfl,by omega,rfl,N2,Gr.nil,oC,oT,by simp [zAZ]⟩)
  (fun p1 l1 c1 p2 l2 c2 t U ⟨hN,ht⟩=>by subst ht;exact yTN ⟨hN,false,_,_,_,_,_,_,rfl,fun e=>by cases e⟩) ?_
 ·rintro k p' l' c' i U ⟨s,rfl,hk,rfl,hN,hg,hC,hT,hm⟩;by_cases hs:l' < l;rotate_left
  ·have:l'=l:=by omega
   subst this;rw [List.take_of_length_le (by omega)] at hg hC hm;exact xIY ⟨hN,rfl,hg,hC,hT,hm⟩ (by omega)
  obtain ⟨a,rfl,x,hx,ld⟩:=wS (SlV.le h0 hN.le) hs;have N1:New U ((U.row (yH 0 0 0 0 0 0 0) 7).own U.y (tpL x) 7):=(New.row _ _ _).own (Nat.le_refl _);cases i1:inB x.m 0 3 with
  | false=>exact xIZ ld (wO i1) ⟨hN.trans N1,rfl⟩ (by omega) ⟨by omega,by omega⟩
  | true =>
  obtain ⟨m0,m3⟩:=wD.1 i1;obtain ⟨o,ho⟩:∃ o,o=zAZ (xs.take l'):=⟨_,rfl⟩;have hsn:zAZ (xs.take (l'+1))=o++[{ x with n:=(xF o x.m:Int) }]:=by rw [yM hx,zSB,ho]
  have hol:o.length=l':=by rw [ho,xJC,List.length_take];omega
  rw [<- ho] at hg hC hm;have hcl:=zCZ (xs:=o) (m:=x.m);have hlt:=hC.lt;have lc:=zAJ (hC.le N1.le) m0 (by omega);simp only [Int.toNat_of_nonneg m0] at lc;have N2':New U (((U.row (yH 0 0 0 0 0 0 0) 7).own U.y (tpL x) 7).own U.y (tpL { x with n:=(xF o x.m:Int) }) 7):=N1.own (Nat.le_refl _);have lc2:=zAJ (hC.le N2'.le) m0 (by omega);simp only [Int.toNat_of_nonneg m0] at lc2;have oX:Own (((U.row (yH 0 0 0 0 0 0 0) 7).own U.y (tpL x) 7).own U.y (tpL { x with n:=(xF o x.m:Int) }) 7) U.y (tpL { x with n:=(xF o x.m:Int) }) 7:=((zI U (yH 0 0 0 0 0 0 0) 7).put (ds:=tpL x)).put;have st:=zLS (g:=fun m=>(xF (o++[{ x with n:=(xF o x.m:Int) }]) m:Int)) (z:=(xF o x.m:Int)+1) (hC.le N2'.le) m0 (by omega) (fun s hs=>by
   rw [zAN];by_cases e:x.m=(s:Int)
   ·rw [if_pos e,if_pos e.symm,e];omega
   ·rw [if_neg e,if_neg (fun h=>e h.symm)];omega)
  obtain ⟨s2,hs2⟩:∃ s2,s2=((U.row (yH 0 0 0 0 0 0 0) 7).own U.y (tpL x) 7).own U.y (tpL { x with n:=(xF o x.m:Int) }) 7:=⟨_,rfl⟩;rw [<- hs2] at N2' oX;obtain ⟨s3,hs3⟩:∃ s3,s3=s2.own (Z.y+1) (vX 4 fun m=>(xF (o++[{ x with n:=(xF o x.m:Int) }]) m:Int)) 1:=⟨_,rfl⟩;have K3:Only (·=Z.y+1) s2 s3:=by rw [hs3];exact Only.own (.inr rfl)
  have n3:s3.y=U.y+1:=by rw [hs3,hs2];rfl
  have hbd:∀ b,AtP p' b->Z.y+2<=b:=fun b hb=>(hg.bd hb).1
  have g3:=(hg.le N2'.le).only K3 (fun b hb e=>by have:=hbd b hb;omega);have o3:Own s3 (Z.y+1) (vX 4 fun m=>(xF (o++[{ x with n:=(xF o x.m:Int) }]) m:Int)) 1:=by rw [hs3];exact (hC.le N2'.le).put
  have t3:=K3.own' (hT.le N2'.le) (by omega);have x3:=K3.own' oX (by omega);have N3:New Z.re s3:=(hN.trans N2').of_only K3 (fun b hb=>by show Z.y<=b;omega);obtain ⟨p4,c4,U4,f1,f2,f3,f4⟩:=zGW (tpV { x with n:=(xF o x.m:Int) }) yQA g3 (Le.refl s3) (yNS _) (by omega) (by omega) (e:=rfl) (hc:=rfl);have hno:∀ b,b<Z.y+2->¬ AtP p' b:=fun b hb hp=>by have:=hbd b hp;omega
  have r3:New s3 (s3.row (tpL { x with n:=(xF o x.m:Int) }) 7):=New.row _ _ _;have lx:=x3.ldN (P:=Pg) (t:=37) (k:=0) (ds:=tpL { x with n:=(xF o x.m:Int) }) xAA zEQ rfl rfl (by simp);subst hs2;rw [<- hs3] at st;refine xJA ld (wO i1) lc lc2 st lx f1 ⟨k-1,by omega,l'+1,by omega,by omega,rfl,(N3.trans r3).of_only f3 (fun b hb=>by have:=hbd b hb;show Z.y<=b;omega),by rw [hsn,List.map_append];exact f2,by rw [hsn];exact f3.own' (o3.le r3.le) (hno _ (by omega)),f3.own' (t3.le r3.le) (hno _ (by omega)),fun y hy=>?_⟩ (by omega) ⟨by omega,by omega⟩ ⟨by omega,by omega⟩ ⟨by omega,by omega⟩ ⟨by omega,by omega⟩;rw [hsn,List.mem_append,List.mem_singleton] at hy;rcases hy with hy | rfl
  ·exact hm y hy
  ·exact ⟨m0,m3⟩
 ·rintro p' l' c' U ⟨hN,rfl,hg,hC,hT,hm⟩;obtain ⟨z,k1,hz⟩:=xSL (T:=T) (c:=c') hg.slv (by omega) (yLT xs) hm hC (fun _ _=>rfl);have lT:=hT.ldN (P:=Pg) (t:=24) (k:=0) (ds:=trL T) zHC zCH rfl rfl (by simp);by_cases e:z=0
  ·exact yTP lT k1 ⟨hN,true,_,_,_,_,_,_,rfl,fun _=>⟨rfl,rfl,rfl,_,rfl,hC,hg.slv,hm,hz e⟩⟩ e
  ·exact yTO lT k1 ⟨hN,false,_,_,_,_,_,_,rfl,fun e=>by cases e⟩ e
end
end Go.Proofs.YtflfajphjmajpaaGreatDoor
