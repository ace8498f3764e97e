import Derived.Test.YtgfiniccfpfplaaGreatRR
import Derived.Test.YtgfiniccfpfplaaGreatRP

namespace Go.Proofs.YtgfiniccfpfplaaGreat
open Go Go.Lay
set_option linter.unusedVariables false
set_option linter.unusedSimpArgs false
set_option maxRecDepth 20000
section
variable {Z τ:St} {w:Wk} {p q r t:Option Addr} {l m c d rc tc:Nat} {rs ts:List Int}
theorem on_c {D:Nat}:∃ a1 a2 Z',zD Tryz.prog 75 [.agg ⟨wkc w.days p l c q m d w.rest w.run w.hours⟩,iV (D:Int)] Z (.func (.func 91) ⟨[]⟩ ⟨[.pointer (some ⟨a1,0,none⟩),.pointer (some ⟨a2,0,none⟩)]⟩) Z'/\New Z Z'/\Z.next<=a2/\Row Z' ⟨a1,0,none⟩ (wkc w.days p l c q m d w.rest w.run w.hours)/\Row Z' ⟨a2,0,none⟩ [yB D]:=by
 obtain ⟨v,Z',h1,h2,a1,a2,rfl,h3,h4,h5⟩:=zO.new (Z:=Z) (P:=Tryz.prog) (f:=75) (args:=[.agg ⟨wkc w.days p l c q m d w.rest w.run w.hours⟩,iV (D:Int)]) (Q:=fun v s=>∃ a1 a2,v=.func (.func 91) ⟨[]⟩ ⟨[.pointer (some ⟨a1,0,none⟩),.pointer (some ⟨a2,0,none⟩)]⟩/\Z.next<=a2/\Row s ⟨a1,0,none⟩ (wkc w.days p l c q m d w.rest w.run w.hours)/\Row s ⟨a2,0,none⟩ [yB D])
  (on_ra ⟨(New.row _ _ _).row',Z.re.next,Z.re.next+1,rfl,by show Z.next<=Z.next+1;omega,(xP _ _ _).row,xP (Z.re.row (wkc w.days p l c q m d w.rest w.run w.hours) 6) _ _⟩) (by rintro v s s' ⟨a1,a2,rfl,g1,g2,g3⟩ hle;exact ⟨a1,a2,rfl,g1,g2.le hle,g3.le hle⟩) (by rintro v s hr ⟨a1,a2,rfl,_⟩;cases hr)
 exact ⟨a1,a2,Z',h1,h2,h3,h4,h5⟩
theorem days_run {n:Nat} (hn:w.days=(n:Int)) (hn7:n<=7) (h:WkP Z 85 88 w p l q m) (hs:Sane w l m) (hsh:zAQ w) (hr:yG Z r l rs) (ht:yG Z t l ts) (hro:∀ i,i<l->-1<=zZ rs i/\zZ rs i<(m:Int))
  (hts:∀ i,i<l->(dty w i).on<=zZ ts i/\zZ ts i<=(dty w i).on+1440) (hA:∀ D j,D<=6->j<=l->(zCI w (zZ rs) (zZ ts) D++zER w (zZ rs) (zZ ts) D j).length<=450)
  (hJ:J Z (wkc w.days p l c q m d w.rest w.run w.hours) (.slice r l rc) (.slice t l tc) (fun x=>x∈([]:List Nat)) (st0 w m) [] τ) :
  zST Z.next (Z.next+1) (Z.next+2) (Z.next+3) (Z.next+4) w.days 0 [] τ (fun ms z=>J Z (wkc w.days p l c q m d w.rest w.run w.hours) (.slice r l rc) (.slice t l tc) (fun x=>x∈ms) (stF w (zZ rs) (zZ ts) m n 0) (zCI w (zZ rs) (zZ ts) n) z/\ms.Nodup/\∀ y∈ms,yI z.heap y=some .defd/\Z.next+5<=y/\y<z.next):=by
 refine yIV (Inv:=fun k i ms z=>∃ D:Nat,i=D/\D+k=n/\J Z (wkc w.days p l c q m d w.rest w.run w.hours) (.slice r l rc) (.slice t l tc) (fun x=>x∈ms) (stF w (zZ rs) (zZ ts) m D 0) (zCI w (zZ rs) (zZ ts) D) z/\ms.Nodup/\∀ y∈ms,yI z.heap y=some .defd/\Z.next+5<=y/\y<z.next) ?_ n 0 [] τ ⟨0,rfl,by omega,hJ,List.nodup_nil,fun y hy=>by cases hy⟩;rintro k i ms z ⟨D,rfl,hk,hz,hnd,hms⟩;by_cases hD:D<n;rotate_left
 ·have:D=n:=by omega
  subst this;exact yWA ⟨hz,hnd,hms⟩ (by omega)
 have lw:zB Tryz.prog z 34 ⟨Z.next,0,none⟩=some (.agg ⟨wkc w.days p l c q m d w.rest w.run w.hours⟩):=hz.wk.ldN (k:=0) xM yT (ds:=wkc w.days p l c q m d w.rest w.run w.hours) rfl rfl (by simp);obtain ⟨a1,a2,z2,c2,n2,ha2,r1,r2⟩:=on_c (Z:=z) (w:=w) (p:=p) (l:=l) (c:=c) (q:=q) (m:=m) (d:=d) (D:=D);have hz5:Z.next+5<=z.next:=by have:=hz.nw.lt;omega
 have J2:=((hz.mono (Y:=fun x=>x=a2\/x∈ms) (fun b h1 _ h3=>h3.elim (fun e=>by omega) id)).le n2.le (hz.new.trans n2));have hms2:∀ y∈ms,yI z2.heap y=some .defd/\Z.next+5<=y/\y<z2.next:=fun y hy=>by
  obtain ⟨g1,g2,g3⟩:=hms y hy;exact ⟨by rw [n2.le.get y g3];exact g1,g2,by have:=n2.le.next;omega⟩
 refine yWB lw c2 (day_run (wd:=w.days) (i19:=D) h hs hsh hr ht hro hts (fun j hj=>hA D j (by omega) hj) (by omega) r1 r2 (by omega) hms2 J2
  (Qn:=fun z3=>J Z (wkc w.days p l c q m d w.rest w.run w.hours) (.slice r l rc) (.slice t l tc) (fun x=>x∈z2.next::ms) (stF w (zZ rs) (zZ ts) m (D+1) 0) (zCI w (zZ rs) (zZ ts) (D+1)) z3/\∀ y∈z2.next::ms,yI z3.heap y=some .defd/\Z.next+5<=y/\y<z3.next)
  (fun z3 g1 g2 g3 g4=>⟨g1.up g4,fun y hy=>⟨g2 y hy, ?_⟩⟩)) ?_ (by omega)
 ·rcases List.mem_cons.1 hy with e | e
  ·have:=n2.le.next;omega
  ·have:=hms2 y e;omega
 ·rintro z3 ⟨g1,g2⟩;refine yIR ⟨k-1,by omega,D+1,by omega,by omega,g1, ?_,g2⟩ (by omega);exact List.nodup_cons.2 ⟨fun e=>by have:=(hms2 _ e).2.2;omega,hnd⟩
end
end Go.Proofs.YtgfiniccfpfplaaGreat

namespace Go.Proofs.YtgfiniccfpfplaaGreat
open Go Go.Lay
set_option linter.unusedVariables false
set_option linter.unusedSimpArgs false
set_option maxRecDepth 20000
def zPI (xs:List Nat):List Int:=xs.map fun i:Nat=>(i:Int)
section
variable {Z:St} {w:Wk} {p q:Option Addr} {l m c d D:Nat}
theorem yOG (h:WkP Z 85 88 w p l q m) (hl:l<=1000):∃ p' c' Z',zD Tryz.prog 85 [.agg ⟨wkc w.days p l c q m d w.rest w.run w.hours⟩,iV (D:Int)] Z (.slice p' (yC w D l).length c') Z'/\New Z Z'/\yG Z' p' (yC w D l).length (zPI (yC w D l))/\∀ b,AtP p' b->Z.next<=b:=by
 have hln:=h.len.1;have hle:∀ s,(yC w D s).length<=s:=fun s=>by
  unfold yC;have:=List.length_filter_le (fun i=>decide ((dty w i).day=(D:Int))) (List.range s);simpa using this
 obtain ⟨Z1,hZ1⟩:∃ Z1,Z1=(Z.re.row (wkc w.days p l c q m d w.rest w.run w.hours) 6).row [.slice none 0 0] 1:=⟨_,rfl⟩;have N1:New Z.re Z1:=by rw [hZ1];exact (New.row _ _ _).row'
 have x1:Z1.next=Z.next+2:=by rw [hZ1];rfl
 have o1:Own Z1 (Z.next+1) [.slice none 0 0] 1:=by rw [hZ1];exact zC (Z.re.row (wkc w.days p l c q m d w.rest w.run w.hours) 6) [.slice none 0 0] 1
 obtain ⟨a1,a2,τ,k1,n1,ha2,r1,r2⟩:=on_c (Z:=Z1) (w:=w) (p:=p) (q:=q) (l:=l) (m:=m) (c:=c) (d:=d) (D:=D);have N2:=N1.trans n1;have L2:Le Z τ:=(le0 Z).trans N2.le;have nx2:=n1.nx;have hd2:yAR τ 85 p l w.duties:=SlV.le h.dty L2;have hpb:∀ a,p=some a->a.block<Z.next:=vE h.dty;have ha2t:a2<τ.next:=r2.lt;rw [hZ1] at k1;let J:Nat->St->Prop:=fun s z=>Row z ⟨a2,0,none⟩ [yB D]/\yAR z 85 p l w.duties/\τ.next<=z.next/\∃ p' c',Own z (Z.next+1) [.slice p' (yC w D s).length c'] 1/\Gr Tryz.prog z (τ.next+2) 3 1 p' (yC w D s).length c' ((zPI (yC w D s)).map yB)/\Le Z z
 refine zO.newSl (duties_ra k1 (Pn:=fun z=>J l z/\yI z.heap τ.next=some .defd/\τ.next<z.next/\∀ m,m<=Z.next->m<=τ.low->m<=z.low) (zUG (zf:=fun z _=>z) (fun z _=>Le.refl z) (fun z _=>Nat.le_refl _) (w:=w) (pp:=p) (q:=q) (l:=l) (m:=m) (c:=c) (d:=d) (D:=D) (a1:=a1) (a2:=a2) (n0:=Z.next) (J:=fun s z=>J s z) (fun g0=>rfl) r1 (by omega) (by omega) (fun s z hz=>⟨hz.1,hz.2.1⟩) ⟨r2,hd2,Nat.le_refl _,none,0,o1.le n1.le,by simpa [yC,zPI] using Gr.nil,L2⟩ ?_ ?_ ?_ ?_) ?_)
 ·rintro s z z' ⟨h1,h2,h3,p',c',h4,h5,h6⟩ hk;refine ⟨hk.rw h1,hk.slv h2,Nat.le_trans h3 hk.next,p',c',hk.own h4,hk.gr h5,⟨Nat.le_trans h6.next hk.next,fun b hb=>by rw [hk.old b hb];exact h6.get b hb⟩⟩
 ·rintro s z hs hd ⟨h1,h2,h3,p',c',h4,h5,h6⟩;have e:yC w D (s+1)=yC w D s:=by rw [yID,if_neg hd]
  refine ⟨h1,h2,h3,p',c', ?_, ?_,h6⟩
  ·rw [e];exact h4
  ·rw [e];exact h5
 ·rintro s z z1 lo g0 db hs hd hlo hlp hz1 ⟨h1,h2,h3,p',c',h4,h5,h6⟩ hnx;have e:yC w D (s+1)=yC w D s++[s]:=by rw [yID,if_pos hd]
  have hlt:lo<z.next:=by omega
  have k01:Only (fun y=>y=lo) z z1:=by
   rw [hz1];exact (Only.re (S:=fun y=>y=lo) z).trans' (Only.put (S:=fun y=>y=lo) (.inr rfl)) (fun b _ e=>.inl e)
  have u1:Own z1 (Z.next+1) [.slice p' (yC w D s).length c'] 1:=k01.own' h4 (by omega);have v1:Gr Tryz.prog z1 (τ.next+2) 3 1 p' (yC w D s).length c' ((zPI (yC w D s)).map yB):=h5.only k01 (fun b hb e=>by have:=(h5.bd hb).1;omega);have nx1:=k01.next;have hs2:=hle s;obtain ⟨p2,c2,z2,g1,g2,g3,g4⟩:=yNP (yB (s:Int)) zHF v1 (Le.refl z1) (zAX _) (by omega) (by omega);have hS:∀ b,AtP p' b->τ.next+2<=b:=fun b hb=>(v1.bd hb).1
  have k12:Only (AtP p') z1 z2:=(Only.row z1 [yB (s:Int)] 1).trans' g3 (fun b _ e=>.inl e);have u2:=k12.own' u1 (fun hb=>by have:=hS _ hb;omega);have st:=u2.store (P:=Tryz.prog) (k:=0) (t:=26) (v:=.slice p2 ((yC w D s).length+1) c2) (vs:=[.slice p2 ((yC w D s).length+1) c2]) (ds:=[.slice p2 ((yC w D s).length+1) c2]) rfl yQT rfl (by simp) rfl;obtain ⟨z3,hz3⟩:∃ z3,z3=z2.own (Z.next+1) [.slice p2 ((yC w D s).length+1) c2] 1:=⟨_,rfl⟩;rw [<- hz3] at st;have k23:Only (fun y=>y=Z.next+1) z2 z3:=by rw [hz3];exact Only.own (.inr rfl)
  have k13:Only (fun y=>y=Z.next+1\/AtP p' y) z1 z3:=(k12.mono (fun _ _ e=>.inr e)).trans' k23 (fun b _ e=>.inl (.inl e));have k03:Only (fun y=>y=lo\/y=Z.next+1\/AtP p' y) z z3:=(k01.mono (fun _ _ e=>.inl e)).trans' k13 (fun b _ e=>.inl (.inr e));refine ⟨z3,yUV hlp hz1 (u1.ld (k:=0) rfl yS rfl) g1 st rfl,⟨k03.rw' h1 ?_,k03.slv' h2 ?_,by have:=k03.next;omega,p2,c2, ?_, ?_, ?_⟩,_,k13, ?_⟩
  ·rintro (hb | hb | hb)
   ·have hb:a2=lo:=hb;omega
   ·have hb:a2=Z.next+1:=hb;omega
   ·have:=hS _ hb;have:τ.next+2<=a2:=this;omega
  ·rintro a ea (hb | hb | hb)
   ·have:=hpb a ea;omega
   ·have:=hpb a ea;omega
   ·have:=hS _ hb;have:=hpb a ea;omega
  ·rw [e,List.length_append,hz3];exact u2.put
  ·rw [e,List.length_append];have e2:(zPI (yC w D s++[s])).map yB=(zPI (yC w D s)).map yB++[yB (s:Int)]:=by simp [zPI]
   rw [e2];exact g2.only k23 (fun b hb e=>by have:=(g2.bd hb).1;omega)
  ·refine ⟨Nat.le_trans h6.next k03.next,fun b hb=>?_⟩
   rw [k03.get b (by omega) ?_]
   ·exact h6.get b hb
   ·rintro (e | e | e)
    ·omega
    ·omega
    ·have:=hS _ e;omega
  ·rintro y (e | e)
   ·exact ⟨by omega,by omega,by omega⟩
   ·have:=hS _ e;exact ⟨by omega,by omega,by omega⟩
 ·rintro z h1 h2 h3 h4;exact ⟨h1,h2,h3,h4⟩
 ·rintro z ⟨⟨h1,h2,h3,p',c',h4,h5,h6⟩,h7,h8,h9⟩;have st:=h4.store (P:=Tryz.prog) (k:=0) (t:=26) (v:=.slice p' (yC w D l).length c') (vs:=[.slice p' (yC w D l).length c']) (ds:=[.slice p' (yC w D l).length c']) rfl yQT rfl (by simp) rfl;have hB:Z.next+1<τ.next:=by omega
  obtain ⟨z2,k1,k2,k3,k4⟩:=zPY (ms:=[τ.next]) (Z:=z.own (Z.next+1) [.slice p' (yC w D l).length c'] 1) (fun y hy=>by
   rcases List.mem_singleton.1 hy with rfl;show yI (St.put _ _ _).heap _=_;rw [St.put_get,if_neg (by omega)];exact h7) (by simp)
  have o2:Own z2 (Z.next+1) [.slice p' (yC w D l).length c'] 1:=h4.put.at_ (k3 _ (fun e=>by have:=List.mem_singleton.1 e;omega)) (by rw [k2];exact Nat.le_refl _);have g2:Gr Tryz.prog (z.own (Z.next+1) [.slice p' (yC w D l).length c'] 1) (τ.next+2) 3 1 p' (yC w D l).length c' ((zPI (yC w D l)).map yB):=h5.only (S:=(·=Z.next+1)) (Only.own (.inr rfl)) (fun b hb e=>by have:=(h5.bd hb).1;omega);have sl:yG z2 p' (yC w D l).length (zPI (yC w D l)):=by
   have:=g2.slv;refine ⟨⟨this.1.1, ?_⟩,this.2⟩
   cases p' with
   | none=>exact this.1.2
   | some a =>
    have hr:=this.1.2;have hb:=(h5.bd ⟨a,rfl,rfl⟩);refine ⟨?_,by rw [k2];exact hr.lt⟩
    have e:yI z2.heap a.block=yI (z.own (Z.next+1) [.slice (some a) (yC w D l).length c'] 1).heap a.block:=k3 _ (fun e=>by have:=List.mem_singleton.1 e;omega);have:=hr.rd;unfold yO at this ⊢;rw [e];exact this
  have N:New Z.re z2:=by
   refine ⟨⟨by rw [k2];exact h6.next,fun b hb=>?_⟩,fun m g1 g2=>k4 m ?_ (fun y hy=>by have:=List.mem_singleton.1 hy;have g2:m<=Z.next:=g2;omega)⟩
   ·have hb:b<Z.next:=hb;rw [k3 b (fun e=>by have:=List.mem_singleton.1 e;omega)];show yI (St.put _ _ _).heap b=_;rw [St.put_get,if_neg (by omega)];exact h6.get b hb
   ·have g2:m<=Z.next:=g2;have:=h9 m g2 (N2.low m g1 g2);show m<=min _ _;omega
  exact yIE (h4.ld (k:=0) rfl yS rfl) st k1 (o2.ld (k:=0) rfl yS rfl) ⟨N,p',c',rfl,sl,fun b hb=>by have:=(h5.bd hb).1;show Z.next<=b;omega⟩
end
end Go.Proofs.YtgfiniccfpfplaaGreat
