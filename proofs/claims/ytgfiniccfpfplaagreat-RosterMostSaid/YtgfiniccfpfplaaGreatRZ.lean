import Derived.Test.YtgfiniccfpfplaaGreatSI
import Derived.Test.YtgfiniccfpfplaaGreatSK
import Derived.Test.YtgfiniccfpfplaaGreatXJ

namespace Go.Proofs.YtgfiniccfpfplaaGreat
open Go Go.Lay
set_option linter.unusedVariables false
set_option linter.unusedSimpArgs false
set_option maxRecDepth 20000
section
variable {Z τ:St} {w:Wk} {p q:Option Addr} {l m c d n:Nat} {rv tv:Value} {ros tru:Nat->Int} {A:List Bch} {ms:List Nat}
theorem yDU {k:Nat}:(zGU w ros tru n k).length<=k:=by
 unfold zGU;have:=List.length_filterMap_le (fun k=>if w.hours<(xJ w ros tru k n).used then some (⟨5,k,0⟩:Bch) else none) (List.range k);simpa using this
theorem long_run (hm6:m<=6) (hA:A.length<=500) (hms:∀ y∈ms,Z.next+5<=y/\y<τ.next)
  (hJ:J Z (wkc w.days p l c q m d w.rest w.run w.hours) rv tv (fun x=>x∈ms) (stF w ros tru m n 0) A τ) :
  zSR Z.next (Z.next+3) (Z.next+4) m ms 0 τ (fun z=>J Z (wkc w.days p l c q m d w.rest w.run w.hours) rv tv (fun x=>x∈ms) (stF w ros tru m n 0) (A++zGU w ros tru n m) z/\Only (fun x=>¬ x∈ms) τ z):=by
 refine yIT (Inv:=fun k' i z=>∃ k:Nat,i=k/\k+k'=m/\J Z (wkc w.days p l c q m d w.rest w.run w.hours) rv tv (fun x=>x∈ms) (stF w ros tru m n 0) (A++zGU w ros tru n k) z/\Only (fun x=>¬ x∈ms) τ z) ?_ m 0 τ ⟨0,rfl,by omega,by simpa [zGU] using hJ,Only.refl _ _⟩;rintro k' i z ⟨k,rfl,hk',hz,O⟩;by_cases hk:k<m;rotate_left
 ·have:k=m:=by omega
  subst this;exact yVU ⟨hz,O⟩ (by omega)
 have lu:=stL_used hz.nw (i:=k) (by omega);have lh:zB Tryz.prog z 3 ⟨Z.next,5,none⟩=some (iV w.hours):=hz.wk.ld zS rfl;have ef:(stF w ros tru m n 0 k).used=(xJ w ros tru k n).used:=by unfold stF;rw [if_pos hk];rfl
 rw [ef] at lu;have es:=longB_s (w:=w) (ros:=ros) (tru:=tru) (n:=n) (k:=k);have hl:=yDU (w:=w) (ros:=ros) (tru:=tru) (n:=n) (k:=k);by_cases hh:w.hours<(xJ w ros tru k n).used
 ·rw [if_pos hh] at es;obtain ⟨po,co,g1,p',c',z2,g2,g3,g4,g5⟩:=hz.push (Le.refl z) hz.new ⟨5,k,0⟩ (by rw [List.length_append];omega) (fun e=>by have:=(hms _ e).1;omega) (fun x hx=>by have:=(hms x hx).2;have:=O.next;omega);refine yVW lu lh g1 g2 g3 ⟨k' - 1,by omega,k+1,by omega,by omega, ?_,O.trans' g5 (fun b _ hb=>.inl hb)⟩ (by omega) (by omega) hh (by omega);rw [es,<- List.append_assoc];exact g4
 ·rw [if_neg hh,List.append_nil] at es;exact yVV lu lh ⟨k' - 1,by omega,k+1,by omega,by omega,by rw [es];exact hz,O⟩ (by omega) (by omega) hh (by omega)
end
end Go.Proofs.YtgfiniccfpfplaaGreat

namespace Go.Proofs.YtgfiniccfpfplaaGreat
open Go Go.Lay
set_option linter.unusedVariables false
set_option linter.unusedSimpArgs false
set_option maxRecDepth 20000
open Go.Sort (swp PermIn SortedIn Below SWO)
theorem yUS (x:Rec):zIS Tryz.prog 45 3 (zFA x):=.inr ⟨agg45,yGH,_,rfl,rfl⟩
theorem zSH (xs:List Rec):vA (xs.map zFA)=xs.flatMap zBC:=by
 induction xs with
 | nil=>rfl
 | cons x xs ih =>
  simp only [vA,List.map_cons,List.flatMap_cons] at ih ⊢;rw [ih];rfl
def zCP (b:Bch):Rec:=⟨b.kind,b.drv,b.dut⟩
def unB (x:Rec):Bch:=⟨x.k.toNat,x.a.toNat,x.b.toNat⟩
theorem zPX (b:Bch):unB (zCP b)=b:=by unfold unB zCP;simp
theorem yZM (A:List Bch):A.map yPJ=(A.map zCP).map zFA:=by rw [List.map_map];rfl
section
theorem dt_of_gr {τ:St} {n0 c:Nat} {p:Option Addr} {out:List Rec} (h:Gr Tryz.prog τ n0 45 3 p out.length c (out.map zFA)) (h0:out≠[]):∃ b s,p=some ⟨b,0,s⟩/\n0<=b/\Dt τ b s out.toArray:=by
 have ha:=h.app;rw [zSH] at ha;have hl:0<out.length:=by cases out with | nil=>exact absurd rfl h0 | cons _ _=>simp
 obtain ⟨n,hn⟩:∃ n,n=out.length:=⟨_,rfl⟩;obtain ⟨cs,hcs⟩:∃ cs,cs=out.flatMap zBC:=⟨_,rfl⟩;rw [<- hn,<- hcs] at ha;cases ha with
 | nil=>omega
 | more h1 h2 h3 h4 h5 h6 h7 =>
  rename_i b s0 nx sp log;subst h2;refine ⟨b,sp,rfl,h3,h4,log,nx, ?_⟩
  rw [h1,hcs];unfold zAY;rw [zRT];simp
theorem yRG {τ:St} {b:Nat} {s:Option Nat} {d:Array Rec} (h:Dt τ b s d):SlV Tryz.prog τ 45 3 (some ⟨b,0,s⟩) d.size (d.toList.map zFA):=by
 obtain ⟨h1,log,nx,h2⟩:=h;refine ⟨⟨?_, ?_,h1⟩,by simp,fun v hv=>?_⟩
 ·rw [zSH];exact yAB d
 ·rw [zSH];have hle:Nat.ble (0+(zAY d).length) (d.size*3)=true:=(zW _ _).2 (by rw [yAB];omega);show yO τ ⟨b,0,s⟩ (zAY d).length=some (zAY d);unfold yO;simp only [h2,yD,wT,Nat.beq_refl,cond_true,hle,List.drop_zero,List.take_length]
 ·obtain ⟨x,_,rfl⟩:=List.mem_map.1 hv;exact yUS x
theorem yQO {A:List Bch} {d':Array Rec} (hp:PermIn 0 (A.map zCP).toArray.size (A.map zCP).toArray d') (hs:SortedIn yPK 0 (A.map zCP).toArray.size d'):∃ A':List Bch,d'.toList=A'.map zCP/\A'.Perm A/\A'.Pairwise fun x y=>¬ y.lt x:=by
 have hsz:=hp.1;have hperm:d'.toList.Perm (A.map zCP):=by
  have h3:=hp.2.2;have e1:(d'.extract 0 (A.map zCP).toArray.size).toList=d'.toList:=by rw [<- hsz];simp
  have e2:((A.map zCP).toArray.extract 0 (A.map zCP).toArray.size).toList=A.map zCP:=by simp;rw [List.take_of_length_le (by simp)]
  rw [e1,e2] at h3;exact h3
 have hid:∀ B:List Bch,(B.map zCP).map unB=B:=fun B=>by
  rw [List.map_map];conv=>rhs;rw [<- List.map_id B]
  exact List.map_congr_left fun b _=>zPX b
 have e:d'.toList=(d'.toList.map unB).map zCP:=by
  rw [List.map_map];conv=>lhs;rw [<- List.map_id d'.toList]
  apply List.map_congr_left;intro x hx;obtain ⟨b,_,rfl⟩:=List.mem_map.1 (hperm.mem_iff.1 hx);show zCP b=zCP (unB (zCP b));rw [zPX]
 refine ⟨d'.toList.map unB,e, ?_, ?_⟩
 ·have:=hperm.map unB;rwa [hid] at this
 ·rw [List.pairwise_map];apply List.pairwise_iff_getElem.2;intro i j hi hj hij;have hlen:d'.toList.length=d'.size:=by simp
  have h1:=hs i j (Nat.zero_le _) hij (by omega);rw [getElem!_pos d' j (by omega),getElem!_pos d' i (by omega)] at h1;have m1:=hperm.mem_iff.1 (List.getElem_mem hi);have m2:=hperm.mem_iff.1 (List.getElem_mem hj);obtain ⟨x,_,ex⟩:=List.mem_map.1 m1;obtain ⟨y,_,ey⟩:=List.mem_map.1 m2;rw [<- ex,<- ey,zPX,zPX];rw [Array.getElem_toList] at ex ey;rw [<- ex,<- ey] at h1;intro hlt;unfold yPK at h1;have h1:=of_decide_eq_false h1;apply h1;unfold Bch.lt at hlt;unfold bLt zCP;simp only;omega
end
end Go.Proofs.YtgfiniccfpfplaaGreat

namespace Go.Proofs.YtgfiniccfpfplaaGreat
open Go Go.Lay
set_option linter.unusedVariables false
set_option linter.unusedSimpArgs false
set_option maxRecDepth 20000
section
variable {Z z:St} {wl:List Value} {rv tv:Value} {f:Nat->Std} {A R:List Bch} {ms:List Nat} {m:Nat}
theorem sort_end (hJ:J Z wl rv tv (fun x=>x∈ms) f A z) (hms:∀ y∈ms,yI z.heap y=some .defd/\Z.next+5<=y/\y<z.next) (hnd:ms.Nodup) (hA:A.length<=1000) (hok:∀ b∈A,b.kind<=5/\b.drv<=100/\b.dut<=100)
  (hR:∀ A',A'.Perm A->(A'.Pairwise fun x y=>¬ y.lt x)->A'=R) :
  zLJ Z.next (Z.next+3) (Z.next+4) m ms z (fun v s=>New Z.re s/\∃ p c,v=.slice p R.length c/\SlV Tryz.prog s 45 3 p R.length (R.map yPJ)/\∀ b,AtP p b->Z.next<=b):=by
 obtain ⟨po,co,o,hg,hf⟩:=hJ.out;have l1:zB Tryz.prog z 36 ⟨Z.next+3,0,none⟩=some (.slice po A.length co):=o.ld (k:=0) rfl yPP rfl;by_cases hA0:A=[]
 ·have hR0:R=[]:=(hR [] (by rw [hA0]) List.Pairwise.nil).symm;subst hA0;have hpo:po=none/\co=0:=by
   have:=hg.app;cases this with
   | nil=>exact ⟨rfl,rfl⟩
   | more _ _ _ _ _ hp _=>exact absurd hp (by simp)
  obtain ⟨rfl,rfl⟩:=hpo;have st:=o.store (k:=0) (t:=36) (P:=Tryz.prog) (v:=.slice none 0 0) (vs:=[.slice none 0 0]) (ds:=[.slice none 0 0]) rfl yQS rfl (by simp) rfl;obtain ⟨z2,k1,k2,k3,k4⟩:=zPY (ms:=ms) (Z:=z.own (Z.next+3) [.slice none 0 0] 1) (fun y hy=>by
   have:=(hms y hy);show yI (St.put _ _ _).heap y=_;rw [St.put_get,if_neg (by omega)];exact this.1) hnd
  have o2:Own z2 (Z.next+3) [.slice none 0 0] 1:=o.put.at_ (k3 _ (fun e=>by have:=(hms _ e).2.1;omega)) (by rw [k2];exact Nat.le_refl _);have N:New Z.re z2:=by
   have N1:New Z.re (z.own (Z.next+3) [.slice none 0 0] 1):=hJ.new.own (by show Z.next<=Z.next+3;omega);refine ⟨⟨by rw [k2];exact N1.le.next,fun b hb=>by rw [k3 b (fun e=>by have:=(hms _ e).2.1;have hb:b<Z.next:=hb;omega)];exact N1.le.get b hb⟩,fun m h1 h2=>k4 m (N1.low m h1 h2) (fun y hy=>by have:=(hms y hy).2.1;have h2:m<=Z.next:=h2;omega)⟩
  subst hR0;exact zRF l1 sortF_nil l1 st k1 (o2.ld (k:=0) rfl yPP rfl) ⟨N,none,0,rfl,⟨.nil _ _,rfl,fun v hv=>by cases hv⟩,fun b hb=>by obtain ⟨a,e,_⟩:=hb;cases e⟩
 ·have hg2:Gr Tryz.prog z (Z.next+5) 45 3 po (A.map zCP).length co ((A.map zCP).map zFA):=by rw [List.length_map,<- yZM];exact hg
  obtain ⟨b,s,rfl,hb,dt⟩:=dt_of_gr hg2 (by simpa using hA0);have esz:(A.map zCP).toArray.size=A.length:=by simp
  have hV:xQ BOk (A.map zCP).toArray:=by
   intro i hi;have hm:(A.map zCP).toArray[i]! ∈ A.map zCP:=by
    rw [getElem!_pos _ i hi];exact Array.mem_toList_iff.2 (Array.getElem_mem hi)
   obtain ⟨x,hx,e⟩:=List.mem_map.1 hm;rw [<- e];have:=hok x hx;unfold BOk zCP;simp only;omega
  obtain ⟨d',p1,p2,z1,c1,O1,dt1,_⟩:=sortF_c (c:=co) swo_b cmp_b dt hV (by rw [esz];omega);rw [esz] at c1;obtain ⟨A',e1,e2,e3⟩:=yQO p1 p2;have eR:=hR A' e2 e3;subst eR;have hlA:A'.length=A.length:=e2.length_eq;have hsz:d'.size=A.length:=by rw [<- esz];exact p1.1
  have o1:Own z1 (Z.next+3) [.slice (some ⟨b,0,s⟩) A.length co] 1:=O1.own' o (by omega);have l3:zB Tryz.prog z1 36 ⟨Z.next+3,0,none⟩=some (.slice (some ⟨b,0,s⟩) A.length co):=o1.ld (k:=0) rfl yPP rfl;have st:=o1.store (k:=0) (t:=36) (P:=Tryz.prog) (v:=.slice (some ⟨b,0,s⟩) A.length co) (vs:=[.slice (some ⟨b,0,s⟩) A.length co]) (ds:=[.slice (some ⟨b,0,s⟩) A.length co]) rfl yQS rfl (by simp) rfl;have hbm:¬ b∈ms:=hf b ⟨_,rfl,rfl⟩;have N1:New Z.re (z1.own (Z.next+3) [.slice (some ⟨b,0,s⟩) A.length co] 1):=(hJ.new.of_only O1 (by rintro x rfl;show Z.next<=x;omega)).own (by show Z.next<=Z.next+3;omega);obtain ⟨z2,k1,k2,k3,k4⟩:=zPY (ms:=ms) (Z:=z1.own (Z.next+3) [.slice (some ⟨b,0,s⟩) A.length co] 1) (fun y hy=>by
   have h3:=hms y hy;show yI (St.put _ _ _).heap y=_;rw [St.put_get,if_neg (by omega),O1.get y h3.2.2 (fun e=>hbm (by have e:y=b:=e;rw [<- e];exact hy))];exact h3.1) hnd
  have o2:Own z2 (Z.next+3) [.slice (some ⟨b,0,s⟩) A.length co] 1:=o1.put.at_ (k3 _ (fun e=>by have:=(hms _ e).2.1;omega)) (by rw [k2];exact Nat.le_refl _);have N:New Z.re z2:=⟨⟨by rw [k2];exact N1.le.next,fun b hb=>by rw [k3 b (fun e=>by have:=(hms _ e).2.1;have hb:b<Z.next:=hb;omega)];exact N1.le.get b hb⟩,fun m h1 h2=>k4 m (N1.low m h1 h2) (fun y hy=>by have:=(hms y hy).2.1;have h2:m<=Z.next:=h2;omega)⟩;have O3:Only (fun x=>x=Z.next+3\/x∈ms) z1 z2:=by
   refine (Only.own (S:=fun x=>x=Z.next+3\/x∈ms) (cs:=[.slice (some ⟨b,0,s⟩) A.length co]) (n:=1) (b:=Z.next+3) (.inr (.inl rfl))).trans' (T:=fun x=>x∈ms) ⟨by rw [k2];exact Nat.le_refl _,fun b _ hb=>k3 b hb,fun m h1 _ h3=>k4 m h1 (fun y hy=>h3 y (by have:=(hms y hy).2.2;have:=O1.next;show y<z1.next;omega) hy)⟩ (fun b _ hb=>.inl (.inr hb))
  have sl:=O3.slv' (yRG dt1) (fun a e=>by cases e;rintro (g | g);have g:b=Z.next+3:=g;omega;exact hbm g);rw [e1,<- yZM,hsz] at sl;rw [hlA];exact zRF l1 c1 l3 st k1 (o2.ld (k:=0) rfl yPP rfl) ⟨N,some ⟨b,0,s⟩,co,rfl,sl,fun x hx=>by obtain ⟨a,e,rfl⟩:=hx;cases e;show Z.next<=b;omega⟩
end
end Go.Proofs.YtgfiniccfpfplaaGreat

namespace Go.Proofs.YtgfiniccfpfplaaGreat
open Go Go.Lay
set_option linter.unusedVariables false
set_option linter.unusedSimpArgs false
set_option maxRecDepth 20000
section
variable {Z:St} {w:Wk} {p q r t:Option Addr} {l m c d rc tc:Nat} {rs ts:List Int} {ros tru:Nat->Int}
theorem cellW_len {D i:Nat}:(zOR w ros tru D i).length<=5:=by
 unfold zOR;split
 ·simp
 ·have:=List.length_filterMap_le (fun q=>if holds w q (drv w (ros i).toNat) (dty w i) (xF w ros tru (ros i).toNat D i)=true then none else some (⟨q,(ros i).toNat,i⟩:Bch)) (List.range 5);simpa using this
theorem zZK {D:Nat}:∀ {j:Nat},(zER w ros tru D j).length<=5*j
 | 0=>by simp [zER]
 | j+1=>by
  have ih:=zZK (D:=D) (j:=j);rw [yUX,List.length_append];have:=cellW_len (w:=w) (ros:=ros) (tru:=tru) (D:=D) (i:=j);split
  ·omega
  ·simp only [List.length_nil];omega
theorem zYD:∀ {D:Nat},(zCI w ros tru D).length<=5*w.duties.length*D
 | 0=>by simp [zCI]
 | D+1=>by
  have ih:=zYD (D:=D);rw [outB_s,List.length_append,Nat.mul_add,Nat.mul_one];have:=zZK (w:=w) (ros:=ros) (tru:=tru) (D:=D) (j:=w.duties.length);omega
theorem broken_c {n:Nat} (hn:w.days=(n:Int)) (hn7:n<=7) (hv:Days w n) (h:WkP Z 85 88 w p l q m) (hs:Sane w l m) (hsh:zAQ w) (hr:yG Z r l rs) (ht:yG Z t l ts) (hro:∀ i,i<l->-1<=zZ rs i/\zZ rs i<(m:Int))
  (hts:∀ i,i<l->(dty w i).on<=zZ ts i/\zZ ts i<=(dty w i).on+1440) :
  ∃ p' c' Z',zD Tryz.prog 54 [.agg ⟨wkc w.days p l c q m d w.rest w.run w.hours⟩,.slice r l rc,.slice t l tc] Z (.slice p' (zJQ w (zZ rs) (zZ ts) m).length c') Z'/\New Z Z'/\SlV Tryz.prog Z' 45 3 p' (zJQ w (zZ rs) (zZ ts) m).length ((zJQ w (zZ rs) (zZ ts) m).map yPJ)/\∀ b,AtP p' b->Z.next<=b:=by
 have hl:=h.len.1;have hm:=h.len.2;have hm6:=hs.m6;have hl12:=hs.l12;have hRos:Ros w (zZ rs):=⟨fun i hi=>by have:=hro i (by omega);omega⟩;obtain ⟨s4,hs4⟩:∃ s,s=(((Z.re.row (wkc w.days p l c q m d w.rest w.run w.hours) 6).row [.slice r l rc] 1).row [.slice t l tc] 1).row [.slice none 0 0] 1:=⟨_,rfl⟩;have N4:New Z.re s4:=by rw [hs4];exact ((New.row _ _ _).row'.row').row'
 have L4:Le Z s4:=(le0 Z).trans N4.le;have x4:s4.next=Z.next+4:=by rw [hs4];rfl
 have cb:=yBY (c:=c) (d:=d) (h.le L4) hm6;have oz:Own (s4.row zFU 4) (Z.next+4) (stL fun _=>zVA) 4:=by
  have:=zC s4 zFU 4;rw [x4] at this;exact this
 have st:=zVK oz (st0 w m);obtain ⟨s5,hs5⟩:∃ s,s=(s4.row zFU 4).own (Z.next+4) (stL (st0 w m)) 4:=⟨_,rfl⟩;have N5:New Z.re s5:=by rw [hs5];exact N4.row'.own (by show Z.next<=Z.next+4;omega)
 have w1:Row s5 ⟨Z.next,0,none⟩ (wkc w.days p l c q m d w.rest w.run w.hours):=by
  rw [hs5,hs4];exact (xP Z.re (wkc w.days p l c q m d w.rest w.run w.hours) 6).row.row.row.row.own (by show Z.next≠_;omega)
 have w2:Row s5 ⟨Z.next+1,0,none⟩ [.slice r l rc]:=by
  rw [hs5,hs4];exact (xP (Z.re.row (wkc w.days p l c q m d w.rest w.run w.hours) 6) [.slice r l rc] 1).row.row.row.own (by show Z.next+1≠_;omega)
 have w3:Row s5 ⟨Z.next+2,0,none⟩ [.slice t l tc]:=by
  rw [hs5,hs4];exact (xP ((Z.re.row (wkc w.days p l c q m d w.rest w.run w.hours) 6).row [.slice r l rc] 1) [.slice t l tc] 1).row.row.own (by show Z.next+2≠_;omega)
 have w4:Own s5 (Z.next+3) [.slice none 0 0] 1:=by
  rw [hs5,hs4];exact (zC (((Z.re.row (wkc w.days p l c q m d w.rest w.run w.hours) 6).row [.slice r l rc] 1).row [.slice t l tc] 1) [.slice none 0 0] 1).row.own (by show Z.next+3≠_;omega)
 have w5:Own s5 (Z.next+4) (stL (st0 w m)) 4:=by rw [hs5];exact oz.put
 have J0:J Z (wkc w.days p l c q m d w.rest w.run w.hours) (.slice r l rc) (.slice t l tc) (fun x=>x∈([]:List Nat)) (st0 w m) [] s5:=⟨N5,w1,w2,w3,w5,none,0,w4,Gr.nil,fun b hb=>by obtain ⟨a,e,_⟩:=hb;cases e⟩;have hA:∀ D j,D<=6->j<=l->(zCI w (zZ rs) (zZ ts) D++zER w (zZ rs) (zZ ts) D j).length<=450:=by
  intro D j hD hj;rw [List.length_append];have h1:=zYD (w:=w) (ros:=zZ rs) (tru:=zZ ts) (D:=D);have h2:=zZK (w:=w) (ros:=zZ rs) (tru:=zZ ts) (D:=D) (j:=j);have h3:5*w.duties.length*D<=5*12*6:=Nat.mul_le_mul (by omega) hD;omega
 have hO:(zCI w (zZ rs) (zZ ts) n).length<=420:=by
  have h1:=zYD (w:=w) (ros:=zZ rs) (tru:=zZ ts) (D:=n);have h3:5*w.duties.length*n<=5*12*7:=Nat.mul_le_mul (by omega) hn7;omega
 have l0:zB Tryz.prog s5 3 ⟨Z.re.next,0,none⟩=some (iV w.days):=w1.ld zS rfl;have run:=days_run hn hn7 h hs hsh hr ht hro hts hA J0;rw [hs4] at cb;refine zO.newSl (broken_ra cb (by rw [<- hs4];exact hs5 ▸ st) l0 run ?_);rintro ms z ⟨Jz,hnd,hms⟩;have lr:=long_run (Z:=Z) hm6 (by omega) (fun y hy=>(hms y hy).2) Jz;refine yIS (Jz.wk.ld (k:=2) uV rfl) lr ?_
 rintro z2 ⟨J2,O2⟩;have hlb:=yDU (w:=w) (ros:=zZ rs) (tru:=zZ ts) (n:=n) (k:=m);refine sort_end (Z:=Z) J2 (fun y hy=>⟨by rw [O2.get y (hms y hy).2.2 (fun hh=>hh hy)];exact (hms y hy).1,(hms y hy).2.1,by have:=(hms y hy).2.2;have:=O2.next;omega⟩) hnd (by rw [List.length_append];omega) ?_ ?_
 ·intro b hb;have hb:b∈yPO w (zZ rs) (zZ ts) n:=by unfold yPO;rw [hm];exact hb
  obtain ⟨h1,h2,_⟩:=(yPN hv hRos).1 hb;omega
 ·intro A' h1 h2;have:=sorted_eq hv hRos (l:=A') (by unfold yPO;rw [hm];exact h1) h2;rw [this,hm]
end
end Go.Proofs.YtgfiniccfpfplaaGreat

namespace Go.Proofs.YtgfiniccfpfplaaGreat
open Go Go.Lay
set_option linter.unusedVariables false
set_option linter.unusedSimpArgs false
set_option maxRecDepth 20000
section
variable {Z:St} {w:Wk} {p q r t:Option Addr} {l m c d rl rc tl tc:Nat} {rs ts:List Int}
theorem legal_c {n:Nat} (hnd:w.days=(n:Int)) (hn7:n<=7) (hv:Days w n) (h:WkP Z 85 88 w p l q m) (hs:Sane w l m) (hsh:zAQ w) (hr:yG Z r l rs) (hro:∀ i,i<l->-1<=zZ rs i/\zZ rs i<(m:Int)):zD Tryz.prog 62 [.agg ⟨wkc w.days p l c q m d w.rest w.run w.hours⟩,.slice r l rc] Z (.bool (decide (zJQ w (zZ rs) (zZ (zBE w)) m=[]))) Z:=by
 have hn:=h.len.1;have hl12:=hs.l12;obtain ⟨Z1,hZ1⟩:∃ Z1,Z1=Z.re.row (wkc w.days p l c q m d w.rest w.run w.hours) 6:=⟨_,rfl⟩;have N1:New Z.re Z1:=by rw [hZ1];exact New.row _ _ _
 have L1:Le Z Z1:=(le0 Z).trans N1.le;have hk0:=xP Z.re (wkc w.days p l c q m d w.rest w.run w.hours) 6;rw [<- hZ1] at hk0;obtain ⟨p2,c2,Z2,k2,n2,s2,f2⟩:=ends_c (c:=c) (d:=d) (h.le L1) (by omega);have L2:=L1.trans n2.le;have hte:∀ i,i<l->(dty w i).on<=zZ (zBE w) i/\zZ (zBE w) i<=(dty w i).on+1440:=by
  intro i hi;have e:zZ (zBE w) i=(dty w i).hi:=by
   unfold zZ zBE dty;rw [List.getD_eq_getElem?_getD,List.getElem?_map,List.getD_eq_getElem?_getD,List.getElem?_eq_getElem (by omega)];rfl
  rw [e];have:=hs.duty i hi;omega
 obtain ⟨p3,c3,Z3,k3,n3,s3,f3⟩:=broken_c (c:=c) (d:=d) (rc:=rc) (tc:=c2) hnd hn7 hv (h.le L2) hs hsh (SlV.le hr L2) s2 hro hte;have hlow:Z.next<=Z3.low:=((N1.trans n2).trans n3).lw;have pab:∀ a,p=some a->a.block<Z.next:=vE h.dty;have qab:∀ a,q=some a->a.block<Z.next:=by obtain ⟨vs,h1,_⟩:=h.drv;exact vE h1
 have rab:∀ a,r=some a->a.block<Z.next:=vE hr;have ld:zB Tryz.prog Z2 34 ⟨Z.re.next,0,none⟩=some (.agg ⟨wkc w.days p l c q m d w.rest w.run w.hours⟩):=(hk0.le n2.le).ldN (k:=0) xM yT (ds:=wkc w.days p l c q m d w.rest w.run w.hours) rfl rfl (by simp);have nx1:Z1.next=Z.next+1:=by rw [hZ1];rfl
 have nx2:=n2.le.next;have hb1:zJ Z1.next [.agg ⟨wkc w.days p l c q m d w.rest w.run w.hours⟩]:=zE (zSX (fun a e=>by have:=pab a e;omega) (fun a e=>by have:=qab a e;omega)) zI;have hb2:zJ Z2.next [.agg ⟨wkc w.days p l c q m d w.rest w.run w.hours⟩,.slice r l rc,.slice p2 l c2]:=zE (zSX (fun a e=>by have:=pab a e;omega) (fun a e=>by have:=qab a e;omega)) (zE (xH (fun a e=>by have:=rab a e;omega)) (zE (xH (vE s2)) zI));have hb3:zJ Z3.next [.slice p3 (zJQ w (zZ rs) (zZ (zBE w)) m).length c3]:=zE (xH (vE s3)) zI;rw [hZ1] at k2 hb1;by_cases e:zJQ w (zZ rs) (zZ (zBE w)) m=[]
 ·rw [decide_eq_true e];exact (legal_ra k2 k3 hb1 hb2 hb3 ⟨⟨by show Z.next<_;omega,rfl⟩,ld⟩ ⟨rfl,hlow⟩ (by rw [e];rfl)).pure
 ·rw [decide_eq_false e];exact (legal_rb k2 k3 hb1 hb2 hb3 ⟨⟨by show Z.next<_;omega,rfl⟩,ld⟩ ⟨rfl,hlow⟩ (fun h=>e (List.length_eq_zero_iff.1 (by omega)))).pure
end
end Go.Proofs.YtgfiniccfpfplaaGreat

namespace Go.Proofs.YtgfiniccfpfplaaGreat
open Go Go.Lay
set_option linter.unusedVariables false
set_option linter.unusedSimpArgs false
set_option maxRecDepth 20000
section
variable {Z:St} {w:Wk} {p q r t:Option Addr} {l m c d rl rc tl tc:Nat} {rs ts:List Int}
theorem zSD:zEN w rs=true↔rs.length=w.duties.length/\∀ i,i<rs.length->-1<=zZ rs i/\zZ rs i<(w.drivers.length:Int):=by
 unfold zEN;rw [Bool.and_eq_true,decide_eq_true_eq,List.all_eq_true,And.comm];refine and_congr_right fun hl=>⟨fun h i hi=>?_,fun h x hx=>?_⟩
 ·have:=uW.1 (h rs[i] (List.getElem_mem hi));have e:zZ rs i=rs[i]:=by unfold zZ;rw [List.getD_eq_getElem?_getD,List.getElem?_eq_getElem hi];rfl
  omega
 ·obtain ⟨i,hi,rfl⟩:=List.getElem_of_mem hx;have:=h i hi;have e:zZ rs i=rs[i]:=by unfold zZ;rw [List.getD_eq_getElem?_getD,List.getElem?_eq_getElem hi];rfl
  exact uW.2 (by omega)
def zZL (rs:List Int):Nat:=(rs.filter fun x=>decide (0<=x)).length
def zEG (w:Wk) (rs:List Int) (least:Int):Bool:=decide (yY w=0) && (zEN w rs && (decide (zJQ w (zZ rs) (zZ (zBE w)) w.drivers.length=[]) && decide (least<=(zZL rs:Int))))
theorem zOV {least:Int} (h:WkP Z 85 88 w p l q m) (hsh:zAQ w) (hr:yG Z r rl rs) (hrl:rl<=1073741824) :
  zD Tryz.prog 35 [.agg ⟨wkc w.days p l c q m d w.rest w.run w.hours⟩,.slice r rl rc,iV least] Z (.bool (zEG w rs least)) Z:=by
 have hln:=h.len.1;have hm:=h.len.2;obtain ⟨Z1,hZ1⟩:∃ Z1,Z1=Z.re.row (wkc w.days p l c q m d w.rest w.run w.hours) 6:=⟨_,rfl⟩;have N1:New Z.re Z1:=by rw [hZ1];exact New.row _ _ _
 have L1:Le Z Z1:=(le0 Z).trans N1.le;have k1:=zLQ (c:=c) (d:=d) (h.le L1) hsh;rw [hZ1] at k1;by_cases hf:yY w=0;rotate_left
 ·have:zEG w rs least=false:=by unfold zEG;rw [decide_eq_false hf];rfl
  rw [this];exact (yAK k1 ⟨rfl,Nat.le_refl _⟩ hf).pure
 have hm6:=(zFO hf).2.1;have k2:=wroster_c (c:=c) (d:=d) (rc:=rc) (h.le L1) (SlV.le hr L1) hrl (by omega);rw [hZ1] at k2;cases b2:zEN w rs with
 | false =>
  have:zEG w rs least=false:=by unfold zEG;rw [b2,decide_eq_true hf];rfl
  rw [b2] at k2;rw [this];exact (yAL k1 k2 ⟨rfl,Nat.le_refl _⟩ hf).pure
 | true =>
 rw [b2] at k2;obtain ⟨r1,r2⟩:=zSD.1 b2;have el:=hr.len;have hrll:rl=l:=by omega
 subst hrll;obtain ⟨n,hn,hn1,hn7,hv⟩:=yIH hf;have hs:=Sane.of hf hsh hln hm;have k3:=legal_c (c:=c) (d:=d) (rc:=rc) hn hn7 hv.toDays (h.le L1) hs hsh (SlV.le hr L1) (fun i hi=>by have:=r2 i (by omega);omega);have k4:=yOI (c:=rc) (SlV.le hr L1) hrl;have ec:(rs.filter fun x=>decide (x≠-1))=rs.filter fun x=>decide (0<=x):=by
  apply List.filter_congr;intro x hx;obtain ⟨i,hi,rfl⟩:=List.getElem_of_mem hx;have:=r2 i hi;have e:zZ rs i=rs[i]:=by unfold zZ;rw [List.getD_eq_getElem?_getD,List.getElem?_eq_getElem hi];rfl
  apply decide_eq_decide.2;omega
 rw [ec] at k4;rw [hZ1] at k3 k4;have e:zEG w rs least=(decide (zJQ w (zZ rs) (zZ (zBE w)) m=[]) && decide (least<=(zZL rs:Int))):=by unfold zEG;rw [b2,decide_eq_true hf,hm];rfl
 rw [e];by_cases h3:zJQ w (zZ rs) (zZ (zBE w)) m=[]
 ·rw [decide_eq_true h3] at k3 ⊢;by_cases h4:least<=(zZL rs:Int)
  ·rw [decide_eq_true h4];exact (yAO k1 k2 k3 k4 ⟨rfl,Nat.le_refl _⟩ hf h4).pure
  ·rw [decide_eq_false h4];exact (yAN k1 k2 k3 k4 ⟨rfl,Nat.le_refl _⟩ hf h4).pure
 ·rw [decide_eq_false h3] at k3 ⊢;exact (yAM k1 k2 k3 ⟨rfl,Nat.le_refl _⟩ hf).pure
end
end Go.Proofs.YtgfiniccfpfplaaGreat
