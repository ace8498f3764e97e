
import Derived.Test.YtgfiniccfpfplaaGreatST
import Derived.Test.YtgfiniccfpfplaaGreatXU
namespace Go.Proofs.YtgfiniccfpfplaaGreat
open Go Go.Lay
set_option linter.unusedVariables false
set_option linter.unusedSimpArgs false
set_option maxRecDepth 20000
section
variable {σ:St} {w:Wk} {p q:Option Addr} {l m c d:Nat}
theorem yPL (h:WkP σ 92 76 w p l q m):yLY Tryz.prog 15 4 [.agg ⟨wkc w.days p l c q m d w.rest w.run w.hours⟩] σ fun v _=>v=.bool true:=by
 have hln:=h.len.1
 have hm:=h.len.2
 obtain ⟨t1,ht1⟩:∃ t1,t1=σ.row (wkc w.days p l c q m d w.rest w.run w.hours) 6:=⟨_,rfl⟩
 have L1:Le σ t1:=by rw [ht1];exact Le.row _ _ _
 have w1:Row t1 ⟨σ.next,0,none⟩ (wkc w.days p l c q m d w.rest w.run w.hours):=by rw [ht1];exact xE _ _ _
 have k1:=Few_c (c:=c) (d:=d) (h.le L1)
 cases b0:yWE w with
 | false =>
  rw [b0] at k1
  subst ht1
  exact yVP k1 rfl
 | true =>
 rw [b0] at k1
 have hth:zHU w=true:=by unfold yWE at b0;exact (Bool.and_eq_true_iff.1 b0).1
 obtain ⟨hsh,h15,h9⟩:=zVF hth
 obtain ⟨p7,c7,q8,d8,s8,k2,N2,w2⟩:=Week_c (c:=c) (d:=d) (h.le L1) (by omega) (by omega) hsh
 obtain ⟨v,s12,k3,N3,bv⟩:=Best_c (c:=c7) (d:=d8) w2 hsh
 have L12:Le t1 s12:=N2.le.trans N3.le
 have w12:=w1.le L12
 have ldw:∀ s,Le t1 s→zB Tryz.prog s 25 ⟨σ.next,0,none⟩=some (.agg ⟨wkc w.days p l c q m d w.rest w.run w.hours⟩):=fun s hs=>(w1.le hs).ldN wK xN (k:=0) rfl rfl (nle rfl)
 have h4:=ldw s12 L12
 have h12:=(h.le L1).le L12
 have k5:=fault_c (c:=c) (d:=d) h12 hsh
 by_cases hf:xP w=0
 rotate_left
 ·rcases bv with ⟨_,rfl⟩ | ⟨hf',_⟩ | ⟨hf',_⟩
  ·subst ht1
   exact yVQ k1 k2 k3 h4 k5 rfl hf rfl ⟨by decide,by decide⟩ rfl
  ·exact absurd hf' hf
  ·exact absurd hf' hf
 have hs:=Sane.of hf hsh hln hm
 have hl12:=hs.l12
 have hm6:=hs.m6
 obtain ⟨n,hn,hn1,hn7,hv⟩:=yTD hf
 have hw:=yAE hf hn
 obtain ⟨p20,l20,c20,s21,k6,N6,RN⟩:=zVV (c:=c) (d:=d) hs (yTB (yCM b0 hf).2 hln hm) l (z:=s12) (bs:=[]) (pb:=none) (cb:=0) h12 (by simp) ⟨SlP.nil _ _,rfl,fun v hv=>by cases hv⟩
 have RI:=RN.rowsI
 have hrl:=RI.len
 have hl20:l20≤1073741824:=by
  rw [← hrl]
  exact Nat.le_trans zRK (yTB (yCM b0 hf).2 hln hm)
 have L21:Le t1 s21:=L12.trans N6.le
 have h21:=(h.le L1).le L21
 have hnx:σ.next<t1.next:=w1.lt
 have hb20:∀ a,p20=some a→a.block<s21.next:=by obtain ⟨vs,g,_⟩:=RN;exact xH g
 have pab:∀ a,p=some a→a.block<s21.next:=xH h21.dty
 have qab:∀ a,q=some a→a.block<s21.next:=by obtain ⟨vs,g,_⟩:=h21.drv;exact xH g
 let P0:Int→Option Addr→Nat→Nat→St→Prop:=fun i6 p7 l7 c7 y=>Le s21 y∧((i6=9∧∀ x,x∈zFM w m l []→¬ zKO w (zR x))∨(i6=0∧l7=m∧∃ x,x∈zFM w m l []∧zKO w (zR x)∧yG y p7 m (yW w (zR x) m)∧∀ x',x'∈zFM w m l []→zKO w (zR x')→xF (yW w (zR x') m) (yW w (zR x) m)=false))
 have hloop:∀ (q9:Option Addr) (l9 c9:Nat) (q10:Option Addr) (l10 c10:Nat) (n11:Int),zRZ σ.next q9 l9 c9 q10 l10 c10 n11 p20 l20 c20 9 none 0 0 0 s21 P0:=by
  intro q9 l9 c9 q10 l10 c10 n11
  refine yFC (Inv:=fun k i6 p7 l7 c7 i y=>∃ j:Nat,i=(j:Int)∧j+k=l20∧Le s21 y∧((i6=9∧∀ s x,s<j→(zFM w m l [])[s]?=some x→¬ zKO w (zR x))∨(i6=0∧l7=m∧∃ x,x∈zFM w m l []∧zKO w (zR x)∧yG y p7 m (yW w (zR x) m)∧∀ s x',s<j→(zFM w m l [])[s]?=some x'→zKO w (zR x')→xF (yW w (zR x') m) (yW w (zR x) m)=false))) ?_ l20 9 none 0 0 0 s21 ⟨0,rfl,by omega,Le.refl _,.inl ⟨rfl,fun s x hs=>by omega⟩⟩
  rintro k i6 p7 l7 c7 i y ⟨j,rfl,hk,hle,hI⟩
  by_cases hj:j<l20
  rotate_left
  ·refine yPM ⟨hle, ?_⟩ (by omega)
   rcases hI with ⟨rfl,g⟩ | ⟨rfl,rfl,x,g1,g2,g3,g4⟩
   ·refine .inl ⟨rfl,fun x hx=>?_⟩
    obtain ⟨s,hs,rfl⟩:=List.getElem_of_mem hx
    exact g s _ (by omega) (List.getElem?_eq_getElem hs)
   ·refine .inr ⟨rfl,rfl,x,g1,g2,g3,fun x' hx'=>?_⟩
    obtain ⟨s,hs,rfl⟩:=List.getElem_of_mem hx'
    exact g4 s _ (by omega) (List.getElem?_eq_getElem hs)
  obtain ⟨a,ha,x,q1,c1,hgx,ldx,ix⟩:=RI.row hj
  have hxm:=List.mem_of_getElem? hgx
  obtain ⟨hxl,hxr,hxg⟩:=(zUP hln hm).1 hxm
  have hix:yG y q1 x.length x:=SlV.le ix hle
  have g1:=ldx y hle
  have g2:=yAZ (c:=c1) hix (by omega)
  have Ly:Le t1 y:=L21.trans hle
  have hyn:=hle.next
  have g3:zB Tryz.prog y 22 ⟨σ.next,1,none⟩=some (.slice p l c):=(w1.le Ly).ld wS rfl
  have g4:((zH y.next [.slice p l c]∧zK RD (iV ((l:Nat):Int))=true)∧Callee.builtin .len=Callee.builtin .len∧xK Tryz.prog (evL [.slice p l c]) y (.call { callee:=.builtin .len,args:=⟨wC 1⟩,argTypes:=⟨[22]⟩ })=some (iV (l:Int))):=⟨⟨zD (yA fun a e=>by have:=pab a e;omega) zF,rfl⟩,rfl,rfl⟩
  have bq1:∀ a,q1=some a→a.block<y.next:=xH hix
  have bp:∀ a,p=some a→a.block<y.next:=fun a e=>by have:=pab a e;omega
  have bB:σ.next<y.next:=by have:=Ly.next;omega
  have ba:a.block<y.next:=by have:=hb20 a ha;omega
  have hfu:=yLC (l:=l) (m:=m) hxl hln hxr
  subst ha
  have later:∀ {P:List Int→Prop},(∀ s x',s<j→(zFM w m l [])[s]?=some x'→P x')→P x→∀ s x',s<j+1→(zFM w m l [])[s]?=some x'→P x':=fun h1 h2 s x' hs hx'=>by
   by_cases e:s=j
   ·subst e;rw [hgx] at hx';cases hx';exact h2
   ·exact h1 s x' (by omega) hx'
  by_cases hc:((yQP x:Nat):Int)<(l:Int)
  ·have hnf:¬ zKO w (zR x):=fun hfl=>(hfu.2 hfl) hc
   refine yPQ g1 g2 g3 g4 bq1 bp ⟨k-1,by omega,j+1,by omega,by omega,hle, ?_⟩ (by omega) ⟨by omega,by omega⟩ hc ⟨by omega,by omega⟩ ba bB
   rcases hI with ⟨rfl,g⟩ | ⟨rfl,rfl,x0,f1,f2,f3,f4⟩
   ·exact .inl ⟨rfl,later g hnf⟩
   ·exact .inr ⟨rfl,rfl,x0,f1,f2,f3,later (P:=fun x'=>zKO w (zR x')→xF (yW w (zR x') l7) (yW w (zR x0) l7)=false) f4 (fun hfl=>absurd hfl hnf)⟩
  have hfx:=hfu.1 hc
  have g5:=ldw y Ly
  have hix':yG y q1 l x:=by rw [← hxl];exact hix
  obtain ⟨p4,c4,y2,g6,N7,I7,f7⟩:=yAS (c:=c) (d:=d) (rc:=c1) ((h.le L1).le Ly) hs hw hix'
  rw [← hxl] at g6
  rw [hxl] at g6
  rcases hI with ⟨rfl,g⟩ | ⟨rfl,rfl,x0,f1,f2,f3,f4⟩
  ·have g6':zE Tryz.prog 28 [.agg ⟨wkc w.days p l c q m d w.rest w.run w.hours⟩,.slice q1 x.length c1] y (.slice p4 m c4) y2:=by rw [hxl];exact g6
   exact yPP g1 g2 g3 g4 g5 g6' bq1 bp ⟨k-1,by omega,j+1,by omega,by omega,hle.trans N7.le,.inr ⟨rfl,rfl,x,hxm,hfx,I7,later (P:=fun x'=>zKO w (zR x')→xF (yW w (zR x') m) (yW w (zR x) m)=false) (fun s x' hs hx' hfl=>absurd hfl (g s x' hs hx')) (fun _=>zBP _)⟩⟩ (by omega) ⟨by omega,by omega⟩ hc rfl ⟨by omega,by omega⟩ ba bB
  ·have g7:=rMore_c (c:=c4) (d:=c7) I7 (SlV.le f3 N7.le) (by omega)
   have g6':zE Tryz.prog 28 [.agg ⟨wkc w.days p l c q l7 d w.rest w.run w.hours⟩,.slice q1 x.length c1] y (.slice p4 l7 c4) y2:=by rw [hxl];exact g6
   cases hmo:xF (yW w (zR x) l7) (yW w (zR x0) l7) with
   | true =>
    rw [hmo] at g7
    exact yPO g1 g2 g3 g4 g5 g6' g7 bq1 bp ⟨k-1,by omega,j+1,by omega,by omega,hle.trans N7.le,.inr ⟨rfl,rfl,x,hxm,hfx,I7,later (P:=fun x'=>zKO w (zR x')→xF (yW w (zR x') l7) (yW w (zR x) l7)=false) (fun s x' hs hx' hfl=>zHE (by rw [wI,wI]) (by rw [wI,wI]) (zPE (by rw [wI,wI]) hmo) (f4 s x' hs hx' hfl)) (fun _=>zBP _)⟩⟩ (by omega) ⟨by omega,by omega⟩ hc (by decide) ⟨by omega,by omega⟩ ba bB
   | false =>
    rw [hmo] at g7
    exact yPN g1 g2 g3 g4 g5 g6' g7 bq1 bp ⟨k-1,by omega,j+1,by omega,by omega,hle.trans N7.le,.inr ⟨rfl,rfl,x0,f1,f2,SlV.le f3 N7.le,later (P:=fun x'=>zKO w (zR x')→xF (yW w (zR x') l7) (yW w (zR x0) l7)=false) f4 (fun _=>hmo)⟩⟩ (by omega) ⟨by omega,by omega⟩ hc (by decide) ⟨by omega,by omega⟩ ba bB
 rcases bv with ⟨hf',_⟩ | ⟨_,hno,rfl⟩ | ⟨_,rs,gs,pr,cr,pg,cg,rfl,irs,igs,B⟩
 ·exact absurd hf hf'
 ·have hL:=hloop none 0 0 none 0 0 9
  have k0:∀ i6 p7 l7 c7 y,P0 i6 p7 l7 c7 y→zFB σ.next none 0 0 none 0 0 9 p20 l20 c20 i6 p7 l7 c7 y (fun v _=>v=.bool true):=by
   rintro i6 p7 l7 c7 y ⟨hle,hI⟩
   have h9:i6=9:=by
    rcases hI with ⟨h,_⟩ | ⟨_,_,x,hx,hfx,_⟩
    ·exact h
    ·obtain ⟨hxl,hxr,hxg⟩:=(zUP hln hm).1 hx
     exact absurd hfx (hno _ ((yDS (by omega)).2 (by rw [hm];exact hxr)) hxg)
   subst h9
   exact yFB rfl (by decide) rfl ⟨by decide,by decide⟩ rfl
  subst ht1
  exact yBK k1 k2 k3 h4 k5 k6 hL k0 hf
 ·have hL:=hloop pr l cr pg m cg 0
  have erl:=irs.len
  have hrr:=(yDS (by omega)).1 B.ros
  rw [hm] at hrr
  have hrm:rs∈zFM w m l []:=(zUP hln hm).2 ⟨erl,hrr,B.legal⟩
  have hgs:gs=yW w (zR rs) m:=by
   rw [B.gs,yQF hm hm6,hm,List.take_append_of_le_length (by rw [wI];exact Nat.le_refl _),List.take_of_length_le (by rw [wI];exact Nat.le_refl _)]
  have k0:∀ i6 p7 l7 c7 y,P0 i6 p7 l7 c7 y→zFB σ.next pr l cr pg m cg 0 p20 l20 c20 i6 p7 l7 c7 y (fun v _=>v=.bool true):=by
   rintro i6 p7 l7 c7 y ⟨hle,hI⟩
   rcases hI with ⟨_,hno⟩ | ⟨rfl,rfl,x,hx,hfx,ix,hbx⟩
   ·exact absurd B.full (hno rs hrm)
   obtain ⟨hxl,hxr,hxg⟩:=(zUP hln hm).1 hx
   have e1:xF (yW w (zR rs) l7) (yW w (zR x) l7)=false:=hbx rs hrm B.full
   have e2:xF (yW w (zR x) l7) (yW w (zR rs) l7)=false:=by
    rw [← more_gr hm hm6];exact B.best _ ((yDS (by omega)).2 (by rw [hm];exact hxr)) hxg hfx
   have e3:gs=yW w (zR x) l7:=by rw [hgs];exact zWX (by rw [wI,wI]) e1 e2 
   have Ly:Le s12 y:=N6.le.trans hle
   have Lt:Le t1 y:=L12.trans Ly
   have hyn:=hle.next
   have iry:yG y pr l rs:=SlV.le irs Ly
   have igy:yG y pg l7 gs:=SlV.le igs Ly
   have g1:=ints_c (c:=cg) (d:=c7) igy ix (by omega)
   rw [decide_eq_true e3] at g1
   have g2:=ldw y Lt
   have hy:=(h.le L1).le Lt
   have g3:=yID (c:=c) (d:=d) (rc:=cr) hy iry (by omega) (by omega)
   have hisr:zTT w rs=true:=yVR.2 ⟨by omega,fun i hi=>B.ros.ros i (by omega)⟩
   rw [hisr] at g3
   have g4:=yIA (c:=c) (d:=d) (rc:=cr) hy hs iry
   have hleg:zEX w (zR rs) (zR (zDM w)) l7=[]:=by rw [ySQ,← hm];exact yBJ.2 B.legal
   rw [decide_eq_true hleg] at g4
   have g5:=yAZ (c:=cr) iry (by omega)
   have g6:zB Tryz.prog y 22 ⟨σ.next,1,none⟩=some (.slice p l c):=(w1.le Lt).ld wS rfl
   obtain ⟨p4,c4,y2,g7,N7,I7,f7⟩:=yAS (c:=c) (d:=d) (rc:=cr) hy hs hw iry
   have g8:=ints_c (c:=c4) (d:=cg) I7 (SlV.le igy N7.le) (by omega)
   rw [decide_eq_true hgs.symm] at g8
   have hcov:((yQP rs:Nat):Int)=(l:Int):=by
    have h1:=(yLC (l:=l) (m:=l7) erl hln hrr).2 B.full
    have h2:yQP rs≤rs.length:=List.length_filter_le _ _
    omega
   have brs:=xH iry
   have bgs:=xH igy
   have bpy:∀ a,p=some a→a.block<y.next:=fun a e=>by have:=pab a e;omega
   have g9:zH y.next [.agg ⟨wkc w.days p l c q l7 d w.rest w.run w.hours⟩,.slice pr l cr]:=(zD (zGB bpy (fun a e=>by have:=qab a e;omega)) (zD (yA brs) zF))
   have nx7:=N7.nx
   have g10:zH y2.next [.slice p4 l7 c4,.slice pg l7 cg]:=(zD (yA (xH I7)) (zD (yA fun a e=>(show a.block<y2.next by have:=bgs a e;omega)) zF))
   have g11:((zH y.next [.slice p l c]∧zK RD (iV ((l:Nat):Int))=true)∧Callee.builtin .len=Callee.builtin .len∧xK Tryz.prog (evL [.slice p l c]) y (.call { callee:=.builtin .len,args:=⟨wC 1⟩,argTypes:=⟨[22]⟩ })=some (iV (l:Int))):=⟨⟨zD (yA bpy) zF,rfl⟩,rfl,rfl⟩
   exact yFA g1 g2 g3 g4 g5 g6 g7 g8 g9 g10 g11 bgs (xH ix) brs bpy rfl rfl rfl hcov (by have:=Lt.next;omega)
  subst ht1
  exact yBK k1 k2 k3 h4 k5 k6 hL k0 hf
end
end Go.Proofs.YtgfiniccfpfplaaGreat
