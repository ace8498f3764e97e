import Derived.Test.YtgfiniccfpfplaaGreatXV
import Derived.Test.YtgfiniccfpfplaaGreatLayD

namespace Go.Lay
open Go
theorem topQ_at {P:Program} {aw f:FuncId} {args:List Value} {Q:Value→St→Prop} {cl:Code} {n n0:Nat} {l':List (Nat × Value)} {ms':List Nat} {altsL:List Alt} {σ σ1:St} (p:List Nat) (ans:List Ans) (hc:zCU (zX P f) p=some (.loop cl))
  (hb:(match P.funcs[f]? with | some fn=>fn.body.isSome && Nat.beq (args.length+(fn.ntmps-args.length)) n0 | none=>false)=true)
  (h:Hid (zIG P (zKB P aw) none (zX P f) p ans ⟨(Tm.args 0 args).foldl (fun f p=>f.set p.1 p.2) (fresh n0),[]⟩ σ fun fr' σ' as'=>(as'=[]∧σ'=σ1)∧zYJ n fr'.f=true∧AG fr'.f l'∧fr'.marks=ms'))
  (hL:wC P (zKB P aw) none cl n l' ms' altsL σ1) (hK:zXG n altsL fun e fr σ=>∃ an,Hid (kAt P (zKB P aw) none (zX P f) p (kFn P f Q) e fr σ an)):zYS P aw f args σ Q:=by
 obtain ⟨fr1,σ2,as1,⟨⟨_,rfl⟩,k1,k2,k3⟩,h2⟩:=yKF _ _ _ _ _ _ (hid h)
 obtain ⟨e,fr',σ',h5,h6⟩:=hL fr1.f.nth
 rw [← yAP k1 k2,← k3] at h5
 obtain ⟨an,hk⟩:=zMS hK h6
 obtain ⟨e2,fr2,σ3,as2,⟨N0,h7⟩,h8⟩:=h2 _ hc e fr' σ' h5.code _ an (hid hk)
 cases hfn:P.funcs[f]? with
 | none=>rw [hfn] at hb;cases hb
 | some fn =>
  rw [hfn] at hb
  cases hbd:fn.body with
  | none=>simp only [hbd] at hb;cases hb
  | some c =>
   simp only [hbd] at hb
   have hn:args.length+(fn.ntmps-args.length)=n0:=Nat.eq_of_beq_eq_true (Bool.and_eq_true_iff.1 hb).2
   have hbo:zX P f=c:=by unfold zX;simp only [hfn,hbd]
   unfold kFn at h8
   rw [hfn] at h8
   rw [hbo] at h7
   have fin:∀ (h2:zIK P fn fr2 σ3 as2 Q) (he:e2=.normal∨e2=.ret),zYS P aw f args σ Q:=by
    intro h2 he
    obtain ⟨v,σ',h3,h4⟩:=zOV h2
    refine ⟨N0,v,σ', ?_,h4⟩
    have key:yTT P fn (yM P (zKB P aw N0) N0 none c ⟨(Tm.args 0 args).foldl (fun f p=>f.set p.1 p.2) (fresh (args.length+(fn.ntmps-args.length))),[]⟩ σ)=zGO P (zKB P aw N0) N0 f args σ:=by
     simp only [zGO,hfn,hbd,Tm.puts_eq]
    rw [← key,hn,h7 N0 (Nat.le_refl _)]
    rcases he with rfl | rfl <;> exact h3
   cases e2 with
   | normal=>exact fin h8 (.inl rfl)
   | ret=>exact fin h8 (.inr rfl)
   | _=>exact h8.elim
end Go.Lay
namespace Go.Proofs.YtgfiniccfpfplaaGreat
open Go Go.Lay
open Tryz renaming prog → Pg
set_option linter.unusedVariables false
set_option maxRecDepth 20000
theorem yTE {ak am ao aj n2 n5 n6 n7 n10 n11 n13 n16 n17 n18 n19:Int} {af ae q3 q4 q9 q14 q15 q20:Option Addr} {ac ad aa ab l3 c3 l4 c4 l9 c9 l14 c14 l15 c15 l20 c20:Nat} {σ8 σ12 σ21:St} {σ:St} {Q:Value→St→Prop} {P0:Int→St→Prop} (h1:zE Pg 24 [.agg ⟨wkc ak af ac ad ae aa ab am ao aj⟩] (σ.row (wkc ak af ac ad ae aa ab am ao aj) 6) (.bool true) (σ.row (wkc ak af ac ad ae aa ab am ao aj) 6)) (h2:zE Pg 17 [.agg ⟨wkc ak af ac ad ae aa ab am ao aj⟩] (σ.row (wkc ak af ac ad ae aa ab am ao aj) 6) (.agg ⟨wkc n2 q3 l3 c3 q4 l4 c4 n5 n6 n7⟩) σ8) (h3:zE Pg 37 [.agg ⟨wkc n2 q3 l3 c3 q4 l4 c4 n5 n6 n7⟩] σ8 (.tuple ⟨[.slice q9 l9 c9,iV n10,iV n11]⟩) σ12) (h4:zB Pg σ12 25 ⟨σ.next,0,none⟩=some (.agg ⟨wkc n13 q14 l14 c14 q15 l15 c15 n16 n17 n18⟩)) (h5:zE Pg 20 [.agg ⟨wkc n13 q14 l14 c14 q15 l15 c15 n16 n17 n18⟩] σ12 (iV n19) σ12) (h6:zE Pg 26 [.agg ⟨wkc n13 q14 l14 c14 q15 l15 c15 n16 n17 n18⟩,.slice none 0 0] σ12 (.slice q20 l20 c20) σ21) (hL:zRE σ.next q9 l9 c9 n10 n11 q20 l20 c20 0 0 σ21 P0) (k0:∀ i8_1' σ',P0 i8_1' σ'→zLE σ.next q9 l9 c9 n10 n11 q20 l20 c20 i8_1' σ' Q) (u1:n19=0:=by omega):zYS Pg 15 8 [.agg ⟨wkc ak af ac ad ae aa ab am ao aj⟩] σ Q :=
 let s1:=σ.row (wkc ak af ac ad ae aa ab am ao aj) 6;topQ_at (cl:=zRD) (n0:=81) (n:=81) (l':=zFD σ.next q9 l9 c9 n10 n11 q20 l20 c20 0 0) (ms':=[]) (altsL:=[uV σ.next q9 l9 c9 n10 n11 q20 l20 c20 P0]) (σ1:=σ21) [1,1,1,1,1,1,0,1,0] [.g,.g,.l (.agg ⟨wkc ak af ac ad ae aa ab am ao aj⟩),.c (.bool true) s1,.g,.l (.agg ⟨wkc ak af ac ad ae aa ab am ao aj⟩),.c (.agg ⟨wkc n2 q3 l3 c3 q4 l4 c4 n5 n6 n7⟩) σ8,.c (.tuple ⟨[.slice q9 l9 c9,iV n10,iV n11]⟩) σ12,.g,.g,.g,.g,.g,.g,.g,.l (.agg ⟨wkc n13 q14 l14 c14 q15 l15 c15 n16 n17 n18⟩),.c (iV n19) σ12,.g,.g,.b false,.l (.agg ⟨wkc n13 q14 l14 c14 q15 l15 c15 n16 n17 n18⟩),.c (.slice q20 l20 c20) σ21,.g,.g,.g] (by kernel_rfl) (by kernel_rfl)
  (kc (by kernel_rfl) (an4 ((zC _ _ _).rw.ldN wH xI (k:=0) rfl rfl (nle rfl):zB Pg s1 25 ⟨σ.next,0,none⟩=some (.agg ⟨wkc ak af ac ad ae aa ab am ao aj⟩)) (zE.top (aw:=15) h1) ((zC _ _ _).rw.ldN wH xI (k:=0) rfl rfl (nle rfl):zB Pg s1 25 ⟨σ.next,0,none⟩=some (.agg ⟨wkc ak af ac ad ae aa ab am ao aj⟩)) (zE.top (aw:=15) h2) (an6 (zE.top (aw:=15) h3) h4 (zE.top (aw:=15) h5) (zAB u1) h4 (zE.top (aw:=15) h6) (And.intro (And.intro (Eq.refl ([]:List Ans)) (Eq.refl σ21)) (And.intro tt (And.intro (arf (zFD σ.next q9 l9 c9 n10 n11 q20 l20 c20 0 0)) (Eq.refl ([]:List Nat))))))))
  hL (And.intro (fun (t:Int) (g':Nat→Value) (σ':St) (q:P0 t σ')=>k0 t σ' q g') trivial)
end Go.Proofs.YtgfiniccfpfplaaGreat

namespace Go.Proofs.YtgfiniccfpfplaaGreat
open Go Go.Lay
set_option linter.unusedVariables false
set_option linter.unusedSimpArgs false
set_option maxRecDepth 20000
section
variable {σ:St} {w:Wk} {p q:Option Addr} {l m c d:Nat}
theorem yNF (h:WkP σ 92 76 w p l q m):zYS Tryz.prog 15 8 [.agg ⟨wkc w.days p l c q m d w.rest w.run w.hours⟩] σ fun v _=>v=.bool true:=by
 have hln:=h.len.1
 have hm:=h.len.2
 obtain ⟨t1,ht1⟩:∃ t1,t1=σ.row (wkc w.days p l c q m d w.rest w.run w.hours) 6:=⟨_,rfl⟩
 have L1:Le σ t1:=by rw [ht1];exact Le.row _ _ _
 have w1:Row t1 ⟨σ.next,0,none⟩ (wkc w.days p l c q m d w.rest w.run w.hours):=by rw [ht1];exact xG _ _ _
 have k1:=Few_c (c:=c) (d:=d) (h.le L1)
 cases b0:yTS w with
 | false =>
  rw [b0] at k1
  subst ht1
  exact yTD k1 rfl
 | true =>
 rw [b0] at k1
 have hth:zHD w=true:=by unfold yTS at b0;exact (Bool.and_eq_true_iff.1 b0).1
 obtain ⟨hsh,h15,h9⟩:=zUI hth
 obtain ⟨p7,c7,q8,d8,s8,k2,N2,w2⟩:=Week_c (c:=c) (d:=d) (h.le L1) (by omega) (by omega) hsh
 obtain ⟨v,s12,k3,N3,bv⟩:=Most_c (c:=c7) (d:=d8) w2 hsh
 have L12:Le t1 s12:=N2.le.trans N3.le
 have w12:=w1.le L12
 have ldw:∀ s,Le t1 s→zB Tryz.prog s 25 ⟨σ.next,0,none⟩=some (.agg ⟨wkc w.days p l c q m d w.rest w.run w.hours⟩):=fun s hs=>(w1.le hs).ldN wH xI (k:=0) rfl rfl (nle rfl)
 have h4:=ldw s12 L12
 have h12:=(h.le L1).le L12
 have k5:=fault_c (c:=c) (d:=d) h12 hsh
 by_cases hf:xM w=0
 rotate_left
 ·rcases bv with ⟨_,rfl⟩ | ⟨hf',_⟩
  ·subst ht1
   exact yTF k1 k2 k3 h4 k5 rfl hf rfl rfl rfl
  ·exact absurd hf' hf
 obtain ⟨hf',_⟩ | ⟨_,rs,pr,cr,rfl,irs,B⟩:=bv
 ·exact absurd hf hf'
 have hs:=Sane.of hf hsh hln hm
 have hl12:=hs.l12
 have hm6:=hs.m6
 obtain ⟨n,hn,hn1,hn7,hv⟩:=yQU hf
 have hw:=yRI hf hn
 obtain ⟨p20,l20,c20,s21,k6,N6,RN⟩:=zUY (c:=c) (d:=d) hs (yQS (yAY b0 hf).2 hln hm) l (z:=s12) (bs:=[]) (pb:=none) (cb:=0) h12 (by simp) ⟨SlP.nil _ _,rfl,fun v hv=>by cases hv⟩
 have RI:=RN.rowsI
 have hrl:=RI.len
 have hl20:l20≤1073741824:=by
  rw [← hrl]
  exact Nat.le_trans zQN (yQS (yAY b0 hf).2 hln hm)
 have L21:Le t1 s21:=L12.trans N6.le
 have h21:=(h.le L1).le L21
 have hnx:σ.next<t1.next:=w1.lt
 have hb20:∀ a,p20=some a→a.block<s21.next:=by obtain ⟨vs,g,_⟩:=RN;exact xK g
 have pab:∀ a,p=some a→a.block<s21.next:=xK h21.dty
 have qab:∀ a,q=some a→a.block<s21.next:=by obtain ⟨vs,g,_⟩:=h21.drv;exact xK g
 let P0:Int→St→Prop:=fun i8 y=>Le s21 y∧(∀ x,x∈zIC w m l []→((zTP x:Nat):Int)≤i8)∧(i8=0∨∃ x,x∈zIC w m l []∧i8=((zTP x:Nat):Int))
 have hL:zRE σ.next pr l cr (zAJ w (zV rs)) 0 p20 l20 c20 0 0 s21 P0:=by
  refine yDL (Inv:=fun k i8 i y=>∃ j:Nat,i=(j:Int)∧j+k=l20∧Le s21 y∧(∀ s x,s<j→(zIC w m l [])[s]?=some x→((zTP x:Nat):Int)≤i8)∧(i8=0∨∃ x,x∈zIC w m l []∧i8=((zTP x:Nat):Int))) ?_ l20 0 0 s21 ⟨0,rfl,by omega,Le.refl _,fun s x hs=>by omega,.inl rfl⟩
  rintro k i8 i y ⟨j,rfl,hk,hle,hI,hE⟩
  by_cases hj:j<l20
  rotate_left
  ·refine yNG ⟨hle,fun x hx=>?_,hE⟩ (by omega)
   obtain ⟨s,hs,rfl⟩:=List.getElem_of_mem hx
   exact hI s _ (by omega) (List.getElem?_eq_getElem hs)
  obtain ⟨a,ha,x,q1,c1,hgx,ldx,ix⟩:=RI.row hj
  have hxm:=List.mem_of_getElem? hgx
  have hix:yI y q1 x.length x:=SlV.le ix hle
  obtain ⟨hxl,hxr,hxg⟩:=(yDP hln hm).1 hxm
  have g1:=ldx y hle
  have g2:=zZP (c:=c1) hix (by omega)
  subst ha
  refine yNH g1 g2 yQG ⟨k-1,by omega,j+1,by omega,by omega,hle,fun s x' hs hx'=>?_, ?_⟩ (by omega) ⟨by omega,by omega⟩ ⟨by omega,by omega⟩
  ·show ((zTP x':Nat):Int)≤max i8 ((zTP x:Nat):Int)
   by_cases e:s=j
   ·subst e;rw [hgx] at hx';cases hx';omega
   ·have:=hI s x' (by omega) hx';omega
  ·show max i8 ((zTP x:Nat):Int)=0∨_
   by_cases e:i8≤((zTP x:Nat):Int)
   ·exact .inr ⟨x,hxm,by show max i8 ((zTP x:Nat):Int)=_;omega⟩
   ·rcases hE with h0 | ⟨x',f1,f2⟩
    ·omega
    ·exact .inr ⟨x',f1,by show max i8 ((zTP x:Nat):Int)=_;omega⟩
 have erl:=irs.len
 have hrr:=(yPU (by omega)).1 B.ros
 rw [hm] at hrr
 have hrm:rs∈zIC w m l []:=(yDP hln hm).2 ⟨erl,hrr,B.legal⟩
 have hcr:((zTP rs:Nat):Int)=zAJ w (zV rs):=yYW (by omega) (fun y hy=>(hrr y hy).1)
 have k0:∀ i8 y,P0 i8 y→zLE σ.next pr l cr (zAJ w (zV rs)) 0 p20 l20 c20 i8 y (fun v _=>v=.bool true):=by
  rintro i8 y ⟨hle,hI,hE⟩
  have h1:=hI rs hrm
  have hi8:zAJ w (zV rs)=i8:=by
   rcases hE with h0 | ⟨x,hx,hxe⟩
   ·omega
   ·obtain ⟨hxl,hxr,hxg⟩:=(yDP hln hm).1 hx
    have h2:=B.most _ ((yPU (by omega)).2 (by rw [hm];exact hxr)) hxg
    have h3:((zTP x:Nat):Int)=zAJ w (zV x):=yYW (by omega) (fun y hy=>(hxr y hy).1)
    omega
  have Ly:Le s12 y:=N6.le.trans hle
  have Lt:Le t1 y:=L12.trans Ly
  have iry:yI y pr l rs:=SlV.le irs Ly
  have hy:=(h.le L1).le Lt
  have g2:=ldw y Lt
  have g3:=yGI (c:=c) (d:=d) (rc:=cr) hy iry (by omega) (by omega)
  have hisr:zSW w rs=true:=yTG.2 ⟨by omega,fun i hi=>B.ros.ros i (by omega)⟩
  rw [hisr] at g3
  have g4:=yGF (c:=c) (d:=d) (rc:=cr) hy hs iry
  have hleg:zEC w (zV rs) (zV (zCX w)) m=[]:=by rw [yQJ,← hm];exact zZZ.2 B.legal
  rw [decide_eq_true hleg] at g4
  have g5:=zZP (c:=cr) iry (by omega)
  exact yDK g2 g3 g4 g5 rfl rfl hi8 hcr
 subst ht1
 exact yTE k1 k2 k3 h4 k5 k6 hL k0 hf
end
end Go.Proofs.YtgfiniccfpfplaaGreat
