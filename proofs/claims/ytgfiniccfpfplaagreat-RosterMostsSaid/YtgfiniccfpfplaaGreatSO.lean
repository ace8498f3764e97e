
import Derived.Test.YtgfiniccfpfplaaGreatSN
import Derived.Test.YtgfiniccfpfplaaGreatSA
namespace Go.Proofs.YtgfiniccfpfplaaGreat
open Go Go.Lay
open Tryz renaming prog → Pg
set_option linter.unusedVariables false
set_option linter.unusedSimpArgs false
set_option maxRecDepth 20000
theorem zLI {w:Wk}:∀ {a b D:Nat},xA w (a+b) D=xA w a D++xA w b (D+a)
 | 0,b,D=>by rw [Nat.zero_add];rfl
 | a+1,b,D=>by
  rw [show a+1+b=(a+b)+1 by omega]
  show yD w D w.duties.length++xA w (a+b) (D+1)=(yD w D w.duties.length++xA w a (D+1))++_
  rw [zLI (a:=a),List.append_assoc,show D+1+a=D+(a+1) by omega]
theorem yTR {w:Wk} {n D:Nat} (h:D<n):xA w n 0=xA w D 0++(yD w D w.duties.length++xA w (n-D-1) (D+1)):=by
 have e:n=D+((n-D-1)+1):=by omega
 have:=zLI (w:=w) (a:=D) (b:=(n-D-1)+1) (D:=0)
 rw [← e] at this
 rw [this,Nat.zero_add];rfl
theorem yNU {w:Wk} {D:Nat}:xA w (D+1) 0=xA w D 0++yD w D w.duties.length:=by
 rw [zLI (a:=D) (b:=1),Nat.zero_add]
 show _++(yD w D w.duties.length++[])=_
 rw [List.append_nil]
theorem yVQ {L:List Nat} {rs:List Int} {i:Nat} {x:Int} (hi:i<rs.length) (hn:i ∉ L):L.map (zV (rs.set i x))=L.map (zV rs):=by
 refine List.map_congr_left fun j hj=>?_
 rw [yFP hi,if_neg (fun e:j=i=>hn (by rw [← e];exact hj))]
theorem yWS {σ:St} {b l:Nat} {rs:List Int} (o:Own σ b (rs.map yC) 1) (hl:rs.length=l):yI σ (some ⟨b,0,none⟩) l rs:=by
 refine ⟨?_,by simpa using hl,fun x hx=>?_⟩
 ·rw [zFF rs .i64]
  exact ⟨by simp [hl],o.rw⟩
 ·obtain ⟨x,_,rfl⟩:=List.mem_map.1 hx
  exact zBQ x
theorem own_set {σ:St} {b i:Nat} {rs:List Int} {x:Int} (o:Own σ b (rs.map yC) 1) (hi:i<rs.length):zS Pg (evL [.pointer (some (zP ⟨b,0,none⟩ (Int.toNat (i:Int)*1))),iV x]) σ (.store 3 (.tmp 0) (.tmp 1))=some (undef,σ.own b ((rs.set i x).map yC) 1):=by
 have e:zP ⟨b,0,none⟩ (Int.toNat (i:Int)*1)=⟨b,i,none⟩:=by simp [zP]
 rw [e]
 refine o.store (k:=i) (v:=iV x) (vs:=[iV x]) rfl zAF rfl (by simp;omega) ?_
 rw [List.set_eq_take_append_cons_drop,if_pos hi,List.map_append,List.map_cons,List.map_take,List.map_drop];rfl
theorem zRU:∀ l:Nat,yW [iV 0] l=(List.replicate l (0:Int)).map yC
 | 0=>rfl
 | l+1=>by
  have:=zRU l
  rw [List.replicate_succ,List.map_cons,← this];rfl
section
variable {z:St} {w:Wk} {p q:Option Addr} {l m c d n fw:Nat} {leaves:Bool} {fc:List Value} {wf:Nat→List Int→List Int}
structure RunJ (z:St) (w:Wk) (p:Option Addr) (l c:Nat) (q:Option Addr) (m d:Nat) (B br:Nat) (X:Nat→Prop) (e:EndR) (o:yKB) (L:List Nat) (at_:Int) (y:St) (rs:List Int):Prop where
 nw:New z.re y
 wk:Row y ⟨z.next,0,none⟩ (wkc w.days p l c q m d w.rest w.run w.hours)
 wo:Own y (z.next+1) (zL 0 0 0 0 0 0) 1
 en:Own y B (zGI e) 8
 ro:Own y br (rs.map yC) 1
 len:rs.length=l
 ep:EndP y X e o
 atb:0≤at_∧at_≤L.length
 is:∀ who u,o=some (who,u)→at_=L.length∧L.map (zV rs)=who.take L.length
theorem run_c (h:WkP z 85 88 w p l q m) (sh:zLY w) (sn:Sane w l m) (dn:w.days=(n:Int)) (n7:n≤7) (vd:Days w n)
  (wfc:∀ z',Le z z'→∀ (D:Nat) (pw:Option Addr) (lw cw:Nat) (who:List Int),yI z' pw lw who→lw≤12→zE Pg fw ([]++(iV (D:Int)::.slice pw lw cw::fc)) z' (.agg ⟨six (wf D who)⟩) z')
  (wfl:∀ D a,(wf D a).length=6) (wfb:∀ D a,a.length≤12→Bd 12 (wf D a)) (bel:∀ k,z.next≤k→yT RD k (.func (.func fw) ⟨[]⟩ ⟨fc⟩)=true) (good:zI RD (.func (.func fw) ⟨[]⟩ ⟨fc⟩)=true) :
  ∃ (v:List Int) (can:Bool) (o:yKB) (rs:List Int) (p':Option Addr) (c':Nat) (z':St),zE Pg 59 [.agg ⟨wkc w.days p l c q m d w.rest w.run w.hours⟩,.bool leaves,.func (.func fw) ⟨[]⟩ ⟨fc⟩] z (.tuple ⟨[.slice p' l c',.agg ⟨six v⟩,.bool can]⟩) z'∧New z z'∧yI z' p' l rs∧(∀ b,AtP p' b→z.next≤b)∧v.length=6∧Bd 100 v∧xU 6 (Ch w leaves wf n 0 (st0 w m)) o∧(match o with
   | none=>can=false
   | some (who,u)=>can=true∧v=u∧(xA w n 0).map (zV rs)=who):=by
 have hln:=h.len
 have zr:z.re.next=z.next:=rfl
 suffices hmain:zQ Pg 59 [.agg ⟨wkc w.days p l c q m d w.rest w.run w.hours⟩,.bool leaves,.func (.func fw) ⟨[]⟩ ⟨fc⟩] z.re fun vv s=>New z.re s∧∃ (v:List Int) (can:Bool) (o:yKB) (rs:List Int) (br:Nat),vv=.tuple ⟨[.slice (some ⟨br,0,none⟩) l l,.agg ⟨six v⟩,.bool can]⟩∧yI s (some ⟨br,0,none⟩) l rs∧z.next≤br∧v.length=6∧Bd 100 v∧xU 6 (Ch w leaves wf n 0 (st0 w m)) o∧(match o with
   | none=>can=false
   | some (who,u)=>can=true∧v=u∧(xA w n 0).map (zV rs)=who) by
  obtain ⟨vv,z',h1,h2,v,can,o,rs,br,rfl,h3,h4,h5,h6,h7,h8⟩:=zQ.new hmain (by
   rintro vv s s' ⟨v,can,o,rs,br,h1,h2,h3⟩ hl
   exact ⟨v,can,o,rs,br,h1,SlV.le h2 hl,h3⟩) (by
   rintro vv s hr ⟨v,can,o,rs,br,rfl,h2,h3⟩
   exact Bool.noConfusion (show false=true from hr))
  exact ⟨v,can,o,rs,_,_,z',h1,h2,h3,fun b hb=>by obtain ⟨a,e,rfl⟩:=hb;cases e;exact h4,h5,h6,h7,h8⟩
 obtain ⟨t1,ht1⟩:∃ t1,t1=z.re.row (wkc w.days p l c q m d w.rest w.run w.hours) 6:=⟨_,rfl⟩
 have n1:t1.next=z.next+1:=by rw [ht1];rfl
 have M1:New z.re t1:=by rw [ht1];exact New.row _ _ _
 have w1:Row t1 ⟨z.next,0,none⟩ (wkc w.days p l c q m d w.rest w.run w.hours):=by rw [ht1];exact xG z.re _ _
 obtain ⟨t2,ht2⟩:∃ t2,t2=t1.row (zL 0 0 0 0 0 0) 1:=⟨_,rfl⟩
 have n2:t2.next=z.next+2:=by rw [ht2];show t1.next+1=_;omega
 have M2:New z.re t2:=by rw [ht2];exact M1.row'
 have v2:Own t2 (z.next+1) (zL 0 0 0 0 0 0) 1:=by rw [ht2,← n1];exact zC _ _ _
 obtain ⟨t3,ht3⟩:∃ t3,t3=t2.add (.map []):=⟨_,rfl⟩
 have n3:t3.next=z.next+3:=by rw [ht3];show t2.next+1=_;omega
 have M23:New t2 t3:=by rw [ht3];exact New.add _ _
 have M3:New z.re t3:=M2.trans M23
 have mp3:zID Pg t3 (z.next+2) yHZ zET (fun _=>none):=by rw [ht3,← n2];exact zID.new t2
 let K:PlK:=⟨z,z.next+3,z.next+2,w,p,l,c,q,m,d,leaves,fw,[],fc,wf,n⟩
 obtain ⟨t4,ht4⟩:∃ t4,t4=t3.row K.row 9:=⟨_,rfl⟩
 have n4:t4.next=z.next+4:=by rw [ht4];show t3.next+1=_;omega
 have M34:New t3 t4:=by rw [ht4];exact New.row _ _ _
 have M4:New z.re t4:=M3.trans M34
 have pr4:Row t4 ⟨z.next+3,0,none⟩ K.row:=by rw [ht4,← n3];exact xG _ _ _
 have okK:K.Ok:=⟨h,sh,sn,dn,n7,vd,by show z.next≤z.next+2;omega,by show z.next+2≠z.next+3;omega,wfc,wfl,wfb,by show w.duties.length≤12;rw [hln.1];exact sn.l12,bel,good⟩
 have L4:Le z t4:=(le0 z).trans M4.le
 have W4:PlW K t4 (fun _=>none) (fun _=>False):=⟨L4,pr4,mp3.le M34.le,fun b hb=>hb.elim,fun D st e he=>by cases he⟩
 have c1:=yRK (c:=c) (d:=d) (h.le L4) sn.m6
 have hst:∀ k,k<m→StG (st0 w m k):=fun k hk=>by
  unfold st0
  rw [if_pos hk]
  have hd:=sn.dr k hk
  exact StG.before ⟨hd.1,hd.2.1⟩ ⟨hd.2.2.1,hd.2.2.2.1⟩ ⟨hd.2.2.2.2.1,hd.2.2.2.2.2⟩
 obtain ⟨z5,e,o,F',X',c2,k5,W5,E5,bo,x1,x2,_⟩:=yZE okK n t4 _ _ 0 (st0 w m) (by show 0+n=n;omega) W4 hst
 have M5:New z.re z5:=M4.of_only k5 (fun b hb=>by have hb:b=z.next+2:=hb;show z.next≤b;omega)
 have n5:=k5.next
 have w5:Row z5 ⟨z.next,0,none⟩ (wkc w.days p l c q m d w.rest w.run w.hours):=k5.rw' (((w1.le (by rw [ht2];exact Le.row _ _ _)).le M23.le).le M34.le) (fun h=>by have h:z.next=z.next+2:=h;omega)
 have v5:Own z5 (z.next+1) (zL 0 0 0 0 0 0) 1:=k5.own' ((v2.le M23.le).le M34.le) (fun h=>by have h:z.next+1=z.next+2:=h;omega)
 obtain ⟨t6,ht6⟩:∃ t6,t6=(z5.row [iV 0,iV 0,iV 0,iV 0,iV 0,iV 0,.slice none 0 0,.bool false] 8).own z5.next (zGI e) 8:=⟨_,rfl⟩
 have n6:t6.next=z5.next+1:=by rw [ht6];rfl
 have M56:New z5 t6:=by rw [ht6];exact (New.row _ _ _).own (Nat.le_refl _)
 have e6:Own t6 z5.next (zGI e) 8:=by rw [ht6];exact (zC _ _ _).put
 have w6:=w5.le M56.le
 have h3:zB Pg t6 31 ⟨z.next,1,none⟩=some (.slice p l c):=w6.ld zEP rfl
 have zt3:zBO Pg 3=some (iV 0):=by kernel_rfl
 have h4:=make_sl (P:=Pg) (σ:=t6) (st:=26) (e:=3) (n:=1) (by kernel_rfl) zt3 (len:=l) (by have:=sn.l12;omega)
 obtain ⟨t7,ht7⟩:∃ t7,t7=t6.row (yW (Value.int .i64 0).cells.toList l) 1:=⟨_,rfl⟩
 have n7':t7.next=z5.next+2:=by rw [ht7];show t6.next+1=_;omega
 have M67:New t6 t7:=by rw [ht7];exact New.row _ _ _
 have r7:Own t7 t6.next ((List.replicate l (0:Int)).map yC) 1:=by rw [ht7,← zRU];exact zC _ _ _
 rw [← ht7] at h4
 have w7:=w6.le M67.le
 have h5:zB Pg t7 3 ⟨z.next,0,none⟩=some (iV w.days):=w7.ld zR rfl
 have M7:New z.re t7:=(M5.trans M56).trans M67
 have hx:∀ b,X' b→b<z5.next:=fun b hb=>(W5.xb b hb).1
 have e7:EndP t7 X' e o:=(E5.le M56.le).le M67.le
 have hnd:=zLJ (w:=w) (r:=n) (D:=0)
 have J0:RunJ z w p l c q m d z5.next t6.next X' e o (xA w 0 0) 0 t7 (List.replicate l 0):=⟨M7,w7,(v5.le M56.le).le M67.le,e6.le M67.le,r7,by simp,e7,⟨by omega,by simp [xA]⟩,fun who u _=>⟨rfl,by simp [xA]⟩⟩
 have hol:∀ who u,o=some (who,u)→e.can=true∧e.v=u∧who.length=(xA w n 0).length:=by
  rintro who u rfl
  have ht:e.can=true∧e.v=u∧_:=E5.tell
  exact ⟨ht.1,ht.2.1,(yOI bo.1).1⟩
 have hflen:(xA w n 0).length≤100:=by
  have:=yAS (w:=w) (r:=n) (D:=0)
  have h1:=sn.l12
  have:n*w.duties.length≤7*12:=Nat.mul_le_mul n7 (by omega)
  omega
 let P0:St→Prop:=fun y=>∃ at_ rs,RunJ z w p l c q m d z5.next t6.next X' e o (xA w n 0) at_ y rs
 have hL:yKZ z.next (some ⟨t6.next,0,none⟩) l l (z.next+1) z5.next w.days 0 0 t7 P0:=by
  refine yRQ (Inv:=fun k a i y=>∃ (D:Nat) (rs:List Int),i=D∧D+k=n∧RunJ z w p l c q m d z5.next t6.next X' e o (xA w D 0) a y rs) ?_ n 0 0 t7 ⟨0,_,rfl,by omega,J0⟩
  rintro k a i y ⟨D,rs,rfl,hk,J⟩
  by_cases hD:D<n
  rotate_left
  ·have:D=n:=by omega
   subst this
   exact run_s1b ⟨a,rs,J⟩ (by omega)
  have hfd:=yTR (w:=w) hD
  have hdl:(yD w D l).length≤l:=zFG
  have hl12:=sn.l12
  have g1:zB Pg y 34 ⟨z.next,0,none⟩=some (.agg ⟨wkc w.days p l c q m d w.rest w.run w.hours⟩):=J.wk.ldN zEO zAI (k:=0) rfl rfl (nle rfl)
  obtain ⟨p2,c3,y2,g2,N2,I2,f2⟩:=yIZ (σ:=y) (D:=D) (c:=c) (d:=d) (h.le ((le0 z).trans J.nw.le)) (by have:=sn.l12;omega)
  have J2:RunJ z w p l c q m d z5.next t6.next X' e o (xA w D 0) a y2 rs:=⟨J.nw.trans N2,J.wk.le N2.le,J.wo.le N2.le,J.en.le N2.le,J.ro.le N2.le,J.len,J.ep.le N2.le,J.atb,J.is⟩
  refine run_s1a g1 g2 (P2:=fun a y=>∃ rs,RunJ z w p l c q m d z5.next t6.next X' e o (xA w D 0++yD w D l) a y rs) (yRP (Inv:=fun k a i y=>∃ (s:Nat) (rs:List Int),i=s∧s+k=(yD w D l).length∧yI y p2 (yD w D l).length (zOH (yD w D l))∧RunJ z w p l c q m d z5.next t6.next X' e o (xA w D 0++(yD w D l).take s) a y rs) ?_ (yD w D l).length a 0 y2 ⟨0,rs,rfl,by omega,I2,by simpa using J2⟩) ?_ (by omega)
  ·rintro k2 a2 i2 y3 ⟨s,rs3,rfl,hk2,I3,J3⟩
   by_cases hs:s<(yD w D l).length
   rotate_left
   ·have hse:s=(yD w D l).length:=by omega
    rw [hse,List.take_length] at J3
    exact run_s2c ⟨rs3,J3⟩ (by omega)
   obtain ⟨qa,rfl,_⟩:=I3.some hs
   have hgs:(yD w D l)[s]?=some (yD w D l)[s]:=List.getElem?_eq_getElem hs
   generalize (yD w D l)[s]=i at hgs
   have ld1:zB Pg y3 3 (zP qa (Int.toNat (s:Int)*1))=some (iV (i:Int)):=I3.at rfl (by simp [zOH,hgs])
   have ld2:zB Pg y3 4 ⟨z5.next,7,none⟩=some (.bool e.can):=J3.en.rw.ld yUT rfl
   have hi:i<l:=(zMQ.1 (List.mem_of_getElem? hgs)).1
   have etk:(yD w D l).take (s+1)=(yD w D l).take s++[i]:=by rw [List.take_add_one,hgs];rfl
   have hlenL:(xA w D 0++(yD w D l).take (s+1)).length=(xA w D 0++(yD w D l).take s).length+1:=by rw [etk];simp;omega
   have hfl:xA w n 0=(xA w D 0++(yD w D l).take s)++(i::((yD w D l).drop (s+1)++xA w (n-D-1) (D+1))):=by
    rw [hfd,hln.1]
    conv=>lhs;rw [← List.take_append_drop (s+1) (yD w D l),etk]
    simp
   have hni:i ∉ xA w D 0++(yD w D l).take s:=fun hm=>by
    rw [hfl] at hnd
    exact (List.nodup_append.1 hnd).2.2 i hm i List.mem_cons_self rfl
   have hll:=congrArg List.length hfl
   rw [List.length_append,List.length_cons] at hll
   have hat:=J3.atb
   cases hc:e.can with
   | false =>
    rw [hc] at ld2
    have hn:∀ who u,¬ o=some (who,u):=fun who u ho=>by
     have:=(hol who u ho).1
     rw [hc] at this;cases this
    exact run_s2b ld1 ld2 ⟨k2-1,by omega,s+1,rs3,by omega,by omega,I3,J3.nw,J3.wk,J3.wo,J3.en,J3.ro,J3.len,J3.ep,⟨hat.1,by rw [hlenL];omega⟩,fun who u ho=>absurd ho (hn who u)⟩ (by omega) ⟨by omega,by omega⟩ ⟨by omega,by have:=sn.l12;omega⟩
   | true =>
    rw [hc] at ld2
    obtain ⟨who,u,ho⟩:∃ who u,o=some (who,u):=by
     cases o with
     | none=>have ht:e.can=false:=E5.tell;rw [hc] at ht;cases ht
     | some r=>exact ⟨r.1,r.2,rfl⟩
    obtain ⟨hat2,hmp⟩:=J3.is who u ho
    have hwl:=(hol who u ho).2.2
    have ht:e.can=true∧e.v=u∧yI y3 e.p e.l who:=by have:=J3.ep.tell;rw [ho] at this;exact this
    have Iw:=ht.2.2
    have ewl:=Iw.len
    subst hat2
    generalize hLn:(xA w D 0++(yD w D l).take s).length=N at *
    have hNw:N<who.length:=by omega
    obtain ⟨ra,hra,_⟩:=Iw.some (by omega:N<e.l)
    have ld3:zB Pg y3 26 ⟨z5.next,6,none⟩=some (.slice (some ra) e.l e.c):=by rw [← hra];exact J3.en.rw.ld yV rfl
    have hgw:who[N]?=some who[N]:=List.getElem?_eq_getElem hNw
    generalize who[N]=x at hgw
    have ld4:zB Pg y3 3 (zP ra (Int.toNat ((N:Nat):Int)*1))=some (iV x):=Iw.at hra (by simp [hgw])
    have hir:i<rs3.length:=by rw [J3.len];exact hi
    have st5:=own_set (x:=x) J3.ro hir
    have kS:Only (·=t6.next) y3 (y3.own t6.next ((rs3.set i x).map yC) 1):=Only.own (.inr rfl)
    have hz6:z.next+2≤z5.next:=by omega
    refine run_s2a ld1 ld2 ld3 ld4 st5 ⟨k2-1,by omega,s+1,rs3.set i x,by omega,by omega,kS.slv' I3 (fun a ea hh=>?_),J3.nw.own (by omega),kS.rw' J3.wk (fun hh=>by have hh:z.next=t6.next:=hh;omega),kS.own' J3.wo (fun hh=>by have hh:z.next+1=t6.next:=hh;omega),kS.own' J3.en (fun hh=>by have hh:z5.next=t6.next:=hh;omega),J3.ro.put,by simp [J3.len],J3.ep.only kS (fun b hb hh=>by have:=hx b hb;omega),⟨by omega,by omega⟩,fun who' u' ho'=>?_⟩ (by omega) ⟨by omega,by omega⟩ ⟨by omega,by omega⟩ ⟨by omega,by omega⟩ ⟨by omega,by omega⟩ ⟨by omega,by have:=sn.l12;omega⟩
    ·cases ea
     have:=f2 qa.block ⟨qa,rfl,rfl⟩
     have hyz:=J.ro.lt
     omega
    ·rw [ho] at ho'
     cases ho'
     refine ⟨by omega, ?_⟩
     rw [hlenL,etk,← List.append_assoc,List.map_append,yVQ hir hni,hmp,List.map_cons,List.map_nil,yFP hir,if_pos rfl,List.take_add_one,hgw];rfl
  ·rintro a2 y3 ⟨rs3,J3⟩
   refine yRN ⟨k-1,by omega,D+1,rs3,by omega,by omega, ?_⟩ ?_
   ·rw [yNU,hln.1];exact J3
   ·have:=J3.atb
    have hll:(xA w D 0++yD w D l).length≤100:=by
     have:=congrArg List.length hfd
     rw [hln.1] at this
     simp only [List.length_append] at this hflen ⊢
     omega
    exact ⟨by omega,by omega⟩
 have k0:∀ y,P0 y→zUO z.next (some ⟨t6.next,0,none⟩) l l (z.next+1) z5.next w.days y (fun vv s=>New z.re s∧∃ (v:List Int) (can:Bool) (o:yKB) (rs:List Int) (br:Nat),vv=.tuple ⟨[.slice (some ⟨br,0,none⟩) l l,.agg ⟨six v⟩,.bool can]⟩∧yI s (some ⟨br,0,none⟩) l rs∧z.next≤br∧v.length=6∧Bd 100 v∧xU 6 (Ch w leaves wf n 0 (st0 w m)) o∧(match o with
   | none=>can=false
   | some (who,u)=>can=true∧v=u∧(xA w n 0).map (zV rs)=who)):=by
  rintro y ⟨a,rs,J⟩
  have g1:zB Pg y 98 ⟨z5.next,0,none⟩=some (.agg ⟨zL (e.v.getD 0 0) (e.v.getD 1 0) (e.v.getD 2 0) (e.v.getD 3 0) (e.v.getD 4 0) (e.v.getD 5 0)⟩):=J.en.rw.ldN zEN wS (k:=0) rfl rfl (nle rfl)
  have g2:zB Pg y 4 ⟨z5.next,7,none⟩=some (.bool e.can):=J.en.rw.ld yUT rfl
  have g3:=J.wo.store (P:=Pg) (k:=0) (t:=98) (v:=.agg ⟨zL (e.v.getD 0 0) (e.v.getD 1 0) (e.v.getD 2 0) (e.v.getD 3 0) (e.v.getD 4 0) (e.v.getD 5 0)⟩) (vs:=zL (e.v.getD 0 0) (e.v.getD 1 0) (e.v.getD 2 0) (e.v.getD 3 0) (e.v.getD 4 0) (e.v.getD 5 0)) (ds:=zL (e.v.getD 0 0) (e.v.getD 1 0) (e.v.getD 2 0) (e.v.getD 3 0) (e.v.getD 4 0) (e.v.getD 5 0)) rfl wS rfl (nle rfl) rfl
  have kS:Only (·=z.next+1) y (y.own (z.next+1) (zL (e.v.getD 0 0) (e.v.getD 1 0) (e.v.getD 2 0) (e.v.getD 3 0) (e.v.getD 4 0) (e.v.getD 5 0)) 1):=Only.own (.inr rfl)
  have e2:=kS.own' J.en (fun hh=>by have hh:z5.next=z.next+1:=hh;omega)
  have r2:=kS.own' J.ro (fun hh=>by have hh:t6.next=z.next+1:=hh;omega)
  have g4:(z5.next<(y.own (z.next+1) (zL (e.v.getD 0 0) (e.v.getD 1 0) (e.v.getD 2 0) (e.v.getD 3 0) (e.v.getD 4 0) (e.v.getD 5 0)) 1).next∧zI RD (.bool e.can)=true)∧zB Pg (y.own (z.next+1) (zL (e.v.getD 0 0) (e.v.getD 1 0) (e.v.getD 2 0) (e.v.getD 3 0) (e.v.getD 4 0) (e.v.getD 5 0)) 1) 4 ⟨z5.next,7,none⟩=some (.bool e.can):=⟨⟨e2.lt,rfl⟩,e2.rw.ld yUT rfl⟩
  have g5:zB Pg (y.own (z.next+1) (zL (e.v.getD 0 0) (e.v.getD 1 0) (e.v.getD 2 0) (e.v.getD 3 0) (e.v.getD 4 0) (e.v.getD 5 0)) 1) 98 ⟨z.next+1,0,none⟩=some (.agg ⟨zL (e.v.getD 0 0) (e.v.getD 1 0) (e.v.getD 2 0) (e.v.getD 3 0) (e.v.getD 4 0) (e.v.getD 5 0)⟩):=J.wo.put.rw.ldN zEN wS (k:=0) rfl rfl (nle rfl)
  refine yRO g1 g2 g3 g4 g5 ⟨J.nw.own (by omega),e.v,e.can,o,rs,t6.next,by rw [zIN],yWS r2 J.len,by omega,E5.len,E5.bd,bo, ?_⟩ J.en.lt J.wo.lt
  cases ho:o with
  | none =>
   have ht:=E5.tell
   rw [ho] at ht
   exact ht
  | some r =>
   obtain ⟨h1,h2,h3⟩:=hol r.1 r.2 ho
   refine ⟨h1,h2, ?_⟩
   have h4:=(J.is r.1 r.2 ho).2
   rw [h4,← h3,List.take_length]
 subst ht7 ht6 ht4 ht3 ht2 ht1
 exact run_ra c1 c2 h3 h4 h5 hL k0
end
end Go.Proofs.YtgfiniccfpfplaaGreat
