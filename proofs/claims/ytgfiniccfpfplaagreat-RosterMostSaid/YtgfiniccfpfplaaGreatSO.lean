import Derived.Test.YtgfiniccfpfplaaGreatRZ
import Derived.Test.YtgfiniccfpfplaaGreatXK
import Derived.Test.YtgfiniccfpfplaaGreatSN

namespace Go.Proofs.YtgfiniccfpfplaaGreat
open Go Go.Lay
set_option linter.unusedVariables false
set_option linter.unusedSimpArgs false
set_option maxRecDepth 20000
section
variable {Z:St} {w:Wk} {p q r t:Option Addr} {l m c d rl rc tl tc:Nat} {rs ts:List Int}
theorem yKS {i j:Nat} {k:Int} (hi:i<rs.length):zZ (rs.set i k) j=if j=i then k else zZ rs j:=by
 unfold zZ;rw [List.getD_eq_getElem?_getD,List.getD_eq_getElem?_getD,List.getElem?_set];by_cases e:i=j
 ·subst e;rw [if_pos rfl,if_pos hi,if_pos rfl];rfl
 ·rw [if_neg e,if_neg (Ne.symm e)]
def zOG (x:Drv):Bool:=decide (x.knows.length<=20) && (decide (x.leave.length<=20) && decide (x.wish.length<=20))
def zJY (w:Wk):Bool:=(w.drivers.take 10).all zOG && (decide (w.duties.length<=15) && decide (w.drivers.length<=9))
theorem zWP (h:zJY w=true):zAQ w/\w.duties.length<=15/\w.drivers.length<=9:=by
 unfold zJY at h;rw [Bool.and_eq_true,Bool.and_eq_true,decide_eq_true_eq,decide_eq_true_eq] at h;obtain ⟨h1,h2,h3⟩:=h;refine ⟨fun x hx=>?_,h2,h3⟩
 rw [List.take_of_length_le (by omega)] at h1;have:=List.all_eq_true.1 h1 x hx;unfold zOG at this;rw [Bool.and_eq_true,Bool.and_eq_true,decide_eq_true_eq,decide_eq_true_eq,decide_eq_true_eq] at this;omega
theorem Thin_c (h:WkP Z 92 76 w p l q m):zD Tryz.prog 14 [.agg ⟨wkc w.days p l c q m d w.rest w.run w.hours⟩] Z (.bool (zJY w)) Z:=by
 have hln:=h.len.1;have hm:=h.len.2;obtain ⟨Z1,hZ1⟩:∃ Z1,Z1=Z.re.row (wkc w.days p l c q m d w.rest w.run w.hours) 6:=⟨_,rfl⟩;have N1:New Z.re Z1:=by rw [hZ1];exact New.row _ _ _
 have L1:Le Z Z1:=(le0 Z).trans N1.le;have hk0:=xP Z.re (wkc w.days p l c q m d w.rest w.run w.hours) 6;rw [<- hZ1] at hk0;have lD:∀ {τ},New Z1 τ->zB Tryz.prog τ 22 ⟨Z.re.next,1,none⟩=some (.slice p l c):=fun hN=>(hk0.le hN.le).ld zCU rfl
 have lV:∀ {τ},New Z1 τ->zB Tryz.prog τ 23 ⟨Z.re.next,2,none⟩=some (.slice q m d):=fun hN=>(hk0.le hN.le).ld zHG rfl
 refine (Thin_ra (yXB (Inv:=fun k i τ=>New Z1 τ/\∃ j:Nat,i=j/\j+k=m/\j<=10/\(w.drivers.take j).all zOG=true) (Qr:=fun b τ=>New Z1 τ/\b=false/\zJY w=false) (Q0:=fun τ=>New Z1 τ/\(w.drivers.take 10).all zOG=true) ?_ m 0 _ ⟨by rw [<- hZ1];exact New.refl _,0,rfl,by omega,by omega,rfl⟩) ?_ ?_).pure
 ·rintro k i τ ⟨hN,j,rfl,hk,hj10,ha⟩;by_cases hj:j<m;rotate_left
  ·refine Thin_s1f (lV hN) ⟨hN, ?_⟩ (by omega);rw [List.take_of_length_le (by omega)] at ha ⊢;exact ha
  by_cases h10:j<10;rotate_left
  ·have:j=10:=by omega
   subst this;exact Thin_s1e (lV hN) ⟨hN,ha⟩ (by omega) (by omega)
  obtain ⟨a,rfl,p',l',c',r',n',d',s',j',e',ld,hkn,hlv,hws,_⟩:=(h.le (L1.trans hN.le)).vld agg76 uY hj;have e1:=hkn.len;have e2:=hlv.len;have e3:=hws.len;have N2:New τ ((τ.row (zL none 0 0 none 0 0 none 0 0 0 0 0) 6).own τ.next (zL p' l' c' r' n' d' s' j' e' (drv w j).off (drv w j).row (drv w j).used) 6):=(New.row _ _ _).own (Nat.le_refl _);have hx:w.drivers[j]?=some (drv w j):=by
   unfold drv;rw [List.getD_eq_getElem?_getD,List.getElem?_eq_getElem (by omega)];rfl
  have no:zOG (drv w j)=false->zJY w=false:=by
   intro hf;have:(w.drivers.take 10).all zOG=false:=by
    refine yJB (x:=drv w j) ?_ hf;rw [List.mem_iff_getElem?];exact ⟨j,by rw [List.getElem?_take,if_pos h10];exact hx⟩
   unfold zJY;rw [this];rfl
  by_cases g1:20<l'
  ·exact Thin_s1a (lV hN) ld ⟨hN.trans N2,rfl,no (by unfold zOG;rw [decide_eq_false (by omega)];rfl)⟩ (by omega) (by omega) (by omega) (by omega)
  by_cases g2:20<n'
  ·exact Thin_s1b (lV hN) ld ⟨hN.trans N2,rfl,no (by unfold zOG;rw [decide_eq_true (by omega),decide_eq_false (by omega)];rfl)⟩ (by omega) (by omega) (by omega) (by omega) (by omega)
  by_cases g3:20<j'
  ·exact Thin_s1c (lV hN) ld ⟨hN.trans N2,rfl,no (by unfold zOG;rw [decide_eq_true (by omega),decide_eq_true (by omega),decide_eq_false (by omega)];rfl)⟩ (by omega) (by omega) (by omega) (by omega) (by omega) (by omega)
  ·exact Thin_s1d (lV hN) ld ⟨k-1,by omega,hN.trans N2,j+1,by omega,by omega,by omega,zRJ hx ha (by unfold zOG;rw [decide_eq_true (by omega),decide_eq_true (by omega),decide_eq_true (by omega)];rfl)⟩ (by omega) (by omega) (by omega) (by omega) (by omega) (by omega) (by omega)
 ·rintro b τ ⟨hN,rfl,e⟩;exact yWX ⟨by rw [e],(N1.trans hN).lw⟩
 ·rintro τ ⟨hN,e⟩;have hlow:=(N1.trans hN).lw;by_cases h15:l<=15
  ·by_cases h9:m<=9
   ·exact yXA (lD hN) (lV hN) ⟨by unfold zJY;rw [e,decide_eq_true (by omega),decide_eq_true (by omega)];rfl,hlow⟩ (by omega) (by omega)
   ·exact yWZ (lD hN) (lV hN) ⟨by unfold zJY;rw [e,decide_eq_true (by omega),decide_eq_false (by omega)];rfl,hlow⟩ (by omega) (by omega)
  ·exact yWY (lD hN) ⟨by unfold zJY;rw [e,decide_eq_false (by omega)];rfl,hlow⟩ (by omega)
end
end Go.Proofs.YtgfiniccfpfplaaGreat

namespace Go.Proofs.YtgfiniccfpfplaaGreat
open Go Go.Lay
open Tryz renaming prog -> Pg
set_option linter.unusedVariables false
set_option linter.unusedSimpArgs false
set_option maxRecDepth 20000
theorem zLB {w:Wk}:∀ {a b D:Nat},xA w (a+b) D=xA w a D++xA w b (D+a)
 | 0,b,D=>by rw [Nat.zero_add];rfl
 | a+1,b,D=>by
  rw [show a+1+b=(a+b)+1 by omega];show yC w D w.duties.length++xA w (a+b) (D+1)=(yC w D w.duties.length++xA w a (D+1))++_;rw [zLB (a:=a),List.append_assoc,show D+1+a=D+(a+1) by omega]
theorem flatL_day {w:Wk} {n D:Nat} (h:D<n):xA w n 0=xA w D 0++(yC w D w.duties.length++xA w (n-D-1) (D+1)):=by
 have e:n=D+((n-D-1)+1):=by omega
 have:=zLB (w:=w) (a:=D) (b:=(n-D-1)+1) (D:=0);rw [<- e] at this;rw [this,Nat.zero_add];rfl
theorem yUM {w:Wk} {D:Nat}:xA w (D+1) 0=xA w D 0++yC w D w.duties.length:=by
 rw [zLB (a:=D) (b:=1),Nat.zero_add];show _++(yC w D w.duties.length++[])=_;rw [List.append_nil]
theorem rosF_put {L:List Nat} {rs:List Int} {i:Nat} {x:Int} (hi:i<rs.length) (hn:i ∉ L):L.map (zZ (rs.set i x))=L.map (zZ rs):=by
 refine List.map_congr_left fun j hj=>?_
 rw [yKS hi,if_neg (fun e:j=i=>hn (by rw [<- e];exact hj))]
theorem own_ints {Z:St} {b l:Nat} {rs:List Int} (o:Own Z b (rs.map yB) 1) (hl:rs.length=l):yG Z (some ⟨b,0,none⟩) l rs:=by
 refine ⟨?_,by simpa using hl,fun x hx=>?_⟩
 ·rw [zDN rs .i64];exact ⟨by simp [hl],o.rw⟩
 ·obtain ⟨x,_,rfl⟩:=List.mem_map.1 hx;exact zAX x
theorem own_set {Z:St} {b i:Nat} {rs:List Int} {x:Int} (o:Own Z b (rs.map yB) 1) (hi:i<rs.length):zQ Pg (evL [.pointer (some (zM ⟨b,0,none⟩ (Int.toNat (i:Int)*1))),iV x]) Z (.store 3 (.tmp 0) (.tmp 1))=some (undef,Z.own b ((rs.set i x).map yB) 1):=by
 have e:zM ⟨b,0,none⟩ (Int.toNat (i:Int)*1)=⟨b,i,none⟩:=by simp [zM]
 rw [e];refine o.store (k:=i) (v:=iV x) (vs:=[iV x]) rfl vG rfl (by simp;omega) ?_
 rw [List.set_eq_take_append_cons_drop,if_pos hi,List.map_append,List.map_cons,List.map_take,List.map_drop];rfl
theorem zTB:∀ l:Nat,yW [iV 0] l=(List.replicate l (0:Int)).map yB
 | 0=>rfl
 | l+1=>by
  have:=zTB l;rw [List.replicate_succ,List.map_cons,<- this];rfl
section
variable {z:St} {w:Wk} {p q:Option Addr} {l m c d n fw:Nat} {leaves:Bool} {fc:List Value} {wf:Nat->List Int->List Int}
structure RunJ (z:St) (w:Wk) (p:Option Addr) (l c:Nat) (q:Option Addr) (m d:Nat) (B br:Nat) (X:Nat->Prop) (e:EndR) (o:yPV) (L:List Nat) (at_:Int) (y:St) (rs:List Int):Prop where
 nw:New z.re y
 wk:Row y ⟨z.next,0,none⟩ (wkc w.days p l c q m d w.rest w.run w.hours)
 wo:Own y (z.next+1) (zH 0 0 0 0 0 0) 1
 en:Own y B (zFB e) 8
 ro:Own y br (rs.map yB) 1
 len:rs.length=l
 ep:EndP y X e o
 atb:0<=at_/\at_<=L.length
 is:∀ who u,o=some (who,u)->at_=L.length/\L.map (zZ rs)=who.take L.length
theorem run_c (h:WkP z 85 88 w p l q m) (sh:zAQ w) (sn:Sane w l m) (dn:w.days=(n:Int)) (n7:n<=7) (vd:Days w n)
  (wfc:∀ z',Le z z'->∀ (D:Nat) (pw:Option Addr) (lw cw:Nat) (who:List Int),yG z' pw lw who->lw<=12->zD Pg fw ([]++(iV (D:Int)::.slice pw lw cw::fc)) z' (.agg ⟨six (wf D who)⟩) z')
  (wfl:∀ D a,(wf D a).length=6) (wfb:∀ D a,a.length<=12->Bd 12 (wf D a)) (bel:∀ k,z.next<=k->yU RD k (.func (.func fw) ⟨[]⟩ ⟨fc⟩)=true) (good:zN RD (.func (.func fw) ⟨[]⟩ ⟨fc⟩)=true) :
  ∃ (v:List Int) (can:Bool) (o:yPV) (rs:List Int) (p':Option Addr) (c':Nat) (z':St),zD Pg 59 [.agg ⟨wkc w.days p l c q m d w.rest w.run w.hours⟩,.bool leaves,.func (.func fw) ⟨[]⟩ ⟨fc⟩] z (.tuple ⟨[.slice p' l c',.agg ⟨six v⟩,.bool can]⟩) z'/\New z z'/\yG z' p' l rs/\(∀ b,AtP p' b->z.next<=b)/\v.length=6/\Bd 100 v/\xO 6 (Ch w leaves wf n 0 (st0 w m)) o/\(match o with
   | none=>can=false
   | some (who,u)=>can=true/\v=u/\(xA w n 0).map (zZ rs)=who):=by
 have hln:=h.len
 have zr:z.re.next=z.next:=rfl
 suffices hmain:zO Pg 59 [.agg ⟨wkc w.days p l c q m d w.rest w.run w.hours⟩,.bool leaves,.func (.func fw) ⟨[]⟩ ⟨fc⟩] z.re fun vv s=>New z.re s/\∃ (v:List Int) (can:Bool) (o:yPV) (rs:List Int) (br:Nat),vv=.tuple ⟨[.slice (some ⟨br,0,none⟩) l l,.agg ⟨six v⟩,.bool can]⟩/\yG s (some ⟨br,0,none⟩) l rs/\z.next<=br/\v.length=6/\Bd 100 v/\xO 6 (Ch w leaves wf n 0 (st0 w m)) o/\(match o with
   | none=>can=false
   | some (who,u)=>can=true/\v=u/\(xA w n 0).map (zZ rs)=who) by
  obtain ⟨vv,z',h1,h2,v,can,o,rs,br,rfl,h3,h4,h5,h6,h7,h8⟩:=zO.new hmain (by
   rintro vv s s' ⟨v,can,o,rs,br,h1,h2,h3⟩ hl;exact ⟨v,can,o,rs,br,h1,SlV.le h2 hl,h3⟩) (by
   rintro vv s hr ⟨v,can,o,rs,br,rfl,h2,h3⟩;exact Bool.noConfusion (show false=true from hr))
  exact ⟨v,can,o,rs,_,_,z',h1,h2,h3,fun b hb=>by obtain ⟨a,e,rfl⟩:=hb;cases e;exact h4,h5,h6,h7,h8⟩
 obtain ⟨t1,ht1⟩:∃ t1,t1=z.re.row (wkc w.days p l c q m d w.rest w.run w.hours) 6:=⟨_,rfl⟩
 have n1:t1.next=z.next+1:=by rw [ht1];rfl
 have M1:New z.re t1:=by rw [ht1];exact New.row _ _ _
 have w1:Row t1 ⟨z.next,0,none⟩ (wkc w.days p l c q m d w.rest w.run w.hours):=by rw [ht1];exact xP z.re _ _
 obtain ⟨t2,ht2⟩:∃ t2,t2=t1.row (zH 0 0 0 0 0 0) 1:=⟨_,rfl⟩
 have n2:t2.next=z.next+2:=by rw [ht2];show t1.next+1=_;omega
 have M2:New z.re t2:=by rw [ht2];exact M1.row'
 have v2:Own t2 (z.next+1) (zH 0 0 0 0 0 0) 1:=by rw [ht2,<- n1];exact zC _ _ _
 obtain ⟨t3,ht3⟩:∃ t3,t3=t2.add (.map []):=⟨_,rfl⟩
 have n3:t3.next=z.next+3:=by rw [ht3];show t2.next+1=_;omega
 have M23:New t2 t3:=by rw [ht3];exact New.add _ _
 have M3:New z.re t3:=M2.trans M23
 have mp3:zHH Pg t3 (z.next+2) yMX zDB (fun _=>none):=by rw [ht3,<- n2];exact zHH.new t2
 let K:PlK:=⟨z,z.next+3,z.next+2,w,p,l,c,q,m,d,leaves,fw,[],fc,wf,n⟩
 obtain ⟨t4,ht4⟩:∃ t4,t4=t3.row K.row 9:=⟨_,rfl⟩
 have n4:t4.next=z.next+4:=by rw [ht4];show t3.next+1=_;omega
 have M34:New t3 t4:=by rw [ht4];exact New.row _ _ _
 have M4:New z.re t4:=M3.trans M34
 have pr4:Row t4 ⟨z.next+3,0,none⟩ K.row:=by rw [ht4,<- n3];exact xP _ _ _
 have okK:K.Ok:=⟨h,sh,sn,dn,n7,vd,by show z.next<=z.next+2;omega,by show z.next+2≠z.next+3;omega,wfc,wfl,wfb,by show w.duties.length<=12;rw [hln.1];exact sn.l12,bel,good⟩
 have L4:Le z t4:=(le0 z).trans M4.le
 have W4:PlW K t4 (fun _=>none) (fun _=>False):=⟨L4,pr4,mp3.le M34.le,fun b hb=>hb.elim,fun D st e he=>by cases he⟩
 have c1:=yBY (c:=c) (d:=d) (h.le L4) sn.m6
 have hst:∀ k,k<m->StG (st0 w m k):=fun k hk=>by
  unfold st0;rw [if_pos hk];have hd:=sn.dr k hk;exact StG.before ⟨hd.1,hd.2.1⟩ ⟨hd.2.2.1,hd.2.2.2.1⟩ ⟨hd.2.2.2.2.1,hd.2.2.2.2.2⟩
 obtain ⟨z5,e,o,F',X',c2,k5,W5,E5,bo,x1,x2,_⟩:=best_c okK n t4 _ _ 0 (st0 w m) (by show 0+n=n;omega) W4 hst
 have M5:New z.re z5:=M4.of_only k5 (fun b hb=>by have hb:b=z.next+2:=hb;show z.next<=b;omega)
 have n5:=k5.next
 have w5:Row z5 ⟨z.next,0,none⟩ (wkc w.days p l c q m d w.rest w.run w.hours):=k5.rw' (((w1.le (by rw [ht2];exact Le.row _ _ _)).le M23.le).le M34.le) (fun h=>by have h:z.next=z.next+2:=h;omega)
 have v5:Own z5 (z.next+1) (zH 0 0 0 0 0 0) 1:=k5.own' ((v2.le M23.le).le M34.le) (fun h=>by have h:z.next+1=z.next+2:=h;omega)
 obtain ⟨t6,ht6⟩:∃ t6,t6=(z5.row [iV 0,iV 0,iV 0,iV 0,iV 0,iV 0,.slice none 0 0,.bool false] 8).own z5.next (zFB e) 8:=⟨_,rfl⟩
 have n6:t6.next=z5.next+1:=by rw [ht6];rfl
 have M56:New z5 t6:=by rw [ht6];exact (New.row _ _ _).own (Nat.le_refl _)
 have e6:Own t6 z5.next (zFB e) 8:=by rw [ht6];exact (zC _ _ _).put
 have w6:=w5.le M56.le
 have h3:zB Pg t6 31 ⟨z.next,1,none⟩=some (.slice p l c):=w6.ld zBB rfl
 have zt3:uQ Pg 3=some (iV 0):=by kernel_rfl
 have h4:=make_sl (P:=Pg) (Z:=t6) (st:=26) (e:=3) (n:=1) (by kernel_rfl) zt3 (len:=l) (by have:=sn.l12;omega)
 obtain ⟨t7,ht7⟩:∃ t7,t7=t6.row (yW (Value.int .i64 0).cells.toList l) 1:=⟨_,rfl⟩
 have n7':t7.next=z5.next+2:=by rw [ht7];show t6.next+1=_;omega
 have M67:New t6 t7:=by rw [ht7];exact New.row _ _ _
 have r7:Own t7 t6.next ((List.replicate l (0:Int)).map yB) 1:=by rw [ht7,<- zTB];exact zC _ _ _
 rw [<- ht7] at h4
 have w7:=w6.le M67.le
 have h5:zB Pg t7 3 ⟨z.next,0,none⟩=some (iV w.days):=w7.ld zS rfl
 have M7:New z.re t7:=(M5.trans M56).trans M67
 have hx:∀ b,X' b->b<z5.next:=fun b hb=>(W5.xb b hb).1
 have e7:EndP t7 X' e o:=(E5.le M56.le).le M67.le
 have hnd:=zLC (w:=w) (r:=n) (D:=0)
 have J0:RunJ z w p l c q m d z5.next t6.next X' e o (xA w 0 0) 0 t7 (List.replicate l 0):=⟨M7,w7,(v5.le M56.le).le M67.le,e6.le M67.le,r7,by simp,e7,⟨by omega,by simp [xA]⟩,fun who u _=>⟨rfl,by simp [xA]⟩⟩
 have hol:∀ who u,o=some (who,u)->e.can=true/\e.v=u/\who.length=(xA w n 0).length:=by
  rintro who u rfl;have ht:e.can=true/\e.v=u/\_:=E5.tell;exact ⟨ht.1,ht.2.1,(yIN bo.1).1⟩
 have hflen:(xA w n 0).length<=100:=by
  have:=yEX (w:=w) (r:=n) (D:=0);have h1:=sn.l12;have:n*w.duties.length<=7*12:=Nat.mul_le_mul n7 (by omega);omega
 let P0:St->Prop:=fun y=>∃ at_ rs,RunJ z w p l c q m d z5.next t6.next X' e o (xA w n 0) at_ y rs
 have hL:yQX z.next (some ⟨t6.next,0,none⟩) l l (z.next+1) z5.next w.days 0 0 t7 P0:=by
  refine run_loop1 (Inv:=fun k a i y=>∃ (D:Nat) (rs:List Int),i=D/\D+k=n/\RunJ z w p l c q m d z5.next t6.next X' e o (xA w D 0) a y rs) ?_ n 0 0 t7 ⟨0,_,rfl,by omega,J0⟩;rintro k a i y ⟨D,rs,rfl,hk,J⟩;by_cases hD:D<n;rotate_left
  ·have:D=n:=by omega
   subst this;exact run_s1b ⟨a,rs,J⟩ (by omega)
  have hfd:=flatL_day (w:=w) hD;have hdl:(yC w D l).length<=l:=zDO;have hl12:=sn.l12;have g1:zB Pg y 34 ⟨z.next,0,none⟩=some (.agg ⟨wkc w.days p l c q m d w.rest w.run w.hours⟩):=J.wk.ldN xM yT (k:=0) rfl rfl (nle rfl);obtain ⟨p2,c3,y2,g2,N2,I2,f2⟩:=yOG (Z:=y) (D:=D) (c:=c) (d:=d) (h.le ((le0 z).trans J.nw.le)) (by have:=sn.l12;omega);have J2:RunJ z w p l c q m d z5.next t6.next X' e o (xA w D 0) a y2 rs:=⟨J.nw.trans N2,J.wk.le N2.le,J.wo.le N2.le,J.en.le N2.le,J.ro.le N2.le,J.len,J.ep.le N2.le,J.atb,J.is⟩;refine run_s1a g1 g2 (P2:=fun a y=>∃ rs,RunJ z w p l c q m d z5.next t6.next X' e o (xA w D 0++yC w D l) a y rs) (run_loop2 (Inv:=fun k a i y=>∃ (s:Nat) (rs:List Int),i=s/\s+k=(yC w D l).length/\yG y p2 (yC w D l).length (zPI (yC w D l))/\RunJ z w p l c q m d z5.next t6.next X' e o (xA w D 0++(yC w D l).take s) a y rs) ?_ (yC w D l).length a 0 y2 ⟨0,rs,rfl,by omega,I2,by simpa using J2⟩) ?_ (by omega)
  ·rintro k2 a2 i2 y3 ⟨s,rs3,rfl,hk2,I3,J3⟩;by_cases hs:s<(yC w D l).length;rotate_left
   ·have hse:s=(yC w D l).length:=by omega
    rw [hse,List.take_length] at J3;exact run_s2c ⟨rs3,J3⟩ (by omega)
   obtain ⟨qa,rfl,_⟩:=I3.some hs;have hgs:(yC w D l)[s]?=some (yC w D l)[s]:=List.getElem?_eq_getElem hs;generalize (yC w D l)[s]=i at hgs;have ld1:zB Pg y3 3 (zM qa (Int.toNat (s:Int)*1))=some (iV (i:Int)):=I3.at rfl (by simp [zPI,hgs]);have ld2:zB Pg y3 4 ⟨z5.next,7,none⟩=some (.bool e.can):=J3.en.rw.ld agg4 rfl;have hi:i<l:=(zBS.1 (List.mem_of_getElem? hgs)).1;have etk:(yC w D l).take (s+1)=(yC w D l).take s++[i]:=by rw [List.take_add_one,hgs];rfl
   have hlenL:(xA w D 0++(yC w D l).take (s+1)).length=(xA w D 0++(yC w D l).take s).length+1:=by rw [etk];simp;omega
   have hfl:xA w n 0=(xA w D 0++(yC w D l).take s)++(i::((yC w D l).drop (s+1)++xA w (n-D-1) (D+1))):=by
    rw [hfd,hln.1];conv=>lhs;rw [<- List.take_append_drop (s+1) (yC w D l),etk]
    simp
   have hni:i ∉ xA w D 0++(yC w D l).take s:=fun hm=>by
    rw [hfl] at hnd;exact (List.nodup_append.1 hnd).2.2 i hm i List.mem_cons_self rfl
   have hll:=congrArg List.length hfl;rw [List.length_append,List.length_cons] at hll;have hat:=J3.atb;cases hc:e.can with
   | false =>
    rw [hc] at ld2;have hn:∀ who u,¬ o=some (who,u):=fun who u ho=>by
     have:=(hol who u ho).1;rw [hc] at this;cases this
    exact run_s2b ld1 ld2 ⟨k2-1,by omega,s+1,rs3,by omega,by omega,I3,J3.nw,J3.wk,J3.wo,J3.en,J3.ro,J3.len,J3.ep,⟨hat.1,by rw [hlenL];omega⟩,fun who u ho=>absurd ho (hn who u)⟩ (by omega) ⟨by omega,by omega⟩ ⟨by omega,by have:=sn.l12;omega⟩
   | true =>
    rw [hc] at ld2;obtain ⟨who,u,ho⟩:∃ who u,o=some (who,u):=by
     cases o with
     | none=>have ht:e.can=false:=E5.tell;rw [hc] at ht;cases ht
     | some r=>exact ⟨r.1,r.2,rfl⟩
    obtain ⟨hat2,hmp⟩:=J3.is who u ho;have hwl:=(hol who u ho).2.2;have ht:e.can=true/\e.v=u/\yG y3 e.p e.l who:=by have:=J3.ep.tell;rw [ho] at this;exact this
    have Iw:=ht.2.2;have ewl:=Iw.len;subst hat2;generalize hLn:(xA w D 0++(yC w D l).take s).length=N at *;have hNw:N<who.length:=by omega
    obtain ⟨ra,hra,_⟩:=Iw.some (by omega:N<e.l);have ld3:zB Pg y3 26 ⟨z5.next,6,none⟩=some (.slice (some ra) e.l e.c):=by rw [<- hra];exact J3.en.rw.ld yS rfl
    have hgw:who[N]?=some who[N]:=List.getElem?_eq_getElem hNw;generalize who[N]=x at hgw;have ld4:zB Pg y3 3 (zM ra (Int.toNat ((N:Nat):Int)*1))=some (iV x):=Iw.at hra (by simp [hgw]);have hir:i<rs3.length:=by rw [J3.len];exact hi
    have st5:=own_set (x:=x) J3.ro hir;have kS:Only (·=t6.next) y3 (y3.own t6.next ((rs3.set i x).map yB) 1):=Only.own (.inr rfl);have hz6:z.next+2<=z5.next:=by omega
    refine run_s2a ld1 ld2 ld3 ld4 st5 ⟨k2-1,by omega,s+1,rs3.set i x,by omega,by omega,kS.slv' I3 (fun a ea hh=>?_),J3.nw.own (by omega),kS.rw' J3.wk (fun hh=>by have hh:z.next=t6.next:=hh;omega),kS.own' J3.wo (fun hh=>by have hh:z.next+1=t6.next:=hh;omega),kS.own' J3.en (fun hh=>by have hh:z5.next=t6.next:=hh;omega),J3.ro.put,by simp [J3.len],J3.ep.only kS (fun b hb hh=>by have:=hx b hb;omega),⟨by omega,by omega⟩,fun who' u' ho'=>?_⟩ (by omega) ⟨by omega,by omega⟩ ⟨by omega,by omega⟩ ⟨by omega,by omega⟩ ⟨by omega,by omega⟩ ⟨by omega,by have:=sn.l12;omega⟩
    ·cases ea
     have:=f2 qa.block ⟨qa,rfl,rfl⟩;have hyz:=J.ro.lt;omega
    ·rw [ho] at ho';cases ho'
     refine ⟨by omega, ?_⟩
     rw [hlenL,etk,<- List.append_assoc,List.map_append,rosF_put hir hni,hmp,List.map_cons,List.map_nil,yKS hir,if_pos rfl,List.take_add_one,hgw];rfl
  ·rintro a2 y3 ⟨rs3,J3⟩;refine run_t2x2a ⟨k-1,by omega,D+1,rs3,by omega,by omega, ?_⟩ ?_
   ·rw [yUM,hln.1];exact J3
   ·have:=J3.atb;have hll:(xA w D 0++yC w D l).length<=100:=by
     have:=congrArg List.length hfd;rw [hln.1] at this;simp only [List.length_append] at this hflen ⊢;omega
    exact ⟨by omega,by omega⟩
 have k0:∀ y,P0 y->zXA z.next (some ⟨t6.next,0,none⟩) l l (z.next+1) z5.next w.days y (fun vv s=>New z.re s/\∃ (v:List Int) (can:Bool) (o:yPV) (rs:List Int) (br:Nat),vv=.tuple ⟨[.slice (some ⟨br,0,none⟩) l l,.agg ⟨six v⟩,.bool can]⟩/\yG s (some ⟨br,0,none⟩) l rs/\z.next<=br/\v.length=6/\Bd 100 v/\xO 6 (Ch w leaves wf n 0 (st0 w m)) o/\(match o with
   | none=>can=false
   | some (who,u)=>can=true/\v=u/\(xA w n 0).map (zZ rs)=who)):=by
  rintro y ⟨a,rs,J⟩
  have g1:zB Pg y 98 ⟨z5.next,0,none⟩=some (.agg ⟨zH (e.v.getD 0 0) (e.v.getD 1 0) (e.v.getD 2 0) (e.v.getD 3 0) (e.v.getD 4 0) (e.v.getD 5 0)⟩):=J.en.rw.ldN zCS xX (k:=0) rfl rfl (nle rfl)
  have g2:zB Pg y 4 ⟨z5.next,7,none⟩=some (.bool e.can):=J.en.rw.ld agg4 rfl
  have g3:=J.wo.store (P:=Pg) (k:=0) (t:=98) (v:=.agg ⟨zH (e.v.getD 0 0) (e.v.getD 1 0) (e.v.getD 2 0) (e.v.getD 3 0) (e.v.getD 4 0) (e.v.getD 5 0)⟩) (vs:=zH (e.v.getD 0 0) (e.v.getD 1 0) (e.v.getD 2 0) (e.v.getD 3 0) (e.v.getD 4 0) (e.v.getD 5 0)) (ds:=zH (e.v.getD 0 0) (e.v.getD 1 0) (e.v.getD 2 0) (e.v.getD 3 0) (e.v.getD 4 0) (e.v.getD 5 0)) rfl xX rfl (nle rfl) rfl
  have kS:Only (·=z.next+1) y (y.own (z.next+1) (zH (e.v.getD 0 0) (e.v.getD 1 0) (e.v.getD 2 0) (e.v.getD 3 0) (e.v.getD 4 0) (e.v.getD 5 0)) 1):=Only.own (.inr rfl)
  have e2:=kS.own' J.en (fun hh=>by have hh:z5.next=z.next+1:=hh;omega)
  have r2:=kS.own' J.ro (fun hh=>by have hh:t6.next=z.next+1:=hh;omega)
  have g4:(z5.next<(y.own (z.next+1) (zH (e.v.getD 0 0) (e.v.getD 1 0) (e.v.getD 2 0) (e.v.getD 3 0) (e.v.getD 4 0) (e.v.getD 5 0)) 1).next/\zN RD (.bool e.can)=true)/\zB Pg (y.own (z.next+1) (zH (e.v.getD 0 0) (e.v.getD 1 0) (e.v.getD 2 0) (e.v.getD 3 0) (e.v.getD 4 0) (e.v.getD 5 0)) 1) 4 ⟨z5.next,7,none⟩=some (.bool e.can):=⟨⟨e2.lt,rfl⟩,e2.rw.ld agg4 rfl⟩
  have g5:zB Pg (y.own (z.next+1) (zH (e.v.getD 0 0) (e.v.getD 1 0) (e.v.getD 2 0) (e.v.getD 3 0) (e.v.getD 4 0) (e.v.getD 5 0)) 1) 98 ⟨z.next+1,0,none⟩=some (.agg ⟨zH (e.v.getD 0 0) (e.v.getD 1 0) (e.v.getD 2 0) (e.v.getD 3 0) (e.v.getD 4 0) (e.v.getD 5 0)⟩):=J.wo.put.rw.ldN zCS xX (k:=0) rfl rfl (nle rfl)
  refine run_t1x0a g1 g2 g3 g4 g5 ⟨J.nw.own (by omega),e.v,e.can,o,rs,t6.next,by rw [uZ],own_ints r2 J.len,by omega,E5.len,E5.bd,bo, ?_⟩ J.en.lt J.wo.lt
  cases ho:o with
  | none =>
   have ht:=E5.tell;rw [ho] at ht;exact ht
  | some r =>
   obtain ⟨h1,h2,h3⟩:=hol r.1 r.2 ho;refine ⟨h1,h2, ?_⟩
   have h4:=(J.is r.1 r.2 ho).2;rw [h4,<- h3,List.take_length]
 subst ht7 ht6 ht4 ht3 ht2 ht1
 exact run_ra c1 c2 h3 h4 h5 hL k0
end
end Go.Proofs.YtgfiniccfpfplaaGreat
