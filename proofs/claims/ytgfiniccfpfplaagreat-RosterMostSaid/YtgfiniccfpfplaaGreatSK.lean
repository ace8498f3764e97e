import Derived.Test.YtgfiniccfpfplaaGreatRH
import Derived.Test.YtgfiniccfpfplaaGreatRF
import Derived.Test.YtgfiniccfpfplaaGreatSI
import Derived.Test.YtgfiniccfpfplaaGreatXQ

namespace Go.Proofs.YtgfiniccfpfplaaGreat
set_option linter.unusedVariables false
set_option linter.unusedSimpArgs false
section
variable {w:Wk} {l m:Nat}
theorem zFO (h:yY w=0):w.duties.length<=12/\w.drivers.length<=6/\vK w=true/\(∀ x∈w.duties,vS w x=true)/\∀ x∈w.drivers,zAM w x=true:=by
 unfold yY at h;split at h
 ·cases h
 ·rename_i h1;split at h
  ·rename_i h2;rw [Bool.and_eq_true,Bool.and_eq_true,List.all_eq_true,List.all_eq_true] at h2;exact ⟨by omega,by omega,h2.1,h2.2.1,h2.2.2⟩
  ·cases h
theorem yIF {i:Nat} (h:i<w.duties.length):dty w i∈w.duties:=by
 unfold dty;rw [List.getD_eq_getElem?_getD,List.getElem?_eq_getElem h];exact List.getElem_mem h
theorem zNN {k:Nat} (h:k<w.drivers.length):drv w k∈w.drivers:=by
 unfold drv;rw [List.getD_eq_getElem?_getD,List.getElem?_eq_getElem h];exact List.getElem_mem h
theorem zZA (h:vK w=true):(1<=w.days/\w.days<=7)/\(0<=w.rest/\w.rest<=3000)/\(1<=w.run/\w.run<=14)/\0<=w.hours/\w.hours<=20000:=by
 unfold vK at h;simp only [Bool.and_eq_true,uW] at h;exact h
theorem zPM {d:Dty} (h:vS w d=true):(0<=d.day/\d.day<=w.days-1)/\(0<=d.on/\d.on<=1439)/\(d.on<=d.lo/\d.lo<=d.hi)/\d.hi<=d.on+1440/\0<=d.route/\d.route<=15:=by
 unfold vS at h;simp only [Bool.and_eq_true,uW,Bool.not_eq_true',decide_eq_false_iff_not,Int.not_lt] at h;exact h
theorem zSJ {x:Drv} (h:zAM w x=true):wJ x.knows 0 15=true/\wJ x.leave 0 (w.days-1)=true/\wJ x.wish 0 (w.days-1)=true/\(-10080<=x.off/\x.off<=1440)/\(0<=x.row/\x.row<=14)/\0<=x.used/\x.used<=w.hours:=by
 unfold zAM at h;simp only [Bool.and_eq_true,uW] at h;exact h
theorem Sane.of (h:yY w=0) (hsh:zAQ w) (hl:w.duties.length=l) (hm:w.drivers.length=m):Sane w l m:=by
 obtain ⟨h1,h2,h3,h4,h5⟩:=zFO h;obtain ⟨hd,hr,hu,hh⟩:=zZA h3;refine ⟨by omega,by omega, ?_, ?_, ?_,hr,hu,hh⟩
 ·intro i hi;have:=zPM (h4 _ (yIF (by omega:i<w.duties.length)));omega
 ·intro k hk;have:=zSJ (h5 _ (zNN (by omega:k<w.drivers.length)));omega
 ·intro k hk;exact hsh _ (zNN (by omega:k<w.drivers.length))
theorem yIH (h:yY w=0):∃ n:Nat,w.days=(n:Int)/\1<=n/\n<=7/\Val w n:=by
 obtain ⟨h1,h2,h3,h4,h5⟩:=zFO h;obtain ⟨hd,hr,hu,hh⟩:=zZA h3;refine ⟨w.days.toNat,by omega,by omega,by omega,⟨⟨by omega, ?_⟩, ?_, ?_⟩⟩
 ·intro i hi;have:=zPM (h4 _ (yIF hi));omega
 ·intro i hi;have:=zPM (h4 _ (yIF hi));omega
 ·intro k hk;have:=zSJ (h5 _ (zNN hk));omega
theorem rises_lt {xs:List Int} {lo hi:Int} (h:wJ xs lo hi=true):xs.Pairwise (· < ·)/\∀ x∈xs,lo<=x/\x<=hi:=by
 unfold wJ at h;have h:=zBK.1 h;have hin:∀ x∈xs,lo<=x/\x<=hi:=by
  intro x hx;obtain ⟨i,hi,rfl⟩:=List.getElem_of_mem hx;have:=h i hi;rw [Bool.and_eq_true,uW,List.getD_eq_getElem?_getD,List.getElem?_eq_getElem hi] at this;exact this.1
 have step:∀ i (hi:i+1<xs.length),xs[i]<xs[i+1]:=by
  intro i hi;have:=h (i+1) hi;rw [Bool.and_eq_true,Nat.add_sub_cancel,List.getD_eq_getElem?_getD,List.getD_eq_getElem?_getD,List.getElem?_eq_getElem hi,List.getElem?_eq_getElem (by omega:i<xs.length)] at this;have:=this.2;simpa using this
 refine ⟨?_,hin⟩
 rw [List.pairwise_iff_getElem];intro i j hi hj hij;have key:∀ d (hd:i+d+1<xs.length),xs[i]<xs[i+d+1]:=by
  intro d;induction d with
  | zero=>intro hd;exact step i hd
  | succ d ih =>
   intro hd;have h1:=ih (by omega);have h2:=step (i+d+1) (by omega);have e:i+(d+1)+1=i+d+1+1:=by omega
   simp only [e];omega
 have:=key (j-i-1) (by omega);have e:i+(j-i-1)+1=j:=by omega
 simp only [e] at this;exact this
theorem wishes_of {n:Nat} (h:yY w=0) (hn:w.days=(n:Int)):yWS w n:=by
 obtain ⟨h1,h2,h3,h4,h5⟩:=zFO h;intro k hk;have:=zSJ (h5 _ (zNN hk));obtain ⟨g1,g2⟩:=rises_lt this.2.2.1;refine ⟨g1.imp fun h=>by omega,fun d hd=>?_⟩
 have:=g2 d hd;omega
end
end Go.Proofs.YtgfiniccfpfplaaGreat

namespace Go.Proofs.YtgfiniccfpfplaaGreat
open Go Go.Lay
set_option linter.unusedVariables false
set_option linter.unusedSimpArgs false
set_option maxRecDepth 20000
section
variable {Z:St} {w:Wk} {p q pw:Option Addr} {l m c d D Bw lw cw:Nat} {who:List Int}
theorem yEU {k:Nat} (hk:k<6):(uB w D who).getD k 0=if k<w.drivers.length/\(drv w k).wish.contains (D:Int)=true/\who.contains (k:Int)=false then 1 else 0:=by
 unfold uB;rw [List.getD_eq_getElem?_getD,List.getElem?_map,List.getElem?_range hk];rfl
theorem freeV_len:(uB w D who).length=6:=by simp [uB]
theorem Best1_c (hw:Row Z ⟨Bw,0,none⟩ (wkc w.days p l c q m d w.rest w.run w.hours)) (h:WkP Z 85 88 w p l q m) (hm6:m<=6) (hsh:zAQ w) (hi:yG Z pw lw who) (hl:lw<=1000):zD Tryz.prog 57 [iV (D:Int),.slice pw lw cw,.pointer (some ⟨Bw,0,none⟩)] Z (.agg ⟨six (uB w D who)⟩) Z:=by
 have hmm:=h.len.2;obtain ⟨τ0,hτ0⟩:∃ τ0,τ0=Z.re.row (zH 0 0 0 0 0 0) 1:=⟨_,rfl⟩;have N0:New Z.re τ0:=by rw [hτ0];exact New.row _ _ _
 have L0:Le Z τ0:=(le0 Z).trans N0.le;have o0:Own τ0 Z.next (wO 6 fun _=>0) 1:=by rw [hτ0];exact zC Z.re (zH 0 0 0 0 0 0) 1
 have l1:zB Tryz.prog τ0 32 (zM ⟨Bw,0,none⟩ 2)=some (.slice q m d):=(hw.le L0).load1 uV rfl;rw [hτ0] at l1;refine (Best1_ra l1 (yPX (Inv:=fun k i τ=>New Z.re τ/\∃ j:Nat,i=j/\j+k=m/\Own τ Z.next (wO 6 fun s=>if s<j then (uB w D who).getD s 0 else 0) 1)
  (Q0:=fun τ=>New Z.re τ/\Own τ Z.next (six (uB w D who)) 1) ?_ m 0 _ ⟨hτ0 ▸ N0,0,rfl,by omega,by simpa using hτ0 ▸ o0⟩) ?_).pure
 ·rintro k i τ ⟨hN,j,rfl,hk,w1⟩;by_cases hj:j<m;rotate_left
  ·have:j=m:=by omega
   subst this;refine Best1_s1d ⟨hN, ?_⟩ (by omega);have e:(wO 6 fun s=>if s<j then (uB w D who).getD s 0 else 0)=six (uB w D who):=by
    refine zDY fun s hs=>?_
    by_cases e1:s<j
    ·rw [if_pos e1]
    ·rw [if_neg e1,yEU hs,if_neg (by omega)]
   rw [<- e];exact w1
  have LL:=(le0 Z).trans hN.le;obtain ⟨a,rfl,p',l',c',r',n',d',s',j',e',ld,hkn,hlv,hws,_⟩:=(h.le LL).vld yFP zFZ hj;have N2:New τ ((τ.row (zL none 0 0 none 0 0 none 0 0 0 0 0) 6).own τ.next (zL p' l' c' r' n' d' s' j' e' (drv w j).off (drv w j).row (drv w j).used) 6):=(New.row _ _ _).own (Nat.le_refl _);have hwl:=(hsh _ (zNN (by omega:j<w.drivers.length))).2.2;have eln:=hws.len;have c1:=yIL (c:=e') (n:=(D:Int)) (SlV.le hws N2.le) (by omega);have c2:=yIL (c:=cw) (n:=(j:Int)) (SlV.le hi (LL.trans N2.le)) (by omega);have o2:=w1.le N2.le;have hj6:j<6:=by omega
  have hg:=yEU (w:=w) (D:=D) (who:=who) hj6;have same:(uB w D who).getD j 0=0->(wO 6 fun s=>if s<j then (uB w D who).getD s 0 else 0)=wO 6 fun s=>if s<j+1 then (uB w D who).getD s 0 else 0:=fun h0=>by
   refine zDY fun s hs=>?_
   by_cases e1:s<j
   ·rw [if_pos e1,if_pos (by omega)]
   ·rw [if_neg e1];by_cases e2:s=j
    ·subst e2;rw [if_pos (by omega),h0]
    ·rw [if_neg (by omega)]
  cases b1:(drv w j).wish.contains (D:Int) with
  | false =>
   rw [b1] at c1 hg;rw [if_neg (by simp)] at hg;exact Best1_s1c ld c1 ⟨k-1,by omega,hN.trans N2,j+1,by omega,by omega,by rw [<- same hg];exact o2⟩ (by omega) (by omega) (by omega)
  | true =>
  cases b2:who.contains (j:Int) with
  | true =>
   rw [b1] at c1;rw [b2] at c2 hg;rw [if_neg (by simp)] at hg;exact Best1_s1a ld c1 c2 ⟨k-1,by omega,hN.trans N2,j+1,by omega,by omega,by rw [<- same hg];exact o2⟩ (by omega) (by omega) (by omega)
  | false =>
   rw [b1] at c1 hg;rw [b2] at c2 hg;rw [if_pos ⟨by omega,rfl,rfl⟩] at hg;have st:=vec_st (x:=1) o2 hj6;refine Best1_s1b ld c1 c2 st ⟨k-1,by omega,(hN.trans N2).own (by show Z.next<=Z.next;omega),j+1,by omega,by omega, ?_⟩ (by omega) (by omega) (by omega) (by omega);have e:(wO 6 fun s=>if s=j then 1 else if s<j then (uB w D who).getD s 0 else 0)=wO 6 fun s=>if s<j+1 then (uB w D who).getD s 0 else 0:=by
    refine zDY fun s hs=>?_
    by_cases e2:s=j
    ·subst e2;rw [if_pos rfl,if_pos (by omega),hg]
    ·rw [if_neg e2];by_cases e1:s<j
     ·rw [if_pos e1,if_pos (by omega)]
     ·rw [if_neg e1,if_neg (by omega)]
   rw [<- e];exact o2.put
 ·rintro τ ⟨hN,w1⟩;generalize uB w D who=v at w1 ⊢;have g1:zB Tryz.prog τ 98 ⟨Z.next,0,none⟩=some (.agg ⟨zH (v.getD 0 0) (v.getD 1 0) (v.getD 2 0) (v.getD 3 0) (v.getD 4 0) (v.getD 5 0)⟩):=by rw [<- uZ];exact zHP w1
  have g2:zQ Tryz.prog (evL [.pointer (some ⟨Z.next,0,none⟩),.agg ⟨zH (v.getD 0 0) (v.getD 1 0) (v.getD 2 0) (v.getD 3 0) (v.getD 4 0) (v.getD 5 0)⟩]) τ (.store 98 (.tmp 0) (.tmp 1))=some (undef,τ.own Z.next (six v) 1):=by rw [<- uZ];exact yXI w1
  have g3:zB Tryz.prog (τ.own Z.next (six v) 1) 98 ⟨Z.next,0,none⟩=some (.agg ⟨zH (v.getD 0 0) (v.getD 1 0) (v.getD 2 0) (v.getD 3 0) (v.getD 4 0) (v.getD 5 0)⟩):=by rw [<- uZ];exact zHP (w1.put)
  exact yPW g1 g2 g3 ⟨by rw [uZ],(hN.own (b:=Z.next) (n:=1) (cs:=six v) (by show Z.next<=Z.next;omega)).lw⟩
theorem Most1_c (hi:yG Z pw lw who) (hl:lw<=1073741824):zD Tryz.prog 65 [iV (D:Int),.slice pw lw cw] Z (.agg ⟨six (zES D who)⟩) Z:=by
 have L0:Le Z (Z.re.row (zH 0 0 0 0 0 0) 1):=(le0 Z).trans (Le.row _ _ _);have cc:=yOI (c:=cw) (SlV.le hi L0) hl;have e:six (zES D who)=zH (((who.filter fun x=>decide (x≠-1)).length:Nat):Int) 0 0 0 0 0:=by rw [uZ];rfl
 rw [e];exact (Most1_ra cc ⟨rfl,((New.row Z.re (zH 0 0 0 0 0 0) 1).own (b:=Z.next) (n:=1) (by show Z.next<=Z.next;omega)).lw⟩).pure
end
end Go.Proofs.YtgfiniccfpfplaaGreat

namespace Go.Proofs.YtgfiniccfpfplaaGreat
open Go Go.Lay
set_option linter.unusedVariables false
set_option linter.unusedSimpArgs false
set_option maxRecDepth 20000
section
variable {w:Wk} {leaves:Bool} {wf:Nat->List Int->List Int}
theorem zLG:∀ {l:List Nat} {who:List Int} {st st' u:Nat->Std},(∀ k,k<w.drivers.length->st k=st' k)->uT w leaves l who st=some u->∃ u',uT w leaves l who st'=some u'/\∀ k,k<w.drivers.length->u k=u' k
 | [],[],st,st',u,h,e=>by
  have e:some st=some u:=e;cases e
  exact ⟨st',rfl,h⟩
 | [],_::_,_,_,_,_,e=>by cases e
 | _::_,[],_,_,_,_,e=>by cases e
 | i::l,r::who,st,st',u,h,e=>by
  unfold uT at e ⊢;split at e
  ·rename_i e1;split at e
   ·rename_i hl;rw [if_pos e1,if_pos hl];exact zLG h e
   ·cases e
  ·rename_i e1;split at e
   ·rename_i g;obtain ⟨g1,g2,g3⟩:=g;have hk:r.toNat<w.drivers.length:=by omega
    rw [if_neg e1,if_pos ⟨g1,g2,by rw [<- h _ hk];exact g3⟩];refine zLG (fun k hk2=>?_) e;unfold zWO upd;by_cases e2:k=r.toNat
    ·rw [if_pos e2,if_pos e2,h _ hk]
    ·rw [if_neg e2,if_neg e2];exact h k hk2
   ·cases e
theorem yAT:∀ {r D:Nat} {st st':Nat->Std} {c v:List Int},(∀ k,k<w.drivers.length->st k=st' k)->Ch w leaves wf r D st c v->Ch w leaves wf r D st' c v
 | 0,_,_,_,_,_,_,h=>h
 | r+1,D,st,st',c,v,hs,h=>by
  obtain ⟨a,b,u,x,h1,h2,h3,h4⟩:=h;obtain ⟨u',g1,g2⟩:=zLG hs h1;refine ⟨a,b,u',x,g1,yAT (fun k hk=>?_) h2,h3,h4⟩
  unfold zCH;rw [if_pos hk,if_pos hk,g2 k hk]
theorem yJS {r D:Nat} {st st':Nat->Std} {o:Option (List Int × List Int)} (h:∀ k,k<w.drivers.length->st k=st' k) (hb:xO 6 (Ch w leaves wf r D st) o):xO 6 (Ch w leaves wf r D st') o :=
 hb.iff fun a v=>⟨yAT h,yAT fun k hk=>(h k hk).symm⟩
theorem Bd.plus {m n:Int}:∀ {a b:List Int},Bd m a->Bd n b->Bd (m+n) (vB a b)
 | [],_,_,_=>fun x hx=>by simp [vB] at hx
 | _::_,[],_,_=>fun x hx=>by simp [vB] at hx
 | a::l,b::o,h1,h2=>by
  intro x hx;have hx:x∈(a+b)::vB l o:=hx;rcases List.mem_cons.1 hx with rfl | hx
  ·have:=h1 a List.mem_cons_self;have:=h2 b List.mem_cons_self;omega
  ·exact Bd.plus (fun y hy=>h1 y (List.mem_cons_of_mem _ hy)) (fun y hy=>h2 y (List.mem_cons_of_mem _ hy)) x hx
theorem Bd.mono {m n:Int} {a:List Int} (h:Bd m a) (k:m<=n):Bd n a:=fun x hx=>by have:=h x hx;omega
theorem zDO {D j:Nat}:(yC w D j).length<=j:=by
 unfold yC;have:=List.length_filter_le (fun i=>decide ((dty w i).day=(D:Int))) (List.range j);simpa using this
theorem Ch_bd (hw:∀ D a,a.length<=12->Bd 12 (wf D a)) (hl:w.duties.length<=12):∀ {r D:Nat} {st:Nat->Std} {c v:List Int},Ch w leaves wf r D st c v->Bd (12*(r:Int)) v
 | 0,_,_,_,_,h=>by
  rw [h.2];intro x hx;simp [zCQ] at hx;omega
 | r+1,D,st,c,v,h=>by
  obtain ⟨a,b,u,x,h1,h2,h3,h4⟩:=h;have:=(zDP h1).1;have hd:=zDO (w:=w) (D:=D) (j:=w.duties.length);rw [h4];exact (Bd.plus (Ch_bd hw hl h2) (hw D a (by omega))).mono (by omega)
theorem yEX:∀ {r D:Nat},(xA w r D).length<=r*w.duties.length
 | 0,_=>by simp [xA]
 | r+1,D=>by
  have:=zDO (w:=w) (D:=D) (j:=w.duties.length);have:=yEX (r:=r) (D:=D+1);unfold xA;rw [List.length_append,Nat.add_mul,Nat.one_mul];omega
structure StG (s:Std):Prop where
 free:-20000<=s.free/\s.free<=20000
 row:0<=s.row/\s.row<=15+s.day
 used:0<=s.used/\s.used<=20000
 day:-1<=s.day/\s.day<=6
theorem StG.ok {s:Std} (h:StG s):StOk s:=by
 have h1:=h.free;have h2:=h.row;have h3:=h.used;have h4:=h.day;exact ⟨by omega,by omega,by omega,by omega⟩
theorem StG.past {s:Std} (h:StG s) {D:Nat} (hD:D<=6) (hr:0<=w.rest/\w.rest<=3000):StG (zQK w D s):=by
 have h1:=h.free;have h2:=h.row;have h3:=h.used;have h4:=h.day;unfold zQK;split
 ·exact h
 ·refine ⟨?_, ?_,h3,h4⟩
  ·simp only;omega
  ·simp only;omega
theorem StG.take {s:Std} (h:StG s) {d:Dty} (hd:0<=d.day/\d.day<=6) (ho:0<=d.on/\d.on<=1439) (he:d.on<=d.hi/\d.hi<=d.on+1440) (hu:(YtgfiniccfpfplaaGreat.take s d d.hi).used<=20000):StG (YtgfiniccfpfplaaGreat.take s d d.hi):=by
 have h1:=h.free;have h2:=h.row;have h3:=h.used;have h4:=h.day;have hu':(YtgfiniccfpfplaaGreat.take s d d.hi).used=s.used+(d.hi-d.on):=by unfold YtgfiniccfpfplaaGreat.take;split <;> rfl
 rw [hu'] at hu;unfold YtgfiniccfpfplaaGreat.take;split
 ·exact ⟨h1,h2,by simp only;omega,h4⟩
 ·refine ⟨by simp only;omega, ?_,by simp only;omega,by simp only;omega⟩
  simp only;split <;> omega
theorem StG.before {d:Drv} (ho:-10080<=d.off/\d.off<=1440) (hr:0<=d.row/\d.row<=14) (hu:0<=d.used/\d.used<=20000):StG (YtgfiniccfpfplaaGreat.before d) :=
 ⟨by unfold YtgfiniccfpfplaaGreat.before;simp only;omega,by unfold YtgfiniccfpfplaaGreat.before;simp only;omega,by unfold YtgfiniccfpfplaaGreat.before;simp only;omega,by unfold YtgfiniccfpfplaaGreat.before;simp only;omega⟩
end
structure EndR where
 v:List Int
 p:Option Addr
 l:Nat
 c:Nat
 can:Bool
@[reducible] def endC (a0 a1 a2 a3 a4 a5:Int) (p:Option Addr) (l c:Nat) (b:Bool):List Value:=[iV a0,iV a1,iV a2,iV a3,iV a4,iV a5,.slice p l c,.bool b]
@[reducible] def zFB (e:EndR):List Value:=endC (e.v.getD 0 0) (e.v.getD 1 0) (e.v.getD 2 0) (e.v.getD 3 0) (e.v.getD 4 0) (e.v.getD 5 0) e.p e.l e.c e.can
def zDB (e:EndR):Value:=.agg ⟨zFB e⟩
structure EndP (z:St) (X:Nat->Prop) (e:EndR) (o:Option (List Int × List Int)):Prop where
 len:e.v.length=6
 bd:Bd 100 e.v
 bl:∀ b,AtP e.p b->X b
 tell:match o with
  | none=>e.can=false
  | some (who,v)=>e.can=true/\e.v=v/\yG z e.p e.l who
theorem EndP.only {z z':St} {X:Nat->Prop} {S:Nat->Prop} {e:EndR} {o:Option (List Int × List Int)} (h:EndP z X e o) (k:Only S z z') (hX:∀ b,X b->¬ S b):EndP z' X e o:=by
 refine ⟨h.len,h.bd,h.bl, ?_⟩
 have ht:=h.tell;cases o with
 | none=>exact ht
 | some p =>
  obtain ⟨who,v⟩:=p;exact ⟨ht.1,ht.2.1,k.slv' ht.2.2 (fun a e=>hX _ (h.bl _ ⟨a,e,rfl⟩))⟩
theorem EndP.le {z z':St} {X:Nat->Prop} {e:EndR} {o:Option (List Int × List Int)} (h:EndP z X e o) (k:Le z z'):EndP z' X e o:=by
 refine ⟨h.len,h.bd,h.bl, ?_⟩
 have ht:=h.tell;cases o with
 | none=>exact ht
 | some p =>
  obtain ⟨who,v⟩:=p;exact ⟨ht.1,ht.2.1,SlV.le ht.2.2 k⟩
theorem EndP.mono {z:St} {X Y:Nat->Prop} {e:EndR} {o:Option (List Int × List Int)} (h:EndP z X e o) (k:∀ b,X b->Y b):EndP z Y e o:=⟨h.len,h.bd,fun b hb=>k b (h.bl b hb),h.tell⟩
structure PlK where
 Zf:St
 Bp:Nat
 bm:Nat
 w:Wk
 p:Option Addr
 l:Nat
 c:Nat
 q:Option Addr
 m:Nat
 d:Nat
 leaves:Bool
 fw:FuncId
 fa:List Value
 fc:List Value
 wf:Nat->List Int->List Int
 n:Nat
abbrev PlK.wfv (K:PlK):Value:=.func (.func K.fw) ⟨K.fa⟩ ⟨K.fc⟩
abbrev PlK.row (K:PlK):List Value:=zTV K.w K.p K.l K.c K.q K.m K.d K.leaves K.wfv K.bm
structure PlK.Ok (K:PlK):Prop where
 wk:WkP K.Zf 85 88 K.w K.p K.l K.q K.m
 sh:zAQ K.w
 sn:Sane K.w K.l K.m
 dn:K.w.days=(K.n:Int)
 n7:K.n<=7
 vd:Days K.w K.n
 b1:K.Zf.next<=K.bm
 b2:K.bm≠K.Bp
 wfc:∀ z,Le K.Zf z->∀ (D:Nat) (pw:Option Addr) (lw cw:Nat) (who:List Int),yG z pw lw who->lw<=12->zD Tryz.prog K.fw (K.fa++(iV (D:Int)::.slice pw lw cw::K.fc)) z (.agg ⟨six (K.wf D who)⟩) z
 wfl:∀ D a,(K.wf D a).length=6
 wfb:∀ D a,a.length<=12->Bd 12 (K.wf D a)
 dl:K.w.duties.length<=12
 bel:∀ n,K.Zf.next<=n->yU RD n K.wfv=true
 good:zN RD K.wfv=true
abbrev PlK.ch (K:PlK) (r D:Nat) (st:Nat->Std):zJR:=Ch K.w K.leaves K.wf r D st
structure PlW (K:PlK) (z:St) (F:Key->Option EndR) (X:Nat->Prop):Prop where
 fl:Le K.Zf z
 pr:Row z ⟨K.Bp,0,none⟩ K.row
 mp:zHH Tryz.prog z K.bm yMX zDB F
 xb:∀ b,X b->b<z.next/\b≠K.bm
 kn:∀ (D:Nat) st e,F (zKW D st)=some e->∀ r,D+r=K.n->∃ o,EndP z X e o/\xO 6 (K.ch r D st) o
section
variable {K:PlK} {z z':St} {F:Key->Option EndR} {X:Nat->Prop}
theorem PlW.le (h:PlW K z F X) (k:Le z z'):PlW K z' F X :=
 ⟨h.fl.trans k,h.pr.le k,h.mp.le k,fun b hb=>⟨Nat.lt_of_lt_of_le (h.xb b hb).1 k.next,(h.xb b hb).2⟩,fun D st e he r hr=>by
  obtain ⟨o,h1,h2⟩:=h.kn D st e he r hr;exact ⟨o,h1.le k,h2⟩⟩
theorem PlW.only {S:Nat->Prop} (h:PlW K z F X) (k:Only S z z') (h0:∀ b,S b->K.Zf.next<=b) (h1:¬ S K.Bp) (h2:¬ S K.bm) (h3:∀ b,X b->¬ S b):PlW K z' F X :=
 ⟨⟨Nat.le_trans h.fl.next k.next,fun b hb=>(k.get b (Nat.lt_of_lt_of_le hb h.fl.next) (fun e=>by have:=h0 b e;omega)).trans (h.fl.get b hb)⟩,k.rw' h.pr h1,h.mp.at_ (k.get _ h.mp.1 h2) k.next,fun b hb=>⟨Nat.lt_of_lt_of_le (h.xb b hb).1 k.next,(h.xb b hb).2⟩,fun D st e he r hr=>by
  obtain ⟨o,g1,g2⟩:=h.kn D st e he r hr;exact ⟨o,g1.only k h3,g2⟩⟩
theorem PlW.mono {Y:Nat->Prop} (h:PlW K z F X) (k:∀ b,X b->Y b) (hy:∀ b,Y b->b<z.next/\b≠K.bm):PlW K z F Y :=
 ⟨h.fl,h.pr,h.mp,hy,fun D st e he r hr=>by
  obtain ⟨o,g1,g2⟩:=h.kn D st e he r hr;exact ⟨o,g1.mono k,g2⟩⟩
theorem PlW.set (ok:K.Ok) (h:PlW K z F X) {D:Nat} {st:Nat->Std} {e:EndR} {r:Nat} {o:Option (List Int × List Int)} (hr:D+r=K.n) (he:EndP z X e o) (hb:xO 6 (K.ch r D st) o) :
  ∃ z',zQ Tryz.prog (evL [.map (some K.bm),.agg ⟨iV (D:Int)::stL st⟩,zDB e]) z (.mapUpdate 126 (.tmp 0) (.tmp 1) (.tmp 2))=some (undef,z')/\Only (·=K.bm) z z'/\z'.low<=K.bm/\z'.low<=z.low/\PlW K z' (fun k=>if k=zKW D st then some e else F k) X:=by
 obtain ⟨es,e1,e2⟩:=h.mp.put zEM mapE (zKW D st) e;rw [yHT] at e1;have kk:Only (·=K.bm) z (z.put K.bm (.map es)):=Only.put (.inr rfl);have hm6:=ok.sn.m6;have hm:=ok.wk.len.2;refine ⟨_,e1,kk,by simp;omega,by simp;omega,⟨⟨Nat.le_trans h.fl.next kk.next,fun b hb=>(kk.get b (Nat.lt_of_lt_of_le hb h.fl.next) (by have:=ok.b1;show b≠K.bm;omega)).trans (h.fl.get b hb)⟩,kk.rw' h.pr (fun e=>ok.b2 e.symm),e2,fun b hb=>⟨Nat.lt_of_lt_of_le (h.xb b hb).1 kk.next,(h.xb b hb).2⟩,fun D' st' e' he' r' hr'=>?_⟩⟩
 have hXm:∀ b,X b->¬ b=K.bm:=fun b hb=>(h.xb b hb).2
 by_cases ek:zKW (D':Int) st'=zKW (D:Int) st
 ·rw [if_pos ek] at he';cases he'
  obtain ⟨k1,k2⟩:=keyOf_eq.1 ek;have:D'=D:=by omega
  subst this;have:r'=r:=by omega
  subst this;exact ⟨o,he.only kk hXm,yJS (fun k hk=>(k2 k (by omega)).symm) hb⟩
 ·rw [if_neg ek] at he';obtain ⟨o',g1,g2⟩:=h.kn D' st' e' he' r' hr';exact ⟨o',g1.only kk hXm,g2⟩
end
theorem mut6 {Z:St} {f:FuncId} {args:List Value} {S:Nat->Prop} {Q:Value->St->Prop} (h:zO Tryz.prog f args Z.re fun v s=>Only S Z.re s/\(s.low<Z.next\/zV RD v=false\/Q v Z)/\Q v s) (hQ:∀ v s m,m<=s.low->Q v s->Q v ⟨s.heap,s.next,m⟩):∃ v Z',zD Tryz.prog f args Z v Z'/\Only S Z Z'/\Q v Z':=by
 obtain ⟨v,s,hN,h1,h2,h3⟩:=h;by_cases hr:zV RD v=true/\¬ s.low<Z.next
 ·rcases h2 with h2 | h2 | h2
  ·exact absurd h2 hr.2
  ·rw [hr.1] at h2;cases h2
  ·exact ⟨v,Z,zO.pure ⟨v,s,hN,rfl,by omega⟩ hr.1,Only.refl _ _,h2⟩
 ·obtain ⟨N0,hN⟩:=hN;refine ⟨v,⟨s.heap,s.next,min Z.low s.low⟩,⟨N0,fun N hl=>?_⟩,h1.lower (m:=0),hQ _ _ _ (Nat.min_le_right _ _) h3⟩
  unfold vV;rw [show (⟨Z.heap,Z.next,Z.next⟩:St)=Z.re from rfl,hN N hl];show vW Z v s=_;unfold vW;have e1:(Nat.ble Z.next s.low && zV RD v)=false:=by
   rw [Bool.and_eq_false_iff];by_cases hlow:s.low<Z.next
   ·left;rw [Bool.eq_false_iff];intro e;have:=(zW _ _).1 e;omega
   ·right;rw [<- Bool.not_eq_true];exact fun e=>hr ⟨e,hlow⟩
  have e2:Nat.ble Z.next s.next=true:=(zW _ _).2 h1.next;rw [e1,cond_false,e2,cond_true,wC,uU]
end Go.Proofs.YtgfiniccfpfplaaGreat
