import Derived.Test.YtgfiniccfpfplaaXQ
import Derived.Test.YtgfiniccfpfplaaRY
import Derived.Test.YtgfiniccfpfplaaTy
import Derived.Test.YtgfiniccfpfplaaLayD
import Derived.Test.YtgfiniccfpfplaaRN
import Derived.Test.YtgfiniccfpfplaaUB
import Derived.Test.YtgfiniccfpfplaaPF
set_option linter.unusedVariables false
set_option linter.unusedSimpArgs false
set_option maxRecDepth 20000
namespace Go.Proofs.Ytgfiniccfpfplaa
open Go Go.Lay
open Try renaming prog → Pg
section
variable {σ:St} {w:Wk} {p q pw:Option Addr} {l m c d D Bw lw cw:Nat} {who:List Int}
theorem yEH {k:Nat} (hk:k<6):(uG w D who).getD k 0=if k<w.L.length∧(drQ w k).qb.contains (D:Int)=true∧who.contains (k:Int)=false then 1 else 0:=by
 unfold uG;rw [List.getD_eq_getElem?_getD,List.getElem?_map,List.getElem?_range hk];rfl
theorem xDQ:(uG w D who).length=6:=by simp [uG]
theorem xTE (hw:Row σ ⟨Bw,0,none⟩ (wkc w.M p l c q m d w.rest w.run w.j)) (h:WkP σ 69 61 w p l q m) (hm6:m≤6) (hsh:uX w) (hi:yF σ pw lw who) (hl:lw≤1000):zD Try.prog 36 [iV (D:Int),.slice pw lw cw,.pointer (some ⟨Bw,0,none⟩)] σ (.agg ⟨six (uG w D who)⟩) σ:=by
 have hmm:=h.len.2;obtain ⟨τ0,hτ0⟩:∃ τ0,τ0=σ.re.row (zJ 0 0 0 0 0 0) 1:=⟨_,rfl⟩;have N0:New σ.re τ0:=by rw [hτ0];exact New.row _ _ _
 have L0:Le σ τ0:=(le0 σ).trans N0.le;have o0:Own τ0 σ.y (wT 6 fun _=>0) 1:=by rw [hτ0];exact zC σ.re (zJ 0 0 0 0 0 0) 1
 have l1:zB Try.prog τ0 41 (zN ⟨Bw,0,none⟩ 2)=some (.slice q m d):=(hw.le L0).load1 zAE rfl;rw [hτ0] at l1;refine (xOH l1 (yPH (Inv:=fun k i τ=>New σ.re τ∧∃ j:Nat,i=j∧j+k=m∧Own τ σ.y (wT 6 fun s=>if s<j then (uG w D who).getD s 0 else 0) 1)
  (Q0:=fun τ=>New σ.re τ∧Own τ σ.y (six (uG w D who)) 1) ?_ m 0 _ ⟨hτ0 ▸ N0,0,rfl,by omega,by simpa using hτ0 ▸ o0⟩) ?_).pure
 ·rintro k i τ ⟨hN,j,rfl,hk,w1⟩;by_cases hj:j<m;rotate_left
  ·have:j=m:=by omega
   subst this;refine xFM ⟨hN, ?_⟩ (by omega);have e:(wT 6 fun s=>if s<j then (uG w D who).getD s 0 else 0)=six (uG w D who):=by
    refine zDI fun s hs=>?_
    by_cases e1:s<j
    ·rw [if_pos e1]
    ·rw [if_neg e1,yEH hs,if_neg (by omega)]
   rw [← e];exact w1
  have LL:=(le0 σ).trans hN.le;obtain ⟨a,rfl,p',l',c',r',n',d',s',j',e',ld,hkn,hlv,hws,_⟩:=(h.le LL).vld yFB zES hj;have N2:New τ ((τ.row (zM none 0 0 none 0 0 none 0 0 0 0 0) 6).own τ.y (zM p' l' c' r' n' d' s' j' e' (drQ w j).off (drQ w j).row (drQ w j).used) 6):=(New.row _ _ _).own (Nat.le_refl _);have hwl:=(hsh _ (zLJ (by omega:j<w.L.length))).2.2;have eln:=hws.len;have c1:=yHW (c:=e') (n:=(D:Int)) (SlV.le hws N2.le) (by omega);have c2:=yHW (c:=cw) (n:=(j:Int)) (SlV.le hi (LL.trans N2.le)) (by omega);have o2:=w1.le N2.le;have hj6:j<6:=by omega
  have hg:=yEH (w:=w) (D:=D) (who:=who) hj6;have same:(uG w D who).getD j 0=0→(wT 6 fun s=>if s<j then (uG w D who).getD s 0 else 0)=wT 6 fun s=>if s<j+1 then (uG w D who).getD s 0 else 0:=fun h0=>by
   refine zDI fun s hs=>?_
   by_cases e1:s<j
   ·rw [if_pos e1,if_pos (by omega)]
   ·rw [if_neg e1];by_cases e2:s=j
    ·subst e2;rw [if_pos (by omega),h0]
    ·rw [if_neg (by omega)]
  cases b1:(drQ w j).qb.contains (D:Int) with
  | false =>
   rw [b1] at c1 hg;rw [if_neg (by simp)] at hg;exact xFN ld c1 ⟨k-1,by omega,hN.trans N2,j+1,by omega,by omega,by rw [← same hg];exact o2⟩ (by omega) (by omega) (by omega)
  | true =>
  cases b2:who.contains (j:Int) with
  | true =>
   rw [b1] at c1;rw [b2] at c2 hg;rw [if_neg (by simp)] at hg;exact xFP ld c1 c2 ⟨k-1,by omega,hN.trans N2,j+1,by omega,by omega,by rw [← same hg];exact o2⟩ (by omega) (by omega) (by omega)
  | false =>
   rw [b1] at c1 hg;rw [b2] at c2 hg;rw [if_pos ⟨by omega,rfl,rfl⟩] at hg;have st:=xGB (x:=1) o2 hj6;refine xFO ld c1 c2 st ⟨k-1,by omega,(hN.trans N2).own (by show σ.y≤σ.y;omega),j+1,by omega,by omega, ?_⟩ (by omega) (by omega) (by omega) (by omega);have e:(wT 6 fun s=>if s=j then 1 else if s<j then (uG w D who).getD s 0 else 0)=wT 6 fun s=>if s<j+1 then (uG w D who).getD s 0 else 0:=by
    refine zDI fun s hs=>?_
    by_cases e2:s=j
    ·subst e2;rw [if_pos rfl,if_pos (by omega),hg]
    ·rw [if_neg e2];by_cases e1:s<j
     ·rw [if_pos e1,if_pos (by omega)]
     ·rw [if_neg e1,if_neg (by omega)]
   rw [← e];exact o2.put
 ·rintro τ ⟨hN,w1⟩;generalize uG w D who=v at w1 ⊢;have g1:zB Try.prog τ 73 ⟨σ.y,0,none⟩=some (.agg ⟨zJ (v.getD 0 0) (v.getD 1 0) (v.getD 2 0) (v.getD 3 0) (v.getD 4 0) (v.getD 5 0)⟩):=by rw [← zAJ];exact zGK w1
  have g2:zQ Try.prog (evL [.pointer (some ⟨σ.y,0,none⟩),.agg ⟨zJ (v.getD 0 0) (v.getD 1 0) (v.getD 2 0) (v.getD 3 0) (v.getD 4 0) (v.getD 5 0)⟩]) τ (.store 73 (.tmp 0) (.tmp 1))=some (undef,τ.own σ.y (six v) 1):=by rw [← zAJ];exact yWS w1
  have g3:zB Try.prog (τ.own σ.y (six v) 1) 73 ⟨σ.y,0,none⟩=some (.agg ⟨zJ (v.getD 0 0) (v.getD 1 0) (v.getD 2 0) (v.getD 3 0) (v.getD 4 0) (v.getD 5 0)⟩):=by rw [← zAJ];exact zGK (w1.put)
  exact yPG g1 g2 g3 ⟨by rw [zAJ],(hN.own (b:=σ.y) (n:=1) (cs:=six v) (by show σ.y≤σ.y;omega)).lw⟩
theorem xSY (hi:yF σ pw lw who) (hl:lw≤1073741824):zD Try.prog 33 [iV (D:Int),.slice pw lw cw] σ (.agg ⟨six (zDZ D who)⟩) σ:=by
 have L0:Le σ (σ.re.row (zJ 0 0 0 0 0 0) 1):=(le0 σ).trans (Le.row _ _ _);have cc:=yNN (c:=cw) (SlV.le hi L0) hl;have e:six (zDZ D who)=zJ (((who.filter fun x=>decide (x≠-1)).length:Nat):Int) 0 0 0 0 0:=by rw [zAJ];rfl
 rw [e];exact (xOA cc ⟨rfl,((New.row σ.re (zJ 0 0 0 0 0 0) 1).own (b:=σ.y) (n:=1) (by show σ.y≤σ.y;omega)).lw⟩).pure
end
section
variable {w:Wk} {leaves:Bool} {wf:Nat→List Int→List Int}
theorem zJT:∀ {l:List Nat} {who:List Int} {st st' u:Nat→Std},(∀ k,k<w.L.length→st k=st' k)→zAC w leaves l who st=some u→∃ u',zAC w leaves l who st'=some u'∧∀ k,k<w.L.length→u k=u' k
 | [],[],st,st',u,h,e=>by
  have e:some st=some u:=e;cases e
  exact ⟨st',rfl,h⟩
 | [],_::_,_,_,_,_,e=>by cases e
 | _::_,[],_,_,_,_,e=>by cases e
 | i::l,r::who,st,st',u,h,e=>by
  unfold zAC at e ⊢;split at e
  ·rename_i e1;split at e
   ·rename_i hl;rw [if_pos e1,if_pos hl];exact zJT h e
   ·cases e
  ·rename_i e1;split at e
   ·rename_i g;obtain ⟨g1,g2,g3⟩:=g;have hk:r.toNat<w.L.length:=by omega
    rw [if_neg e1,if_pos ⟨g1,g2,by rw [← h _ hk];exact g3⟩];refine zJT (fun k hk2=>?_) e;unfold zWB upd;by_cases e2:k=r.toNat
    ·rw [if_pos e2,if_pos e2,h _ hk]
    ·rw [if_neg e2,if_neg e2];exact h k hk2
   ·cases e
theorem yAP:∀ {r D:Nat} {st st':Nat→Std} {c v:List Int},(∀ k,k<w.L.length→st k=st' k)→Ch w leaves wf r D st c v→Ch w leaves wf r D st' c v
 | 0,_,_,_,_,_,_,h=>h
 | r+1,D,st,st',c,v,hs,h=>by
  obtain ⟨a,b,u,x,h1,h2,h3,h4⟩:=h;obtain ⟨u',g1,g2⟩:=zJT hs h1;refine ⟨a,b,u',x,g1,yAP (fun k hk=>?_) h2,h3,h4⟩
  unfold zCM;rw [if_pos hk,if_pos hk,g2 k hk]
theorem yJC {r D:Nat} {st st':Nat→Std} {o:Option (List Int × List Int)} (h:∀ k,k<w.L.length→st k=st' k) (hb:xU 6 (Ch w leaves wf r D st) o):xU 6 (Ch w leaves wf r D st') o :=
 hb.iff fun a v=>⟨yAP h,yAP fun k hk=>(h k hk).symm⟩
theorem Bd.plus {m n:Int}:∀ {a b:List Int},Bd m a→Bd n b→Bd (m+n) (vM a b)
 | [],_,_,_=>fun x hx=>by simp [vM] at hx
 | _::_,[],_,_=>fun x hx=>by simp [vM] at hx
 | a::l,b::o,h1,h2=>by
  intro x hx;have hx:x∈(a+b)::vM l o:=hx;rcases List.mem_cons.1 hx with rfl | hx
  ·have:=h1 a List.mem_cons_self;have:=h2 b List.mem_cons_self;omega
  ·exact Bd.plus (fun y hy=>h1 y (List.mem_cons_of_mem _ hy)) (fun y hy=>h2 y (List.mem_cons_of_mem _ hy)) x hx
theorem Bd.mono {m n:Int} {a:List Int} (h:Bd m a) (k:m≤n):Bd n a:=fun x hx=>by have:=h x hx;omega
theorem zDD {D j:Nat}:(yC w D j).length≤j:=by
 unfold yC;have:=List.length_filter_le (fun i=>decide ((dty w i).day=(D:Int))) (List.range j);simpa using this
theorem xUA (hw:∀ D a,a.length≤12→Bd 12 (wf D a)) (hl:w.N.length≤12):∀ {r D:Nat} {st:Nat→Std} {c v:List Int},Ch w leaves wf r D st c v→Bd (12*(r:Int)) v
 | 0,_,_,_,_,h=>by
  rw [h.2];intro x hx;simp [zCV] at hx;omega
 | r+1,D,st,c,v,h=>by
  obtain ⟨a,b,u,x,h1,h2,h3,h4⟩:=h;have:=(zDE h1).1;have hd:=zDD (w:=w) (D:=D) (j:=w.N.length);rw [h4];exact (Bd.plus (xUA hw hl h2) (hw D a (by omega))).mono (by omega)
theorem yEK:∀ {r D:Nat},(xB w r D).length≤r*w.N.length
 | 0,_=>by simp [xB]
 | r+1,D=>by
  have:=zDD (w:=w) (D:=D) (j:=w.N.length);have:=yEK (r:=r) (D:=D+1);unfold xB;rw [List.length_append,Nat.add_mul,Nat.one_mul];omega
structure StG (s:Std):Prop where
 free:-20000≤s.free∧s.free≤20000
 row:0≤s.row∧s.row≤15+s.day
 used:0≤s.used∧s.used≤20000
 day:-1≤s.day∧s.day≤6
theorem StG.ok {s:Std} (h:StG s):StOk s:=by
 have h1:=h.free;have h2:=h.row;have h3:=h.used;have h4:=h.day;exact ⟨by omega,by omega,by omega,by omega⟩
theorem StG.past {s:Std} (h:StG s) {D:Nat} (hD:D≤6) (hr:0≤w.rest∧w.rest≤3000):StG (zOQ w D s):=by
 have h1:=h.free;have h2:=h.row;have h3:=h.used;have h4:=h.day;unfold zOQ;split
 ·exact h
 ·refine ⟨?_, ?_,h3,h4⟩
  ·simp only;omega
  ·simp only;omega
theorem StG.take {s:Std} (h:StG s) {d:Dty} (hd:0≤d.day∧d.day≤6) (ho:0≤d.on∧d.on≤1439) (he:d.on≤d.hi∧d.hi≤d.on+1440) (hu:(Ytgfiniccfpfplaa.take s d d.hi).used≤20000):StG (Ytgfiniccfpfplaa.take s d d.hi):=by
 have h1:=h.free;have h2:=h.row;have h3:=h.used;have h4:=h.day;have hu':(Ytgfiniccfpfplaa.take s d d.hi).used=s.used+(d.hi-d.on):=by unfold Ytgfiniccfpfplaa.take;split <;> rfl
 rw [hu'] at hu;unfold Ytgfiniccfpfplaa.take;split
 ·exact ⟨h1,h2,by simp only;omega,h4⟩
 ·refine ⟨by simp only;omega, ?_,by simp only;omega,by simp only;omega⟩
  simp only;split <;> omega
theorem StG.before {d:Drv} (ho:-10080≤d.off∧d.off≤1440) (hr:0≤d.row∧d.row≤14) (hu:0≤d.used∧d.used≤20000):StG (Ytgfiniccfpfplaa.before d) :=
 ⟨by unfold Ytgfiniccfpfplaa.before;simp only;omega,by unfold Ytgfiniccfpfplaa.before;simp only;omega,by unfold Ytgfiniccfpfplaa.before;simp only;omega,by unfold Ytgfiniccfpfplaa.before;simp only;omega⟩
end
structure EndR where
 v:List Int
 p:Option Addr
 l:Nat
 c:Nat
 can:Bool
@[reducible] def xRH (a0 a1 a2 a3 a4 a5:Int) (p:Option Addr) (l c:Nat) (b:Bool):List Value:=[iV a0,iV a1,iV a2,iV a3,iV a4,iV a5,.slice p l c,.bool b]
@[reducible] def zEJ (e:EndR):List Value:=xRH (e.v.getD 0 0) (e.v.getD 1 0) (e.v.getD 2 0) (e.v.getD 3 0) (e.v.getD 4 0) (e.v.getD 5 0) e.p e.l e.c e.can
def zCZ (e:EndR):Value:=.agg ⟨zEJ e⟩
structure EndP (z:St) (X:Nat→Prop) (e:EndR) (o:Option (List Int × List Int)):Prop where
 len:e.v.length=6
 bd:Bd 100 e.v
 bl:∀ b,AtP e.p b→X b
 tell:match o with
  | none=>e.can=false
  | some (who,v)=>e.can=true∧e.v=v∧yF z e.p e.l who
theorem EndP.only {z z':St} {X:Nat→Prop} {S:Nat→Prop} {e:EndR} {o:Option (List Int × List Int)} (h:EndP z X e o) (k:Only S z z') (hX:∀ b,X b→¬ S b):EndP z' X e o:=by
 refine ⟨h.len,h.bd,h.bl, ?_⟩
 have ht:=h.tell;cases o with
 | none=>exact ht
 | some p =>
  obtain ⟨who,v⟩:=p;exact ⟨ht.1,ht.2.1,k.slv' ht.2.2 (fun a e=>hX _ (h.bl _ ⟨a,e,rfl⟩))⟩
theorem EndP.le {z z':St} {X:Nat→Prop} {e:EndR} {o:Option (List Int × List Int)} (h:EndP z X e o) (k:Le z z'):EndP z' X e o:=by
 refine ⟨h.len,h.bd,h.bl, ?_⟩
 have ht:=h.tell;cases o with
 | none=>exact ht
 | some p =>
  obtain ⟨who,v⟩:=p;exact ⟨ht.1,ht.2.1,SlV.le ht.2.2 k⟩
theorem EndP.mono {z:St} {X Y:Nat→Prop} {e:EndR} {o:Option (List Int × List Int)} (h:EndP z X e o) (k:∀ b,X b→Y b):EndP z Y e o:=⟨h.len,h.bd,fun b hb=>k b (h.bl b hb),h.tell⟩
structure PlK where
 σf:St
 Bp:Nat
 bm:Nat
 w:Wk
 p:Option Addr
 l:Nat
 c:Nat
 q:Option Addr
 m:Nat
 d:Nat
 leaves:Bool
 fw:FuncId
 fa:List Value
 fc:List Value
 wf:Nat→List Int→List Int
 n:Nat
abbrev PlK.wfv (K:PlK):Value:=.func (.func K.fw) ⟨K.fa⟩ ⟨K.fc⟩
abbrev PlK.row (K:PlK):List Value:=zTH K.w K.p K.l K.c K.q K.m K.d K.leaves K.wfv K.bm
structure PlK.Ok (K:PlK):Prop where
 wk:WkP K.σf 69 61 K.w K.p K.l K.q K.m
 sh:uX K.w
 sn:Sane K.w K.l K.m
 dn:K.w.M=(K.n:Int)
 n7:K.n≤7
 vd:Days K.w K.n
 b1:K.σf.y≤K.bm
 b2:K.bm≠K.Bp
 wfc:∀ z,Le K.σf z→∀ (D:Nat) (pw:Option Addr) (lw cw:Nat) (who:List Int),yF z pw lw who→lw≤12→zD Try.prog K.fw (K.fa++(iV (D:Int)::.slice pw lw cw::K.fc)) z (.agg ⟨six (K.wf D who)⟩) z
 wfl:∀ D a,(K.wf D a).length=6
 wfb:∀ D a,a.length≤12→Bd 12 (K.wf D a)
 dl:K.w.N.length≤12
 bel:∀ n,K.σf.y≤n→yX RD n K.wfv=true
 good:zL RD K.wfv=true
abbrev PlK.ch (K:PlK) (r D:Nat) (st:Nat→Std):zIB:=Ch K.w K.leaves K.wf r D st
structure PlW (K:PlK) (z:St) (F:Key→Option EndR) (X:Nat→Prop):Prop where
 fl:Le K.σf z
 pr:Row z ⟨K.Bp,0,none⟩ K.row
 mp:zGB Try.prog z K.bm yME zCZ F
 xb:∀ b,X b→b<z.y∧b≠K.bm
 kn:∀ (D:Nat) st e,F (zJK D st)=some e→∀ r,D+r=K.n→∃ o,EndP z X e o∧xU 6 (K.ch r D st) o
section
variable {K:PlK} {z z':St} {F:Key→Option EndR} {X:Nat→Prop}
theorem PlW.le (h:PlW K z F X) (k:Le z z'):PlW K z' F X :=
 ⟨h.fl.trans k,h.pr.le k,h.mp.le k,fun b hb=>⟨Nat.lt_of_lt_of_le (h.xb b hb).1 k.y,(h.xb b hb).2⟩,fun D st e he r hr=>by
  obtain ⟨o,h1,h2⟩:=h.kn D st e he r hr;exact ⟨o,h1.le k,h2⟩⟩
theorem PlW.only {S:Nat→Prop} (h:PlW K z F X) (k:Only S z z') (h0:∀ b,S b→K.σf.y≤b) (h1:¬ S K.Bp) (h2:¬ S K.bm) (h3:∀ b,X b→¬ S b):PlW K z' F X :=
 ⟨⟨Nat.le_trans h.fl.y k.y,fun b hb=>(k.get b (Nat.lt_of_lt_of_le hb h.fl.y) (fun e=>by have:=h0 b e;omega)).trans (h.fl.get b hb)⟩,k.rw' h.pr h1,h.mp.at_ (k.get _ h.mp.1 h2) k.y,fun b hb=>⟨Nat.lt_of_lt_of_le (h.xb b hb).1 k.y,(h.xb b hb).2⟩,fun D st e he r hr=>by
  obtain ⟨o,g1,g2⟩:=h.kn D st e he r hr;exact ⟨o,g1.only k h3,g2⟩⟩
theorem PlW.mono {Y:Nat→Prop} (h:PlW K z F X) (k:∀ b,X b→Y b) (hy:∀ b,Y b→b<z.y∧b≠K.bm):PlW K z F Y :=
 ⟨h.fl,h.pr,h.mp,hy,fun D st e he r hr=>by
  obtain ⟨o,g1,g2⟩:=h.kn D st e he r hr;exact ⟨o,g1.mono k,g2⟩⟩
theorem PlW.set (ok:K.Ok) (h:PlW K z F X) {D:Nat} {st:Nat→Std} {e:EndR} {r:Nat} {o:Option (List Int × List Int)} (hr:D+r=K.n) (he:EndP z X e o) (hb:xU 6 (K.ch r D st) o) :
  ∃ z',zQ Try.prog (evL [.map (some K.bm),.agg ⟨iV (D:Int)::stL st⟩,zCZ e]) z (.mapUpdate 104 (.tmp 0) (.tmp 1) (.tmp 2))=some (undef,z')∧Only (·=K.bm) z z'∧z'.low≤K.bm∧z'.low≤z.low∧PlW K z' (fun k=>if k=zJK D st then some e else F k) X:=by
 obtain ⟨es,e1,e2⟩:=h.mp.put zDU xJI (zJK D st) e;rw [yHE] at e1;have kk:Only (·=K.bm) z (z.put K.bm (.map es)):=Only.put (.inr rfl);have hm6:=ok.sn.m6;have hm:=ok.wk.len.2;refine ⟨_,e1,kk,by simp;omega,by simp;omega,⟨⟨Nat.le_trans h.fl.y kk.y,fun b hb=>(kk.get b (Nat.lt_of_lt_of_le hb h.fl.y) (by have:=ok.b1;show b≠K.bm;omega)).trans (h.fl.get b hb)⟩,kk.rw' h.pr (fun e=>ok.b2 e.symm),e2,fun b hb=>⟨Nat.lt_of_lt_of_le (h.xb b hb).1 kk.y,(h.xb b hb).2⟩,fun D' st' e' he' r' hr'=>?_⟩⟩
 have hXm:∀ b,X b→¬ b=K.bm:=fun b hb=>(h.xb b hb).2
 by_cases ek:zJK (D':Int) st'=zJK (D:Int) st
 ·rw [if_pos ek] at he';cases he'
  obtain ⟨k1,k2⟩:=xJV.1 ek;have:D'=D:=by omega
  subst this;have:r'=r:=by omega
  subst this;exact ⟨o,he.only kk hXm,yJC (fun k hk=>(k2 k (by omega)).symm) hb⟩
 ·rw [if_neg ek] at he';obtain ⟨o',g1,g2⟩:=h.kn D' st' e' he' r' hr';exact ⟨o',g1.only kk hXm,g2⟩
end
theorem xVD {σ:St} {f:FuncId} {args:List Value} {S:Nat→Prop} {Q:Value→St→Prop} (h:zP Try.prog f args σ.re fun v s=>Only S σ.re s∧(s.low<σ.y∨zV RD v=false∨Q v σ)∧Q v s) (hQ:∀ v s m,m≤s.low→Q v s→Q v ⟨s.heap,s.y,m⟩):∃ v σ',zD Try.prog f args σ v σ'∧Only S σ σ'∧Q v σ':=by
 obtain ⟨v,s,hN,h1,h2,h3⟩:=h;by_cases hr:zV RD v=true∧¬ s.low<σ.y
 ·rcases h2 with h2 | h2 | h2
  ·exact absurd h2 hr.2
  ·rw [hr.1] at h2;cases h2
  ·exact ⟨v,σ,zP.pure ⟨v,s,hN,rfl,by omega⟩ hr.1,Only.refl _ _,h2⟩
 ·obtain ⟨N0,hN⟩:=hN;refine ⟨v,⟨s.heap,s.y,min σ.low s.low⟩,⟨N0,fun N hl=>?_⟩,h1.lower (m:=0),hQ _ _ _ (Nat.min_le_right _ _) h3⟩
  unfold uC;rw [show (⟨σ.heap,σ.y,σ.y⟩:St)=σ.re from rfl,hN N hl];show uD σ v s=_;unfold uD;have e1:(Nat.ble σ.y s.low && zV RD v)=false:=by
   rw [Bool.and_eq_false_iff];by_cases hlow:s.low<σ.y
   ·left;rw [Bool.eq_false_iff];intro e;have:=(zW _ _).1 e;omega
   ·right;rw [← Bool.not_eq_true];exact fun e=>hr ⟨e,hlow⟩
  have e2:Nat.ble σ.y s.y=true:=(zW _ _).2 h1.y;rw [e1,cond_false,e2,cond_true,wG,zAD]
section
noncomputable section
variable (who:oAa) (aQ bi:Nat) (v0 v4 v5:Addr) (BA l9:Nat) (Q:Int→St→Prop) (bS:Int) (q0:St→Prop) (σ:St) (Nx:Int→St→Prop) (q2:vPa) (Q0:St→Prop)
def yON:Code:=(Code.part [1,0,1,1,1,1,0,0] (qj 72))
def zEC:lNa:=[(0,.slice who aQ bi),(2,pz v0),(6,pz v4),(7,pz v5),(9,pq BA 0),(78,iV (l9:Int)),(79,iV bS)]
def xEY:Alt:=⟨Int,.normal,fun t=>zEC who aQ bi v0 v4 v5 BA l9 t,fun t=>[],fun t σ=>Q t σ⟩
def zZY (who:oAa) (aQ bi:Nat) (v0 v4 v5:Addr) (BA l9:Nat):lNa:=[]
def zHL:Alt:=⟨Unit,(.exit 0),fun t=>zZY who aQ bi v0 v4 v5 BA l9,fun t=>[],fun t σ=>q0 σ⟩
def zQA:Prop:=qk ql none yON 110 (zEC who aQ bi v0 v4 v5 BA l9 bS) [] [xEY who aQ bi v0 v4 v5 BA l9 Nx,zHL who aQ bi v0 v4 v5 BA l9 Q0] σ
def zPZ:Prop:=qm ql none yON 110 (zEC who aQ bi v0 v4 v5 BA l9 bS) [] [zHL who aQ bi v0 v4 v5 BA l9 Q0] σ
def zHM:Prop:=kZ ql (qj 72) [1,0,1,1,1,1,0] (qo 72 q2) (.exit 0) 110 (zZY who aQ bi v0 v4 v5 BA l9) σ
end
variable {who q1 q11 q39 q40 q32 q33 qY q6 q9 q4:oAa} {aQ bi l1 c1 l11 c11 l39 c39 l40 c40 l32 c32 l33 c33 BA l9 lG cF lCB cZ l6 c6 c9 l4 c4:Nat} {now fJ fH:Nat→Std} {v0 v1 v2 v3 v4 v5 a2 a14 fg a8:Addr} {n3 n5 n6 n7 n8 n9 n10 n16 n17 n18 n19 n20 n21 n22 n24 n25 n26 n27 n28 n29 n32 n33 n34 n35 n36 n37 bS nD nB nA nE nK nO nP nQ nW:Int} {b12:Bool} {σ13 σ23 σ41 σ42 σ σ34 σ35 σA σR σG σQ σDC σ5 σ7:St} {f15 fE fF:FuncId} {dH dI fT fU fF_c fF_a f4_c f4_a:lVa} {Q:vPa} {Inv:Nat→Int→St→Prop} {Q0 P0:St→Prop} {Nx:Int→St→Prop}
@[reducible] def Ha9 (σ σ13 σ23:St) (now f4:Nat→Std) (v0 v1 a2 v2 a14:Addr) (q1 q11 who:oAa) (l1 c1 l11 c11 aQ bi:Nat) (n3 n5 n6 n7 n8 n9 n10 n16 n17 n18 n19 n20 n21 n22 n24 n25 n26 n27 n28 n29:Int) (b12:Bool) (f15:FuncId) (dI dH:lVa):Prop:=qp (σ.row (stL now) 4) 29 v0=some (.slice q1 l1 c1)∧qp (σ.row (stL now) 4) 103 v1=some (.pointer (some a2))∧qp (σ.row (stL now) 4) 3 v2=some (iV n3)∧qp (σ.row (stL now) 4) 89 ⟨σ.y,0,none⟩=some (.agg ⟨(stL now)⟩)∧(qn 73 [.pointer (some a2),iV n3,.agg ⟨(stL now)⟩] (σ.row (stL now) 4) (.agg ⟨(stL f4)⟩) (σ.row (stL now) 4))∧(qn 53 [.pointer (some a2),.agg ⟨(iV (n3+1)::(stL f4))⟩] (σ.row (stL now) 4) (.agg ⟨[iV n5,iV n6,iV n7,iV n8,iV n9,iV n10,.slice q11 l11 c11,.bool b12]⟩) σ13)∧(zG (σ.row (stL now) 4).y [.pointer (some a2),iV n3,.agg ⟨(stL now)⟩])∧(zG (σ.row (stL now) 4).y [.pointer (some a2),.agg ⟨(iV (n3+1)::(stL f4))⟩])∧(zG (σ13.row [iV 0,iV 0,iV 0,iV 0,iV 0,iV 0,.slice none 0 0,.bool false] 8).y [.pointer (some ⟨σ13.y,0,none⟩),.agg ⟨[iV n5,iV n6,iV n7,iV n8,iV n9,iV n10,.slice q11 l11 c11,.bool b12]⟩])∧((zLq σ13 103 v1 (.pointer (some a2))))∧((zLq (σ13.row [iV 0,iV 0,iV 0,iV 0,iV 0,iV 0,.slice none 0 0,.bool false] 8) 103 v1 (.pointer (some a2))))∧((zLq σ13 3 v2 (iV n3)))∧((zLq (σ13.row [iV 0,iV 0,iV 0,iV 0,iV 0,iV 0,.slice none 0 0,.bool false] 8) 3 v2 (iV n3)))∧((zLq σ13 89 ⟨σ.y,0,none⟩ (.agg ⟨(stL now)⟩)))∧((zLq (σ13.row [iV 0,iV 0,iV 0,iV 0,iV 0,iV 0,.slice none 0 0,.bool false] 8) 89 ⟨σ.y,0,none⟩ (.agg ⟨(stL now)⟩)))∧qp ((σ13.row [iV 0,iV 0,iV 0,iV 0,iV 0,iV 0,.slice none 0 0,.bool false] 8).own σ13.y [iV n5,iV n6,iV n7,iV n8,iV n9,iV n10,.slice q11 l11 c11,.bool b12] 8) 103 v1=some (.pointer (some a14))∧qp ((σ13.row [iV 0,iV 0,iV 0,iV 0,iV 0,iV 0,.slice none 0 0,.bool false] 8).own σ13.y [iV n5,iV n6,iV n7,iV n8,iV n9,iV n10,.slice q11 l11 c11,.bool b12] 8) 75 (zN a14 7)=some (.func (.func f15) ⟨dI⟩ ⟨dH⟩)∧qp ((σ13.row [iV 0,iV 0,iV 0,iV 0,iV 0,iV 0,.slice none 0 0,.bool false] 8).own σ13.y [iV n5,iV n6,iV n7,iV n8,iV n9,iV n10,.slice q11 l11 c11,.bool b12] 8) 3 v2=some (iV n16)∧qn f15 (dI ++ (iV n16::.slice who aQ bi::dH)) ((σ13.row [iV 0,iV 0,iV 0,iV 0,iV 0,iV 0,.slice none 0 0,.bool false] 8).own σ13.y [iV n5,iV n6,iV n7,iV n8,iV n9,iV n10,.slice q11 l11 c11,.bool b12] 8) (.agg ⟨zJ n17 n18 n19 n20 n21 n22⟩) σ23∧(qn 74 [.agg ⟨zJ n5 n6 n7 n8 n9 n10⟩,.agg ⟨zJ n17 n18 n19 n20 n21 n22⟩] σ23 (.agg ⟨zJ n24 n25 n26 n27 n28 n29⟩) σ23)∧zG ((σ13.row [iV 0,iV 0,iV 0,iV 0,iV 0,iV 0,.slice none 0 0,.bool false] 8).own σ13.y [iV n5,iV n6,iV n7,iV n8,iV n9,iV n10,.slice q11 l11 c11,.bool b12] 8).y [.pointer (some ⟨σ13.y,0,none⟩)]∧zG ((σ13.row [iV 0,iV 0,iV 0,iV 0,iV 0,iV 0,.slice none 0 0,.bool false] 8).own σ13.y [iV n5,iV n6,iV n7,iV n8,iV n9,iV n10,.slice q11 l11 c11,.bool b12] 8).y [.pointer (some v1)]∧zG ((σ13.row [iV 0,iV 0,iV 0,iV 0,iV 0,iV 0,.slice none 0 0,.bool false] 8).own σ13.y [iV n5,iV n6,iV n7,iV n8,iV n9,iV n10,.slice q11 l11 c11,.bool b12] 8).y [.pointer (some (zN a14 7))]∧zG ((σ13.row [iV 0,iV 0,iV 0,iV 0,iV 0,iV 0,.slice none 0 0,.bool false] 8).own σ13.y [iV n5,iV n6,iV n7,iV n8,iV n9,iV n10,.slice q11 l11 c11,.bool b12] 8).y [.pointer (some v2)]∧(zG ((σ13.row [iV 0,iV 0,iV 0,iV 0,iV 0,iV 0,.slice none 0 0,.bool false] 8).own σ13.y [iV n5,iV n6,iV n7,iV n8,iV n9,iV n10,.slice q11 l11 c11,.bool b12] 8).y [.func (.func f15) ⟨dI⟩ ⟨dH⟩,iV n16,.slice who aQ bi])∧(zG (σ23.row (zJ 0 0 0 0 0 0) 1).y [.pointer (some ⟨σ23.y,0,none⟩),.agg ⟨zJ n24 n25 n26 n27 n28 n29⟩])∧((zLq ((σ13.row [iV 0,iV 0,iV 0,iV 0,iV 0,iV 0,.slice none 0 0,.bool false] 8).own σ13.y [iV n5,iV n6,iV n7,iV n8,iV n9,iV n10,.slice q11 l11 c11,.bool b12] 8) 73 ⟨σ13.y,0,none⟩ (.agg ⟨zJ n5 n6 n7 n8 n9 n10⟩)))∧((zLq σ23 73 ⟨σ13.y,0,none⟩ (.agg ⟨zJ n5 n6 n7 n8 n9 n10⟩)))∧((zLq (σ23.row (zJ 0 0 0 0 0 0) 1) 73 ⟨σ13.y,0,none⟩ (.agg ⟨zJ n5 n6 n7 n8 n9 n10⟩)))∧((zLq σ23 103 v1 (.pointer (some a14))))∧((zLq (σ23.row (zJ 0 0 0 0 0 0) 1) 103 v1 (.pointer (some a14))))∧((zLq σ23 75 (zN a14 7) (.func (.func f15) ⟨dI⟩ ⟨dH⟩)))∧((zLq (σ23.row (zJ 0 0 0 0 0 0) 1) 75 (zN a14 7) (.func (.func f15) ⟨dI⟩ ⟨dH⟩)))∧((zLq σ23 3 v2 (iV n16)))∧((zLq (σ23.row (zJ 0 0 0 0 0 0) 1) 3 v2 (iV n16)))
theorem xMU {f4:Nat→Std}:let Y1:=σ23.row (zJ 0 0 0 0 0 0) 1;let Y2:=Y1.own σ23.y (zJ n24 n25 n26 n27 n28 n29) 1;let Y3:=Y2.row [.slice who aQ bi,.slice q39 l39 c39] 1;let y0:=zJ n24 n25 n26 n27 n28 n29;let y1:=qg σ23.y 0;let y2:=some ⟨(σ23.y+1),0,none⟩;let y3:Value:=.bool true;let y4:=zJ n32 n33 n34 n35 n36 n37;∀ (H:Ha9 σ σ13 σ23 now f4 v0 v1 a2 v2 a14 q1 q11 who l1 c1 l11 c11 aQ bi n3 n5 n6 n7 n8 n9 n10 n16 n17 n18 n19 n20 n21 n22 n24 n25 n26 n27 n28 n29 b12 f15 dI dH) (h36:lz Y2 4 (qg σ13.y 7) y3) (h37:lz Y2 4 (zN v3 7) y3) (h38:lz Y2 73 v3 (qh y4)) (h39:qn 75 [qh y0,qh y4] Y2 y3 Y2) (h40:lz Y2 29 (qg σ13.y 6) (.slice q39 l39 c39)) (h41:qn 76 [.slice y2 2 2] Y3 (.slice q40 l40 c40) σ41) (h42:qq (evL [pz v3,qh [iV n24,iV n25,iV n26,iV n27,iV n28,iV n29,.slice q40 l40 c40,.bool true]]) σ41 (.store 108 (.tmp 0) (.tmp 1))=some (undef,σ42)) (h43:zG Y2.y [pq σ23.y 0]) (h44:zG Y2.y [pq σ13.y 6]) (h45:zG Y2.y [.slice who aQ bi,.slice q39 l39 c39]) (h46:zG Y3.y [.slice y2 2 2]) (h47:zG σ41.y [pz v3,qh [iV n24,iV n25,iV n26,iV n27,iV n28,iV n29,.slice q40 l40 c40,.bool true]]) (h48:(zLq Y2 73 y1 (qh y0))) (h49:(zLq Y3 73 y1 (qh y0))) (h50:(zLq σ41 73 y1 (qh y0))) (nx:Q (.tuple ⟨[]⟩) σ42) (u1:(aQ:Int)=(l1:Int):=by omega) (u2:I6 (n3+1):=by omega) (bP:v1.block<σ.y:=by omega) (bO:v2.block<σ.y:=by omega),qi 72 [.slice who aQ bi,qh (stL now),pz v0,pz v1,pz v2,pz v3,pz v4,pz v5] σ Q:=
 let y0:=zJ n24 n25 n26 n27 n28 n29;let y1:=qg σ23.y 0;let y3:Value:=.bool true;let y4:=zJ n32 n33 n34 n35 n36 n37;fun H h36 h37 h38 h39 h40 h41 h42 h43 h44 h45 h46 h47 h48 h49 h50 nx u1 u2 bP bO=>match H with|⟨h1,h2,h3,h4,h5,h6,h7,h8,h9,h10,h11,h12,h13,h14,h15,h16,h17,h18,h19,h20,h21,h22,h23,h24,h25,h26,h27,h28,h29,h30,h31,h32,h33,h34,h35⟩=>let s1:=σ.row (stL now) 4;let s2:=σ13.row [iV 0,iV 0,iV 0,iV 0,iV 0,iV 0,.slice none 0 0,.bool false] 8;let s3:=s2.own σ13.y [iV n5,iV n6,iV n7,iV n8,iV n9,iV n10,.slice q11 l11 c11,.bool b12] 8;let s4:=σ23.row (zJ 0 0 0 0 0 0) 1;let s5:=s4.own σ23.y y0 1;zI [.g,.g,.g,.l (.slice q1 l1 c1),.g,.b true,.l (pz a2),.g,.l (iV n3),.n (n3+1),.l (pz a2),.g,.l (iV n3),.l (qh (stL now)),.c (qh (stL f4)) s1,.g,.c (qh [iV n5,iV n6,iV n7,iV n8,iV n9,iV n10,.slice q11 l11 c11,.bool b12]) σ13,.g,.e undef s3,.g,.l (qh (zJ n5 n6 n7 n8 n9 n10)),.l (pz a14),.g,.g,.l (.func (.func f15) ⟨dI⟩ ⟨dH⟩),.g,.l (iV n16),.g,.c (qh (zJ n17 n18 n19 n20 n21 n22)) σ23,.c (qh y0) σ23,.g,.e undef s5,.g,.l y3,.g,.g,.l y3,.g,.g,.l (qh y0),.g,.l (qh y4),.c y3 s5,.g,.g,.l (qh y0),.g,.g,.l (.slice q39 l39 c39),.g,.c (.slice q40 l40 c40) σ41,.g,.e undef σ42] (kd (an3 h1 (xH u1) h2 (an6 h3 (w64 u2) h2 h3 h4 h5 (an6 h6 ((zC _ _ _).store (vs:=[iV n5,iV n6,iV n7,iV n8,iV n9,iV n10,.slice q11 l11 c11,.bool b12]) rfl uA rfl (nle rfl) rfl:qq (evL [pq σ13.y 0,qh [iV n5,iV n6,iV n7,iV n8,iV n9,iV n10,.slice q11 l11 c11,.bool b12]]) s2 (.store 108 (.tmp 0) (.tmp 1))=some (undef,s3)) ((zE (zO (vK bP 1)) zH):zG s1.y [pz v1]) ((zE (zO (vK bO 1)) zH):zG s1.y [pz v2]) ((zE (zO (vK bP 1)) zH):zG s1.y [pz v1]) ((zE (zO (vK bO 1)) zH):zG s1.y [pz v2]) (an6 ((zE (zO (nlt σ.y 0 1 rfl)) zH):zG s1.y [pq σ.y 0]) h7 h8 h9 (⟨⟨(vK bP 1),rfl⟩,h2⟩:(zLq s1 103 v1 (pz a2))) (⟨⟨(vK bP 1),rfl⟩,h2⟩:(zLq s1 103 v1 (pz a2))) (an6 h10 h11 (⟨⟨(vK bO 1),rfl⟩,h3⟩:(zLq s1 3 v2 (iV n3))) (⟨⟨(vK bO 1),rfl⟩,h3⟩:(zLq s1 3 v2 (iV n3))) h12 h13 (an6 h10 h11 h12 h13 h14 h15 (an6 ((zC _ _ _).put.rw.ldN zCW xZ (k:=0) rfl rfl (nle rfl):lz s3 73 (qg σ13.y 0) (qh (zJ n5 n6 n7 n8 n9 n10))) h16 h17 h18 h19 h20 (an6 ((zC _ _ _).store (vs:=y0) rfl xZ rfl (nle rfl) rfl:qq (evL [pq σ23.y 0,qh y0]) s4 (.store 73 (.tmp 0) (.tmp 1))=some (undef,s5)) h21 h22 h23 h24 h25 (an6 ((zE (yL rfl) (zE (yL rfl) zH)):zG σ23.y [qh (zJ n5 n6 n7 n8 n9 n10),qh (zJ n17 n18 n19 n20 n21 n22)]) h26 h27 h28 h28 h29 (an6 h30 h31 h32 h33 h34 h35 (an6 h36 h37 ((zC _ _ _).put.rw.ldN zCW xZ (k:=0) rfl rfl (nle rfl):lz s5 73 y1 (qh y0)) h38 h39 ((zC _ _ _).put.rw.ldN zCW xZ (k:=0) rfl rfl (nle rfl):lz s5 73 y1 (qh y0)) (an6 h40 h41 h42 h43 h44 h45 (an6 h46 h47 h48 h49 h49 h50 nx))))))))))))))
theorem xMT {f4:Nat→Std}:let Y1:=σ23.row (zJ 0 0 0 0 0 0) 1;let Y2:=Y1.own σ23.y (zJ n24 n25 n26 n27 n28 n29) 1;let y0:=zJ n24 n25 n26 n27 n28 n29;let y1:=zJ n32 n33 n34 n35 n36 n37;∀ (H:Ha9 σ σ13 σ23 now f4 v0 v1 a2 v2 a14 q1 q11 who l1 c1 l11 c11 aQ bi n3 n5 n6 n7 n8 n9 n10 n16 n17 n18 n19 n20 n21 n22 n24 n25 n26 n27 n28 n29 b12 f15 dI dH) (h36:lz Y2 4 (qg σ13.y 7) (.bool true)) (h37:lz Y2 4 (zN v3 7) (.bool true)) (h38:lz Y2 73 v3 (qh y1)) (h39:qn 75 [qh y0,qh y1] Y2 (.bool false) Y2) (nx:Q (.tuple ⟨[]⟩) Y2) (u1:(aQ:Int)=(l1:Int):=by omega) (u2:I6 (n3+1):=by omega) (bP:v1.block<σ.y:=by omega) (bO:v2.block<σ.y:=by omega),qi 72 [.slice who aQ bi,qh (stL now),pz v0,pz v1,pz v2,pz v3,pz v4,pz v5] σ Q:=
 let y0:=zJ n24 n25 n26 n27 n28 n29;let y1:=zJ n32 n33 n34 n35 n36 n37;fun H h36 h37 h38 h39 nx u1 u2 bP bO=>match H with|⟨h1,h2,h3,h4,h5,h6,h7,h8,h9,h10,h11,h12,h13,h14,h15,h16,h17,h18,h19,h20,h21,h22,h23,h24,h25,h26,h27,h28,h29,h30,h31,h32,h33,h34,h35⟩=>let s1:=σ.row (stL now) 4;let s2:=σ13.row [iV 0,iV 0,iV 0,iV 0,iV 0,iV 0,.slice none 0 0,.bool false] 8;let s3:=s2.own σ13.y [iV n5,iV n6,iV n7,iV n8,iV n9,iV n10,.slice q11 l11 c11,.bool b12] 8;let s4:=σ23.row (zJ 0 0 0 0 0 0) 1;let s5:=s4.own σ23.y y0 1;zI [.g,.g,.g,.l (.slice q1 l1 c1),.g,.b true,.l (pz a2),.g,.l (iV n3),.n (n3+1),.l (pz a2),.g,.l (iV n3),.l (qh (stL now)),.c (qh (stL f4)) s1,.g,.c (qh [iV n5,iV n6,iV n7,iV n8,iV n9,iV n10,.slice q11 l11 c11,.bool b12]) σ13,.g,.e undef s3,.g,.l (qh (zJ n5 n6 n7 n8 n9 n10)),.l (pz a14),.g,.g,.l (.func (.func f15) ⟨dI⟩ ⟨dH⟩),.g,.l (iV n16),.g,.c (qh (zJ n17 n18 n19 n20 n21 n22)) σ23,.c (qh y0) σ23,.g,.e undef s5,.g,.l (.bool true),.g,.g,.l (.bool true),.g,.g,.l (qh y0),.g,.l (qh y1),.c (.bool false) s5,.g,.g] (kd (an2 h1 (xH u1) (an6 h2 h3 (w64 u2) h2 h3 h4 (an6 h5 h6 ((zC _ _ _).store (vs:=[iV n5,iV n6,iV n7,iV n8,iV n9,iV n10,.slice q11 l11 c11,.bool b12]) rfl uA rfl (nle rfl) rfl:qq (evL [pq σ13.y 0,qh [iV n5,iV n6,iV n7,iV n8,iV n9,iV n10,.slice q11 l11 c11,.bool b12]]) s2 (.store 108 (.tmp 0) (.tmp 1))=some (undef,s3)) ((zE (zO (vK bP 1)) zH):zG s1.y [pz v1]) ((zE (zO (vK bO 1)) zH):zG s1.y [pz v2]) ((zE (zO (vK bP 1)) zH):zG s1.y [pz v1]) (an6 ((zE (zO (vK bO 1)) zH):zG s1.y [pz v2]) ((zE (zO (nlt σ.y 0 1 rfl)) zH):zG s1.y [pq σ.y 0]) h7 h8 h9 (⟨⟨(vK bP 1),rfl⟩,h2⟩:(zLq s1 103 v1 (pz a2))) (an6 (⟨⟨(vK bP 1),rfl⟩,h2⟩:(zLq s1 103 v1 (pz a2))) h10 h11 (⟨⟨(vK bO 1),rfl⟩,h3⟩:(zLq s1 3 v2 (iV n3))) (⟨⟨(vK bO 1),rfl⟩,h3⟩:(zLq s1 3 v2 (iV n3))) h12 (an6 h13 h10 h11 h12 h13 h14 (an6 h15 ((zC _ _ _).put.rw.ldN zCW xZ (k:=0) rfl rfl (nle rfl):lz s3 73 (qg σ13.y 0) (qh (zJ n5 n6 n7 n8 n9 n10))) h16 h17 h18 h19 (an6 h20 ((zC _ _ _).store (vs:=y0) rfl xZ rfl (nle rfl) rfl:qq (evL [pq σ23.y 0,qh y0]) s4 (.store 73 (.tmp 0) (.tmp 1))=some (undef,s5)) h21 h22 h23 h24 (an6 h25 ((zE (yL rfl) (zE (yL rfl) zH)):zG σ23.y [qh (zJ n5 n6 n7 n8 n9 n10),qh (zJ n17 n18 n19 n20 n21 n22)]) h26 h27 h28 h28 (an6 h29 h30 h31 h32 h33 h34 (an6 h35 h36 h37 ((zC _ _ _).put.rw.ldN zCW xZ (k:=0) rfl rfl (nle rfl):lz s5 73 (qg σ23.y 0) (qh y0)) h38 h39 nx))))))))))))
theorem xMS {f4:Nat→Std}:let Y1:=σ23.row (zJ 0 0 0 0 0 0) 1;let Y2:=Y1.own σ23.y (zJ n24 n25 n26 n27 n28 n29) 1;let Y3:=Y2.row [.slice who aQ bi,.slice q32 l32 c32] 1;let y0:=zJ n24 n25 n26 n27 n28 n29;let y1:=some ⟨(σ23.y+1),0,none⟩;let y2:=qg σ23.y 0;∀ (H:Ha9 σ σ13 σ23 now f4 v0 v1 a2 v2 a14 q1 q11 who l1 c1 l11 c11 aQ bi n3 n5 n6 n7 n8 n9 n10 n16 n17 n18 n19 n20 n21 n22 n24 n25 n26 n27 n28 n29 b12 f15 dI dH) (h36:lz Y2 4 (qg σ13.y 7) (.bool true)) (h37:lz Y2 4 (zN v3 7) (.bool false)) (h38:lz Y2 29 (qg σ13.y 6) (.slice q32 l32 c32)) (h39:qn 76 [.slice y1 2 2] Y3 (.slice q33 l33 c33) σ34) (h40:qq (evL [pz v3,qh [iV n24,iV n25,iV n26,iV n27,iV n28,iV n29,.slice q33 l33 c33,.bool true]]) σ34 (.store 108 (.tmp 0) (.tmp 1))=some (undef,σ35)) (h41:zG Y2.y [pq σ23.y 0]) (h42:zG Y2.y [pq σ13.y 6]) (h43:zG Y2.y [.slice who aQ bi,.slice q32 l32 c32]) (h44:zG Y3.y [.slice y1 2 2]) (h45:zG σ34.y [pz v3,qh [iV n24,iV n25,iV n26,iV n27,iV n28,iV n29,.slice q33 l33 c33,.bool true]]) (h46:(zLq Y2 73 y2 (qh y0))) (h47:(zLq Y3 73 y2 (qh y0))) (h48:(zLq σ34 73 y2 (qh y0))) (nx:Q (.tuple ⟨[]⟩) σ35) (u1:(aQ:Int)=(l1:Int):=by omega) (u2:I6 (n3+1):=by omega) (bP:v1.block<σ.y:=by omega) (bO:v2.block<σ.y:=by omega),qi 72 [.slice who aQ bi,qh (stL now),pz v0,pz v1,pz v2,pz v3,pz v4,pz v5] σ Q:=
 let y0:=zJ n24 n25 n26 n27 n28 n29;let y2:=qg σ23.y 0;fun H h36 h37 h38 h39 h40 h41 h42 h43 h44 h45 h46 h47 h48 nx u1 u2 bP bO=>match H with|⟨h1,h2,h3,h4,h5,h6,h7,h8,h9,h10,h11,h12,h13,h14,h15,h16,h17,h18,h19,h20,h21,h22,h23,h24,h25,h26,h27,h28,h29,h30,h31,h32,h33,h34,h35⟩=>let s1:=σ.row (stL now) 4;let s2:=σ13.row [iV 0,iV 0,iV 0,iV 0,iV 0,iV 0,.slice none 0 0,.bool false] 8;let s3:=s2.own σ13.y [iV n5,iV n6,iV n7,iV n8,iV n9,iV n10,.slice q11 l11 c11,.bool b12] 8;let s4:=σ23.row (zJ 0 0 0 0 0 0) 1;let s5:=s4.own σ23.y y0 1;zI [.g,.g,.g,.l (.slice q1 l1 c1),.g,.b true,.l (pz a2),.g,.l (iV n3),.n (n3+1),.l (pz a2),.g,.l (iV n3),.l (qh (stL now)),.c (qh (stL f4)) s1,.g,.c (qh [iV n5,iV n6,iV n7,iV n8,iV n9,iV n10,.slice q11 l11 c11,.bool b12]) σ13,.g,.e undef s3,.g,.l (qh (zJ n5 n6 n7 n8 n9 n10)),.l (pz a14),.g,.g,.l (.func (.func f15) ⟨dI⟩ ⟨dH⟩),.g,.l (iV n16),.g,.c (qh (zJ n17 n18 n19 n20 n21 n22)) σ23,.c (qh y0) σ23,.g,.e undef s5,.g,.l (.bool true),.g,.g,.l (.bool false),.g,.g,.g,.g,.l (qh y0),.g,.g,.l (.slice q32 l32 c32),.g,.c (.slice q33 l33 c33) σ34,.g,.e undef σ35] (kd (an6 h1 (xH u1) h2 h3 (w64 u2) h2 (an6 h3 h4 h5 h6 ((zC _ _ _).store (vs:=[iV n5,iV n6,iV n7,iV n8,iV n9,iV n10,.slice q11 l11 c11,.bool b12]) rfl uA rfl (nle rfl) rfl:qq (evL [pq σ13.y 0,qh [iV n5,iV n6,iV n7,iV n8,iV n9,iV n10,.slice q11 l11 c11,.bool b12]]) s2 (.store 108 (.tmp 0) (.tmp 1))=some (undef,s3)) ((zE (zO (vK bP 1)) zH):zG s1.y [pz v1]) (an6 ((zE (zO (vK bO 1)) zH):zG s1.y [pz v2]) ((zE (zO (vK bP 1)) zH):zG s1.y [pz v1]) ((zE (zO (vK bO 1)) zH):zG s1.y [pz v2]) ((zE (zO (nlt σ.y 0 1 rfl)) zH):zG s1.y [pq σ.y 0]) h7 h8 (an6 h9 (⟨⟨(vK bP 1),rfl⟩,h2⟩:(zLq s1 103 v1 (pz a2))) (⟨⟨(vK bP 1),rfl⟩,h2⟩:(zLq s1 103 v1 (pz a2))) h10 h11 (⟨⟨(vK bO 1),rfl⟩,h3⟩:(zLq s1 3 v2 (iV n3))) (an6 (⟨⟨(vK bO 1),rfl⟩,h3⟩:(zLq s1 3 v2 (iV n3))) h12 h13 h10 h11 h12 (an6 h13 h14 h15 ((zC _ _ _).put.rw.ldN zCW xZ (k:=0) rfl rfl (nle rfl):lz s3 73 (qg σ13.y 0) (qh (zJ n5 n6 n7 n8 n9 n10))) h16 h17 (an6 h18 h19 h20 ((zC _ _ _).store (vs:=y0) rfl xZ rfl (nle rfl) rfl:qq (evL [pq σ23.y 0,qh y0]) s4 (.store 73 (.tmp 0) (.tmp 1))=some (undef,s5)) h21 h22 (an6 h23 h24 h25 ((zE (yL rfl) (zE (yL rfl) zH)):zG σ23.y [qh (zJ n5 n6 n7 n8 n9 n10),qh (zJ n17 n18 n19 n20 n21 n22)]) h26 h27 (an6 h28 h28 h29 h30 h31 h32 (an6 h33 h34 h35 h36 h37 ((zC _ _ _).put.rw.ldN zCW xZ (k:=0) rfl rfl (nle rfl):lz s5 73 y2 (qh y0)) (an6 h38 h39 h40 h41 h42 h43 (an6 h44 h45 h46 h47 h47 h48 nx)))))))))))))
theorem xMR {f4:Nat→Std}:let y0:=zJ n24 n25 n26 n27 n28 n29;let y1:=(σ23.row (zJ 0 0 0 0 0 0) 1).own σ23.y y0 1;∀ (H:Ha9 σ σ13 σ23 now f4 v0 v1 a2 v2 a14 q1 q11 who l1 c1 l11 c11 aQ bi n3 n5 n6 n7 n8 n9 n10 n16 n17 n18 n19 n20 n21 n22 n24 n25 n26 n27 n28 n29 b12 f15 dI dH) (h36:lz y1 4 (qg σ13.y 7) (.bool false)) (nx:Q (.tuple ⟨[]⟩) y1) (u1:(aQ:Int)=(l1:Int):=by omega) (u2:I6 (n3+1):=by omega) (bP:v1.block<σ.y:=by omega) (bO:v2.block<σ.y:=by omega),qi 72 [.slice who aQ bi,qh (stL now),pz v0,pz v1,pz v2,pz v3,pz v4,pz v5] σ Q :=
 let y0:=zJ n24 n25 n26 n27 n28 n29;fun H h36 nx u1 u2 bP bO=>match H with|⟨h1,h2,h3,h4,h5,h6,h7,h8,h9,h10,h11,h12,h13,h14,h15,h16,h17,h18,h19,h20,h21,h22,h23,h24,h25,h26,h27,h28,h29,h30,h31,h32,h33,h34,h35⟩=>let s1:=σ.row (stL now) 4;let s2:=σ13.row [iV 0,iV 0,iV 0,iV 0,iV 0,iV 0,.slice none 0 0,.bool false] 8;let s3:=s2.own σ13.y [iV n5,iV n6,iV n7,iV n8,iV n9,iV n10,.slice q11 l11 c11,.bool b12] 8;let s4:=σ23.row (zJ 0 0 0 0 0 0) 1;let s5:=s4.own σ23.y y0 1;zI [.g,.g,.g,.l (.slice q1 l1 c1),.g,.b true,.l (pz a2),.g,.l (iV n3),.n (n3+1),.l (pz a2),.g,.l (iV n3),.l (qh (stL now)),.c (qh (stL f4)) s1,.g,.c (qh [iV n5,iV n6,iV n7,iV n8,iV n9,iV n10,.slice q11 l11 c11,.bool b12]) σ13,.g,.e undef s3,.g,.l (qh (zJ n5 n6 n7 n8 n9 n10)),.l (pz a14),.g,.g,.l (.func (.func f15) ⟨dI⟩ ⟨dH⟩),.g,.l (iV n16),.g,.c (qh (zJ n17 n18 n19 n20 n21 n22)) σ23,.c (qh y0) σ23,.g,.e undef s5,.g,.l (.bool false),.g,.g] (kd (an4 h1 (xH u1) h2 h3 (an6 (w64 u2) h2 h3 h4 h5 h6 (an6 ((zC _ _ _).store (vs:=[iV n5,iV n6,iV n7,iV n8,iV n9,iV n10,.slice q11 l11 c11,.bool b12]) rfl uA rfl (nle rfl) rfl:qq (evL [pq σ13.y 0,qh [iV n5,iV n6,iV n7,iV n8,iV n9,iV n10,.slice q11 l11 c11,.bool b12]]) s2 (.store 108 (.tmp 0) (.tmp 1))=some (undef,s3)) ((zE (zO (vK bP 1)) zH):zG s1.y [pz v1]) ((zE (zO (vK bO 1)) zH):zG s1.y [pz v2]) ((zE (zO (vK bP 1)) zH):zG s1.y [pz v1]) ((zE (zO (vK bO 1)) zH):zG s1.y [pz v2]) ((zE (zO (nlt σ.y 0 1 rfl)) zH):zG s1.y [pq σ.y 0]) (an6 h7 h8 h9 (⟨⟨(vK bP 1),rfl⟩,h2⟩:(zLq s1 103 v1 (pz a2))) (⟨⟨(vK bP 1),rfl⟩,h2⟩:(zLq s1 103 v1 (pz a2))) h10 (an6 h11 (⟨⟨(vK bO 1),rfl⟩,h3⟩:(zLq s1 3 v2 (iV n3))) (⟨⟨(vK bO 1),rfl⟩,h3⟩:(zLq s1 3 v2 (iV n3))) h12 h13 h10 (an6 h11 h12 h13 h14 h15 ((zC _ _ _).put.rw.ldN zCW xZ (k:=0) rfl rfl (nle rfl):lz s3 73 (qg σ13.y 0) (qh (zJ n5 n6 n7 n8 n9 n10))) (an6 h16 h17 h18 h19 h20 ((zC _ _ _).store (vs:=y0) rfl xZ rfl (nle rfl) rfl:qq (evL [pq σ23.y 0,qh y0]) s4 (.store 73 (.tmp 0) (.tmp 1))=some (undef,s5)) (an6 h21 h22 h23 h24 h25 ((zE (yL rfl) (zE (yL rfl) zH)):zG σ23.y [qh (zJ n5 n6 n7 n8 n9 n10),qh (zJ n17 n18 n19 n20 n21 n22)]) (an6 h26 h27 h28 h28 h29 h30 (an6 h31 h32 h33 h34 h35 h36 nx)))))))))))
theorem yOM (hb:∀ k bS σ,Inv k bS σ→zQA who aQ bi v0 v4 v5 BA l9 bS σ (NX1 Inv k) Q0):∀ k bS σ,Inv k bS σ→zPZ who aQ bi v0 v4 v5 BA l9 bS σ Q0 :=
 xJ (ai (wI 0) trivial) hb
theorem xEX:let s1:=σA.row (zK 0 0 0 0) 4;let s2:=s1.own σA.y (zK nO nP nQ nW) 4;let Y1:=σG.row [iV bS] 1;∀ (h1:lz σ 120 v5 (.func (.func fE) ⟨fU⟩ ⟨fT⟩)) (h2:lz σ 29 v0 (.slice (some fg) lG cF)) (h3:lz σ 3 (zN fg (Int.toNat (aQ:Int)*1)) (iV nD)) (h4:lz σ 87 ⟨BA,0+Int.toNat bS*4,none⟩ (qh (zK nB nA nE nK))) (h5:qn fE (fU ++ (iV bS::iV nD::(qh (zK nB nA nE nK))::fT)) σ (.tuple ⟨[qh (zK nO nP nQ nW),.bool true]⟩) σA) (h6:zG σ.y [.func (.func fE) ⟨fU⟩ ⟨fT⟩,iV bS,iV nD,qh (zK nB nA nE nK)]) (h7:zG s1.y [pq σA.y 0,qh (zK nO nP nQ nW)]) (h8:(zLq σA 120 v5 (.func (.func fE) ⟨fU⟩ ⟨fT⟩))) (h9:(zLq s1 120 v5 (.func (.func fE) ⟨fU⟩ ⟨fT⟩))) (h10:(zLq σA 29 v0 (.slice (some fg) lG cF))) (h11:(zLq s1 29 v0 (.slice (some fg) lG cF))) (h12:((zG σA.y [.slice who aQ bi]∧zL RD (iV (aQ:Int))=true)∧Callee.builtin .len=Callee.builtin .len∧xP Pg (evL [.slice who aQ bi]) σA (.call { callee:=.builtin .len,args:=⟨vA 1⟩,argTypes:=⟨[29]⟩ })=some (iV (aQ:Int)))) (h13:((zG s1.y [.slice who aQ bi]∧zL RD (iV (aQ:Int))=true)∧Callee.builtin .len=Callee.builtin .len∧xP Pg (evL [.slice who aQ bi]) s1 (.call { callee:=.builtin .len,args:=⟨vA 1⟩,argTypes:=⟨[29]⟩ })=some (iV (aQ:Int)))) (h14:(zLq σA 3 (zN fg (Int.toNat (aQ:Int)*1)) (iV nD))) (h15:(zLq s1 3 (zN fg (Int.toNat (aQ:Int)*1)) (iV nD))) (h16:(zLq σA 87 ⟨BA,0+Int.toNat bS*4,none⟩ (qh (zK nB nA nE nK)))) (h17:(zLq s1 87 ⟨BA,0+Int.toNat bS*4,none⟩ (qh (zK nB nA nE nK)))) (h18:lz s2 89 (qg BA 0) (qh (stL fJ))) (h19:qq (evL [pq ((σA.y+1)) 0,qh (stL fJ)]) (s2.row [iV 0,iV 0,iV 0,iV 0,iV 0,iV 0,iV 0,iV 0,iV 0,iV 0,iV 0,iV 0,iV 0,iV 0,iV 0,iV 0,iV 0,iV 0,iV 0,iV 0,iV 0,iV 0,iV 0,iV 0] 4) (.store 89 (.tmp 0) (.tmp 1))=some (undef,σR)) (h20:lz σR 87 (qg σA.y 0) (qh (zK nO nP nQ nW))) (h21:qq (evL [pq ((σA.y+1)) (0+Int.toNat bS*4),qh (zK nO nP nQ nW)]) σR (.store 87 (.tmp 0) (.tmp 1))=some (undef,σG)) (h22:lz σG 121 v4 (.func (.func fF) ⟨fF_a⟩ ⟨fF_c⟩)) (h23:yD Pg 29 29 (.slice who aQ bi) (.slice (some (qg σG.y 0)) 1 1) Y1=some (.slice qY lCB cZ,σQ)) (h24:lz σQ 89 ⟨(σA.y+1),0,none⟩ (qh (stL fH))) (h25:qn fF (fF_a ++ (.slice qY lCB cZ::(qh (stL fH))::fF_c)) σQ (.tuple ⟨[]⟩) σDC) (h26:zG σG.y [pz v4]) (h27:zG Y1.y [.slice who aQ bi,.slice (some (qg σG.y 0)) 1 1]) (h28:zG σQ.y [pq ((σA.y+1)) 0]) (h29:zG σQ.y [.func (.func fF) ⟨fF_a⟩ ⟨fF_c⟩,.slice qY lCB cZ,qh (stL fH)]) (h30:(zLq σG 121 v4 (.func (.func fF) ⟨fF_a⟩ ⟨fF_c⟩))) (h31:(zLq Y1 121 v4 (.func (.func fF) ⟨fF_a⟩ ⟨fF_c⟩))) (h32:(zLq σQ 121 v4 (.func (.func fF) ⟨fF_a⟩ ⟨fF_c⟩))) (h33:(zLq σG 89 ⟨(σA.y+1),0,none⟩ (qh (stL fH)))) (h34:(zLq Y1 89 ⟨(σA.y+1),0,none⟩ (qh (stL fH)))) (h35:(zLq σQ 89 ⟨(σA.y+1),0,none⟩ (qh (stL fH)))) (b_who:∀ a,who=some a→a.block<σ.y) (nx:Nx (bS+1) σDC) (u1:bS<(l9:Int):=by omega) (u2:Ix (aQ:Int) lG:=by omega) (u3:Ix bS 6:=by omega) (u4:I6 (bS+1):=by omega) (fX:v5.block<σ.y:=by omega) (fY:v0.block<σ.y:=by omega) (fQ:fg.block<σ.y:=by omega) (b_BA:BA<σ.y:=by omega),zQA who aQ bi v0 v4 v5 BA l9 bS σ Nx Q0:=
 let s1:=σA.row (zK 0 0 0 0) 4;let s2:=s1.own σA.y (zK nO nP nQ nW) 4;fun h1 h2 h3 h4 h5 h6 h7 h8 h9 h10 h11 h12 h13 h14 h15 h16 h17 h18 h19 h20 h21 h22 h23 h24 h25 h26 h27 h28 h29 h30 h31 h32 h33 h34 h35 b_who nx u1 u2 u3 u4 fX fY fQ b_BA=>kO 0 (bS+1) [.b true,.g,.g,.l (.func (.func fE) ⟨fU⟩ ⟨fT⟩),.g,.l (.slice (some fg) lG cF),.g,.g,.i,.l (iV nD),.g,.i,.l (qh (zK nB nA nE nK)),.c (.tuple ⟨[qh (zK nO nP nQ nW),.bool true]⟩) σA,.g,.g,.g,.g,.e undef s2,.g,.g,.g,.l (qh (stL fJ)),.g,.e undef σR,.g,.l (qh (zK nO nP nQ nW)),.i,.e undef σG,.l (.func (.func fF) ⟨fF_a⟩ ⟨fF_c⟩),.g,.g,.g,.e (.slice qY lCB cZ) σQ,.l (qh (stL fH)),.c (.tuple ⟨[]⟩) σDC,.n (bS+1),.g] (fun _ f=>an6 (zR u1) h1 h2 u2 h3 u3 (an6 h4 h5 ((zC _ _ _).store (vs:=(zK nO nP nQ nW)) rfl xN rfl (nle rfl) rfl:qq (evL [pq σA.y 0,qh (zK nO nP nQ nW)]) s1 (.store 87 (.tmp 0) (.tmp 1))=some (undef,s2)) ((zE (zO fX) zH):zG σ.y [pz v5]) ((zE (zO fY) zH):zG σ.y [pz v0]) ((zE (yH b_who) zH):zG σ.y [.slice who aQ bi]) (an6 ((zE (zO fQ) zH):zG σ.y [pz (zN fg (Int.toNat (aQ:Int)*1))]) ((zE (zO b_BA) zH):zG σ.y [pq BA (0+Int.toNat bS*4)]) h6 h7 h8 h9 (an6 h10 h11 h12 h13 h14 h15 (an6 h16 h17 h18 h19 h20 u3 (an6 h21 h22 h23 h24 h25 h26 (an6 h27 h28 h29 h30 h31 h31 (an6 h32 h33 h34 h34 h35 (w64 u4) f)))))))) nx
theorem xEW:let s1:=σA.row (zK 0 0 0 0) 4;let s2:=s1.own σA.y (zK nO nP nQ nW) 4;∀ (h1:lz σ 120 v5 (.func (.func fE) ⟨fU⟩ ⟨fT⟩)) (h2:lz σ 29 v0 (.slice (some fg) lG cF)) (h3:lz σ 3 (zN fg (Int.toNat (aQ:Int)*1)) (iV nD)) (h4:lz σ 87 ⟨BA,0+Int.toNat bS*4,none⟩ (qh (zK nB nA nE nK))) (h5:qn fE (fU ++ (iV bS::iV nD::(qh (zK nB nA nE nK))::fT)) σ (.tuple ⟨[qh (zK nO nP nQ nW),.bool false]⟩) σA) (h6:zG σ.y [.func (.func fE) ⟨fU⟩ ⟨fT⟩,iV bS,iV nD,qh (zK nB nA nE nK)]) (h7:zG s1.y [pq σA.y 0,qh (zK nO nP nQ nW)]) (h8:(zLq σA 120 v5 (.func (.func fE) ⟨fU⟩ ⟨fT⟩))) (h9:(zLq s1 120 v5 (.func (.func fE) ⟨fU⟩ ⟨fT⟩))) (h10:(zLq σA 29 v0 (.slice (some fg) lG cF))) (h11:(zLq s1 29 v0 (.slice (some fg) lG cF))) (h12:((zG σA.y [.slice who aQ bi]∧zL RD (iV (aQ:Int))=true)∧Callee.builtin .len=Callee.builtin .len∧xP Pg (evL [.slice who aQ bi]) σA (.call { callee:=.builtin .len,args:=⟨vA 1⟩,argTypes:=⟨[29]⟩ })=some (iV (aQ:Int)))) (h13:((zG s1.y [.slice who aQ bi]∧zL RD (iV (aQ:Int))=true)∧Callee.builtin .len=Callee.builtin .len∧xP Pg (evL [.slice who aQ bi]) s1 (.call { callee:=.builtin .len,args:=⟨vA 1⟩,argTypes:=⟨[29]⟩ })=some (iV (aQ:Int)))) (h14:(zLq σA 3 (zN fg (Int.toNat (aQ:Int)*1)) (iV nD))) (h15:(zLq s1 3 (zN fg (Int.toNat (aQ:Int)*1)) (iV nD))) (h16:(zLq σA 87 ⟨BA,0+Int.toNat bS*4,none⟩ (qh (zK nB nA nE nK)))) (h17:(zLq s1 87 ⟨BA,0+Int.toNat bS*4,none⟩ (qh (zK nB nA nE nK)))) (b_who:∀ a,who=some a→a.block<σ.y) (nx:Nx (bS+1) s2) (u1:bS<(l9:Int):=by omega) (u2:Ix (aQ:Int) lG:=by omega) (u3:Ix bS 6:=by omega) (u4:I6 (bS+1):=by omega) (fX:v5.block<σ.y:=by omega) (fY:v0.block<σ.y:=by omega) (fQ:fg.block<σ.y:=by omega) (b_BA:BA<σ.y:=by omega),zQA who aQ bi v0 v4 v5 BA l9 bS σ Nx Q0:=
 let s1:=σA.row (zK 0 0 0 0) 4;let s2:=s1.own σA.y (zK nO nP nQ nW) 4;fun h1 h2 h3 h4 h5 h6 h7 h8 h9 h10 h11 h12 h13 h14 h15 h16 h17 b_who nx u1 u2 u3 u4 fX fY fQ b_BA=>kO 0 (bS+1) [.b true,.g,.g,.l (.func (.func fE) ⟨fU⟩ ⟨fT⟩),.g,.l (.slice (some fg) lG cF),.g,.g,.i,.l (iV nD),.g,.i,.l (qh (zK nB nA nE nK)),.c (.tuple ⟨[qh (zK nO nP nQ nW),.bool false]⟩) σA,.g,.g,.g,.g,.e undef s2,.g,.g,.g,.n (bS+1),.g] (fun _ f=>an3 (zR u1) h1 h2 (an6 u2 h3 u3 h4 h5 ((zC _ _ _).store (vs:=(zK nO nP nQ nW)) rfl xN rfl (nle rfl) rfl:qq (evL [pq σA.y 0,qh (zK nO nP nQ nW)]) s1 (.store 87 (.tmp 0) (.tmp 1))=some (undef,s2)) (an6 ((zE (zO fX) zH):zG σ.y [pz v5]) ((zE (zO fY) zH):zG σ.y [pz v0]) ((zE (yH b_who) zH):zG σ.y [.slice who aQ bi]) ((zE (zO fQ) zH):zG σ.y [pz (zN fg (Int.toNat (aQ:Int)*1))]) ((zE (zO b_BA) zH):zG σ.y [pq BA (0+Int.toNat bS*4)]) h6 (an6 h7 h8 h9 h10 h11 h12 (an6 h13 h14 h15 h16 h17 (w64 u4) f))))) nx
theorem xEV (nx:Q0 σ) (u1:¬ bS<(l9:Int):=by omega):zQA who aQ bi v0 v4 v5 BA l9 bS σ Nx Q0 :=
 kO 1 () [.b false] (fun _ f=>ai (zT u1) f) nx
theorem xMQ {f4:FuncId}:let s1:=σ.row (stL now) 4;let s2:=s1.row [iV (-1)] 1;let y0:=qh (stL now);let y1:=qg σ.y 0;∀ (h1:lz s1 29 v0 (.slice q1 l1 c1)) (h2:lz s1 103 v1 (pz a2)) (h3:lz s1 4 (zN a2 6) (.bool true)) (h4:lz s1 121 v4 (.func (.func f4) ⟨f4_a⟩ ⟨f4_c⟩)) (h5:yD Pg 29 29 (.slice who aQ bi) (.slice (some ⟨(σ.y+1),0,none⟩) 1 1) s2=some (.slice q6 l6 c6,σ5)) (h6:lz σ5 89 y1 y0) (h7:qn f4 (f4_a ++ (.slice q6 l6 c6::y0::f4_c)) σ5 (.tuple ⟨[]⟩) σ7) (h8:zG σ5.y [pq σ.y 0]) (h9:zG σ5.y [.func (.func f4) ⟨f4_a⟩ ⟨f4_c⟩,.slice q6 l6 c6,qh (stL now)]) (h10:(zLq s1 121 v4 (.func (.func f4) ⟨f4_a⟩ ⟨f4_c⟩))) (h11:(zLq s2 121 v4 (.func (.func f4) ⟨f4_a⟩ ⟨f4_c⟩))) (h12:(zLq σ5 121 v4 (.func (.func f4) ⟨f4_a⟩ ⟨f4_c⟩))) (h13:lz s1 89 y1 y0) (h14:lz s2 89 y1 y0) (h15:(zLq σ5 89 y1 y0)) (h16:lz σ7 103 v1 (pz a8)) (h17:lz σ7 41 (zN a8 2) (.slice q9 l9 c9)) (b_who:∀ a,who=some a→a.block<σ.y) (hL:zPZ who aQ bi v0 v4 v5 σ.y l9 0 σ7 P0) (k0:∀ σ',P0 σ'→zHM who aQ bi v0 v4 v5 σ.y l9 σ' Q) (u1:¬ (aQ:Int)=(l1:Int):=by omega) (b_v4_block:v4.block<σ.y:=by omega),qi 72 [.slice who aQ bi,qh (stL now),pz v0,pz v1,pz v2,pz v3,pz v4,pz v5] σ Q:=
 let s1:=σ.row (stL now) 4;let s2:=s1.row [iV (-1)] 1;let y0:=qh (stL now);let y1:=qg σ.y 0;fun h1 h2 h3 h4 h5 h6 h7 h8 h9 h10 h11 h12 h13 h14 h15 h16 h17 b_who hL k0 u1 b_v4_block=>zI [.g,.g,.g,.l (.slice q1 l1 c1),.g,.b false,.l (pz a2),.g,.g,.l (.bool true),.l (.func (.func f4) ⟨f4_a⟩ ⟨f4_c⟩),.g,.g,.e (.slice q6 l6 c6) σ5,.l y0,.c (.tuple ⟨[]⟩) σ7,.l (pz a8),.g,.g,.g,.l (.slice q9 l9 c9),.g,.g,.lf 110 (zEC who aQ bi v0 v4 v5 σ.y l9 0) [zHL who aQ bi v0 v4 v5 σ.y l9 P0]] (kd (an4 h1 (xL u1) h2 h3 (an6 h4 h5 h6 h7 ((zE (zO (vK b_v4_block 1)) zH):zG s1.y [pz v4]) ((zE (zCA b_who 2) (zE (zEF (nlt σ.y 1 2 rfl)) zH)):zG s2.y [.slice who aQ bi,.slice (some ⟨(σ.y+1),0,none⟩) 1 1]) (an6 h8 h9 h10 h11 h11 h12 (an6 (⟨⟨(nlt σ.y 0 1 rfl),rfl⟩,h13⟩:(zLq s1 89 y1 y0)) (⟨⟨(nlt σ.y 0 2 rfl),rfl⟩,h14⟩:(zLq s2 89 y1 y0)) (⟨⟨(nlt σ.y 0 2 rfl),rfl⟩,h14⟩:(zLq s2 89 y1 y0)) h15 h16 h17 (ai (ai tt (ai (arf (zEC who aQ bi v0 v4 v5 σ.y l9 0)) hL)) (ai (kz0 k0) trivial)))))))
theorem xMP:let Y1:=σ.row (stL now) 4;∀ (h1:lz Y1 29 v0 (.slice q1 l1 c1)) (h2:lz Y1 103 v1 (pz a2)) (h3:lz Y1 4 (zN a2 6) (.bool false)) (h4:lz Y1 41 (zN a2 2) (.slice q4 l4 c4)) (hL:zPZ who aQ bi v0 v4 v5 σ.y l4 0 Y1 P0) (k0:∀ σ',P0 σ'→zHM who aQ bi v0 v4 v5 σ.y l4 σ' Q) (u1:¬ (aQ:Int)=(l1:Int):=by omega),qi 72 [.slice who aQ bi,qh (stL now),pz v0,pz v1,pz v2,pz v3,pz v4,pz v5] σ Q:=
 fun h1 h2 h3 h4 hL k0 u1=>zI [.g,.g,.g,.l (.slice q1 l1 c1),.g,.b false,.l (pz a2),.g,.g,.l (.bool false),.l (pz a2),.g,.g,.g,.l (.slice q4 l4 c4),.g,.g,.lf 110 (zEC who aQ bi v0 v4 v5 σ.y l4 0) [zHL who aQ bi v0 v4 v5 σ.y l4 P0]] (kd (an6 h1 (xL u1) h2 h3 h2 h4 (ai (ai tt (ai (arf (zEC who aQ bi v0 v4 v5 σ.y l4 0)) hL)) (ai (kz0 k0) trivial))))
theorem yOL (nx:Q (.tuple ⟨[]⟩) σ):zHM who aQ bi v0 v4 v5 BA l9 σ Q :=
 sK [] nx
end
structure GvK where
 K:PlK
 D:Nat
 r:Nat
 st0:Nat→Std
 pu:Option Addr
 cu:Nat
 Bu:Nat
 Bq:Nat
 Bs:Nat
 Bo:Nat
 Bg:Nat
 By:Nat
 n1:Nat
abbrev GvK.du (G:GvK):List Nat:=yC G.K.w G.D G.K.l
abbrev GvK.args (G:GvK):List Value:=[.pointer (some ⟨G.Bu,0,none⟩),.pointer (some ⟨G.Bq,0,none⟩),.pointer (some ⟨G.Bs,0,none⟩),.pointer (some ⟨G.Bo,0,none⟩),.pointer (some ⟨G.Bg,0,none⟩),.pointer (some ⟨G.By,0,none⟩)]
structure GvK.Ok (G:GvK):Prop where
 ok:G.K.Ok
 dr:G.D+(G.r+1)=G.K.n
 f0:G.K.σf.y≤G.Bo
 f1:G.K.σf.y≤G.n1
 lt:G.Bu<G.n1∧G.Bq<G.n1∧G.Bs<G.n1∧G.Bo<G.n1∧G.Bg<G.n1∧G.By<G.n1∧G.K.Bp<G.n1∧G.K.bm<G.n1
 no:G.Bo≠G.Bu∧G.Bo≠G.Bq∧G.Bo≠G.Bs∧G.Bo≠G.Bg∧G.Bo≠G.By∧G.Bo≠G.K.Bp∧G.Bo≠G.K.bm
 nm:G.K.bm≠G.Bu∧G.K.bm≠G.Bq∧G.K.bm≠G.Bs∧G.K.bm≠G.Bg∧G.K.bm≠G.By
structure GvW (G:GvK) (z:St) (F:Key→Option EndR) (X:Nat→Prop) (e:EndR):Prop where
 w:PlW G.K z F X
 ou:Row z ⟨G.Bu,0,none⟩ [.slice G.pu G.du.length G.cu]
 du:yF z G.pu G.du.length (zNH G.du)
 ux:∀ b,AtP G.pu b→X b
 oq:Row z ⟨G.Bq,0,none⟩ [.pointer (some ⟨G.K.Bp,0,none⟩)]
 os:Row z ⟨G.Bs,0,none⟩ (iV (G.D:Int)::stL G.st0)
 og:Row z ⟨G.Bg,0,none⟩ [.func (.func 72) ⟨[]⟩ ⟨G.args⟩]
 oy:Row z ⟨G.By,0,none⟩ [.func (.func 71) ⟨[.pointer (some ⟨G.K.Bp,0,none⟩)]⟩ ⟨[]⟩]
 oo:Own z G.Bo (zEJ e) 8
 xo:∀ b,X b→b≠G.Bo
 nz:G.n1≤z.y
section
variable {G:GvK} {z z':St} {F:Key→Option EndR} {X:Nat→Prop} {e:EndR}
theorem GvW.le (h:GvW G z F X e) (k:Le z z'):GvW G z' F X e :=
 ⟨h.w.le k,h.ou.le k,SlV.le h.du k,h.ux,h.oq.le k,h.os.le k,h.og.le k,h.oy.le k,h.oo.le k,h.xo,Nat.le_trans h.nz k.y⟩
theorem GvW.only {S:Nat→Prop} (ok:G.Ok) (h:GvW G z F X e) (k:Only S z z') (hS:∀ b,S b→G.n1≤b∧¬ X b):GvW G z' F X e:=by
 obtain ⟨l1,l2,l3,l4,l5,l6,l7,l8⟩:=ok.lt;have no:∀ b,b<G.n1→¬ S b:=fun b hb hs=>by have:=(hS b hs).1;omega
 have f1:=ok.f1;exact ⟨h.w.only k (fun b hs=>by have:=(hS b hs).1;omega) (no _ l7) (no _ l8) (fun b hb hs=>(hS b hs).2 hb),k.rw' h.ou (no _ l1),k.slv' h.du (fun a e hs=>(hS _ hs).2 (h.ux _ ⟨a,e,rfl⟩)),h.ux,k.rw' h.oq (no _ l2),k.rw' h.os (no _ l3),k.rw' h.og (no _ l5),k.rw' h.oy (no _ l6),k.own' h.oo (no _ l4),h.xo,Nat.le_trans h.nz k.y⟩
theorem GvW.best {F':Key→Option EndR} {X':Nat→Prop} (ok:G.Ok) (h:GvW G z F X e) (k:Only (·=G.K.bm) z z') (hw:PlW G.K z' F' X') (h1:∀ b,X b→X' b) (h2:∀ b,X' b→X b∨z.y≤b):GvW G z' F' X' e:=by
 obtain ⟨n1,n2,n3,n4,n5⟩:=ok.nm;obtain ⟨o1,o2,o3,o4,o5,o6,o7⟩:=ok.no;obtain ⟨l1,l2,l3,l4,l5,l6,l7,l8⟩:=ok.lt;have hnz:=h.nz;exact ⟨hw,k.rw' h.ou (fun e=>n1 e.symm),k.slv' h.du (fun a e hs=>(h.w.xb _ (h.ux _ ⟨a,e,rfl⟩)).2 hs),fun b hb=>h1 b (h.ux b hb),k.rw' h.oq (fun e=>n2 e.symm),k.rw' h.os (fun e=>n3 e.symm),k.rw' h.og (fun e=>n4 e.symm),k.rw' h.oy (fun e=>n5 e.symm),k.own' h.oo o7,fun b hb=>by
  rcases h2 b hb with h3 | h3
  ·exact h.xo b h3
  ·omega,Nat.le_trans h.nz k.y⟩
structure GvR (G:GvK) (z:St) (F:Key→Option EndR) (X:Nat→Prop) (e:EndR) (o:Option (List Int × List Int)) (C:zIB) (z':St) (F':Key→Option EndR) (X':Nat→Prop) (e':EndR) (o':Option (List Int × List Int)):Prop where
 w:GvW G z' F' X' e'
 ep:EndP z' X' e' o'
 bo:xU 6 C o'
 x1:∀ b,X b→X' b
 x2:∀ b,X' b→X b∨z.y≤b
 lo:z'.low≤G.Bo∨z'.low≤G.K.bm∨(F'=F∧X'=X∧e'=e∧o'=o)
def zQI (K:PlK) (r:Nat):Prop:=∀ (z:St) (F:Key→Option EndR) (X:Nat→Prop) (D:Nat) (st:Nat→Std),D+r=K.n→PlW K z F X→(∀ k,k<K.m→StG (st k)) →
 ∃ z' e o F' X',zD Pg 53 [.pointer (some ⟨K.Bp,0,none⟩),.agg ⟨iV (D:Int)::stL st⟩] z (zCZ e) z'∧Only (·=K.bm) z z'∧PlW K z' F' X'∧EndP z' X' e o∧xU 6 (K.ch r D st) o∧(∀ b,X b→X' b)∧(∀ b,X' b→X b∨z.y≤b)∧(z'.low≤K.bm∨(F'=F∧X'=X))
abbrev GvK.give (G:GvK) (l:List Nat) (who:List Int) (st:Nat→Std):zIB:=zSM G.K.w G.K.leaves G.K.wf G.r G.D l who st
theorem xFT {xs:List Int}:∀ v∈xs.map zZ,zBT Pg 3 1 v∧v.cells.toList=[v]:=by
 intro v hv;obtain ⟨x,_,rfl⟩:=List.mem_map.1 hv;exact ⟨uN x,rfl⟩
theorem GvR.low {o:Option (List Int × List Int)} {C:zIB} {F':Key→Option EndR} {X':Nat→Prop} {e':EndR} {o':Option (List Int × List Int)} {m:Nat} (hm:m≤z'.low) (h:GvR G z F X e o C z' F' X' e' o'):GvR G z F X e o C ⟨z'.heap,z'.y,m⟩ F' X' e' o':=by
 have k:Le z' ⟨z'.heap,z'.y,m⟩:=⟨Nat.le_refl _,fun _ _=>rfl⟩;refine ⟨h.w.le k,h.ep.le k,h.bo,h.x1,h.x2, ?_⟩
 rcases h.lo with h1 | h1 | h1
 ·exact .inl (Nat.le_trans hm h1)
 ·exact .inr (.inl (Nat.le_trans hm h1))
 ·exact .inr (.inr h1)
theorem xBG {b u a v:List Int}:pick (some (b,u)) a v=if wK v u then some (a,v) else some (b,u):=rfl
theorem xYI (ok:G.Ok) {m:Nat} (h:G.n1≤m):yX RD m G.K.wfv=true:=ok.ok.bel m (Nat.le_trans ok.f1 h)
theorem yF.lt {σ:St} {p:Option Addr} {l:Nat} {xs:List Int} (h:yF σ p l xs) (b:Nat) (hb:AtP p b):b<σ.y:=by
 obtain ⟨a,rfl,rfl⟩:=hb;exact (show Row σ a _ from h.1.2).lt
theorem xOD {w:Wk} {leaves:Bool} {wf:Nat→List Int→List Int} (hl:w.N.length≤12):∀ {r D:Nat} {st:Nat→Std} {c v:List Int},Ch w leaves wf r D st c v→c.length≤12*r
 | 0,_,_,_,_,h=>by rw [h.1];simp
 | r+1,D,st,c,v,h=>by
  obtain ⟨a,b,u,x,h1,h2,h3,h4⟩:=h;have:=(zDE h1).1;have hd:=zDD (w:=w) (D:=D) (j:=w.N.length);have:=xOD hl h2;rw [h3,List.length_append];omega
theorem zKG {n l c:Nat} {p:Option Addr} {a0 a1 a2 a3 a4 a5:Int} {b:Bool} (h:∀ a,p=some a→a.block<n):yX RD n (.agg ⟨xRH a0 a1 a2 a3 a4 a5 p l c b⟩)=true:=by
 have h1:yX RD n (.slice p l c)=true:=yH h;cases p with
 | none=>exact yL rfl
 | some a =>
  show (true && (true && (true && (true && (true && (true && (Nat.blt a.block n && (true && true))))))))=true;rw [(xY _ _).2 (h a rfl)];rfl
theorem GvW.put {pw:Option Addr} {lw cw:Nat} {v:List Int} {who:List Int} (ok:G.Ok) (h:GvW G z F X e) (hv:v.length=6) (hb:Bd 100 v) (hi:yF z pw lw who) (hf:∀ b,AtP pw b→G.n1≤b∧b<z.y) :
  ∃ z',zQ Pg (evL [.pointer (some ⟨G.Bo,0,none⟩),zCZ ⟨v,pw,lw,cw,true⟩]) z (.store 108 (.tmp 0) (.tmp 1))=some (undef,z')∧Only (·=G.Bo) z z'∧z'.low≤G.Bo∧z'.low≤z.low∧GvW G z' F (fun b=>X b∨AtP pw b) ⟨v,pw,lw,cw,true⟩∧EndP z' (fun b=>X b∨AtP pw b) ⟨v,pw,lw,cw,true⟩ (some (who,v)):=by
 obtain ⟨l1,l2,l3,l4,l5,l6,l7,l8⟩:=ok.lt;obtain ⟨o1,o2,o3,o4,o5,o6,o7⟩:=ok.no;have f0:=ok.f0;have st:=h.oo.store (P:=Pg) (k:=0) (t:=108) (v:=zCZ ⟨v,pw,lw,cw,true⟩) (vs:=zEJ ⟨v,pw,lw,cw,true⟩) (ds:=zEJ ⟨v,pw,lw,cw,true⟩) rfl uA rfl (by simp) rfl;have k:Only (·=G.Bo) z (z.own G.Bo (zEJ ⟨v,pw,lw,cw,true⟩) 8):=Only.own (.inr rfl);have w':=h.w.only k (fun b e=>by subst e;exact f0) (fun e=>o6 e.symm) (fun e=>o7 e.symm) h.xo;have hk:=k.slv' hi (fun a ea e=>by have:=(hf _ ⟨a,ea,rfl⟩).1;omega);have w8:PlW G.K (z.own G.Bo (zEJ ⟨v,pw,lw,cw,true⟩) 8) F (fun b=>X b∨AtP pw b):=w'.mono (fun b hb=>.inl hb) (fun b hb=>by
  rcases hb with hb | hb
  ·exact w'.xb b hb
  ·have h1:=hf b hb;exact ⟨h1.2,by omega⟩)
 refine ⟨_,st,k,by simp [St.own];omega,by simp [St.own];omega,⟨w8,k.rw' h.ou (fun e=>o1 e.symm),k.slv' h.du (fun a e hs=>h.xo _ (h.ux _ ⟨a,e,rfl⟩) hs),fun b hb=>.inl (h.ux b hb),k.rw' h.oq (fun e=>o2 e.symm),k.rw' h.os (fun e=>o3 e.symm),k.rw' h.og (fun e=>o4 e.symm),k.rw' h.oy (fun e=>o5 e.symm),h.oo.put,fun b hb=>?_,h.nz⟩,⟨hv,hb,fun b hb=>.inr hb,rfl,rfl,hk⟩⟩
 rcases hb with hb | hb
 ·exact h.xo b hb
 ·have:=(hf b hb).1;omega
theorem yNA (ok:G.Ok) (hb:zQI G.K G.r) {F:Key→Option EndR} {X:Nat→Prop} {e:EndR} {o:Option (List Int × List Int)} {C:zIB} {who:List Int} {pl:Option Addr} {lc:Nat} {sf:List (Nat × Nat)} {st:Nat→Std}
  (W:GvW G z F X e) (ep:EndP z X e o) (bo:xU 6 C o) (hC:∀ a v,C a v→v.length=6) (S:Stk z G.n1 pl who.length lc (who.map zZ) sf) (hX:∀ b,AtP pl b→¬ X b) (hw:who.length=G.du.length) (hst:∀ k,k<G.K.m→StG (st k)) :
  ∃ z',zD Pg 72 (.slice pl who.length lc::.agg ⟨stL st⟩::G.args) z (.tuple ⟨[]⟩) z'∧Only (fun b=>b=G.K.bm∨b=G.Bo) z z'∧∃ F' X' e' o',GvR G z F X e o (fun c v=>C c v∨G.give [] who st c v) z' F' X' e' o':=by
 suffices hmain:zP Pg 72 (.slice pl who.length lc::.agg ⟨stL st⟩::G.args) z.re fun v s=>Only (fun b=>b=G.K.bm∨b=G.Bo) z.re s∧(s.low<z.y∨zV RD v=false∨(v=.tuple ⟨[]⟩∧∃ F' X' e' o',GvR G z F X e o (fun c v=>C c v∨G.give [] who st c v) z F' X' e' o'))∧(v=.tuple ⟨[]⟩∧∃ F' X' e' o',GvR G z F X e o (fun c v=>C c v∨G.give [] who st c v) s F' X' e' o') by
  obtain ⟨v,s,h1,h2,rfl,h3⟩:=xVD (Q:=fun v s=>v=.tuple ⟨[]⟩∧∃ F' X' e' o',GvR G z F X e o (fun c v=>C c v∨G.give [] who st c v) s F' X' e' o') hmain (by
   rintro v s m hm ⟨h1,F',X',e',o',h2⟩;exact ⟨h1,F',X',e',o',h2.low hm⟩)
  exact ⟨s,h1,h2,h3⟩
 have zr:z.re.y=z.y:=rfl;have n7:=ok.ok.n7;have dr:=ok.dr;have hD:G.D≤6:=by omega
 obtain ⟨l1,l2,l3,l4,l5,l6,l7,l8⟩:=ok.lt;have hnz:=W.nz;have hl12:who.length≤12:=by
  have h1:=zDD (w:=G.K.w) (D:=G.D) (j:=G.K.l);have h2:=ok.ok.sn.l12;have h3:who.length=(yC G.K.w G.D G.K.l).length:=hw;omega
 have hAt:∀ b,AtP pl b→G.n1≤b∧b<z.y:=fun b hb=>S.bd b hb
 obtain ⟨τ1,hτ1⟩:∃ τ1,τ1=z.re.row (stL st) 4:=⟨_,rfl⟩;have N1:New z.re τ1:=by rw [hτ1];exact New.row _ _ _
 have nx1:τ1.y=z.y+1:=by rw [hτ1];rfl
 have oN1:Own τ1 z.y (stL st) 4:=by rw [hτ1];exact zC _ _ _
 have L1:Le z τ1:=(le0 z).trans N1.le;have W1:=W.le L1;have S1:=S.le L1;have c5:=xVA (D:=G.D) (st:=st) W1.w.pr ok.ok.wk.len.2 ok.ok.sn.m6 (by omega) ok.ok.sn.rest;obtain ⟨z2,e2,o2,F2,X2,c6,k2,w2,ep2,bo2,x21,x22,lo2⟩:=hb τ1 F X (G.D+1) (zCM G.K.w G.D st) (by omega) W1.w (fun k hk=>by
  unfold zCM;split
  ·exact (hst k hk).past hD ok.ok.sn.rest
  ·exact hst k hk)
 rw [show ((G.D+1:Nat):Int)=(G.D:Int)+1 by omega] at c6;have W2:=W1.best ok k2 w2 x21 x22;have nx2:=k2.y;have hlow2:=zEB c6;have S2:Stk z2 G.n1 pl who.length lc (who.map zZ) sf:=S1.only k2 (fun b hb e=>by have:=(hAt b hb).1;omega);have oN2:=k2.own' oN1 (show ¬ z.y=G.K.bm by omega);have EP2:EndP z2 X2 e o:=((ep.le L1).only k2 (fun b hb=>(W1.w.xb b hb).2)).mono x21;obtain ⟨τ3,hτ3⟩:∃ τ3,τ3=(z2.row (xRH 0 0 0 0 0 0 none 0 0 false) 8).own z2.y (zEJ e2) 8:=⟨_,rfl⟩;have N3:New z2 τ3:=by rw [hτ3];exact (New.row _ _ _).own (Nat.le_refl _)
 have nx3:τ3.y=z2.y+1:=by rw [hτ3];rfl
 have oR3:Own τ3 z2.y (zEJ e2) 8:=by rw [hτ3];exact (zC _ _ _).put
 have W3:=W2.le N3.le;have S3:=S2.le N3.le;have c19:=ok.ok.wfc τ3 W3.w.fl G.D pl who.length lc who (S3.slv xFT) hl12;have wvl:=ok.ok.wfl G.D who;have wvb:=ok.ok.wfb G.D who hl12;have gl:=xDN (w:=G.K.w) (leaves:=G.K.leaves) (wf:=G.K.wf) (r:=G.r) (D:=G.D) (who:=who) (st:=st) ok.ok.wfl bo2 bo hC;have c20:=xUV (σ:=τ3) ep2.len wvl (ep2.bd.mono (by decide)) (wvb.mono (by decide));have hpl:(vM e2.v (G.K.wf G.D who)).length=6:=by rw [zKV (by rw [ep2.len,wvl]),ep2.len]
 have hpb:∀ b u,o2=some (b,u)→Bd 100 (vM e2.v (G.K.wf G.D who)):=by
  rintro b u rfl;have ht:_∧_∧_:=ep2.tell;have h1:=xUA ok.ok.wfb ok.ok.dl bo2.1;rw [← ht.2.1] at h1;exact (h1.plus wvb).mono (by omega)
 obtain ⟨pv,hpv⟩:∃ pv,pv=vM e2.v (G.K.wf G.D who):=⟨_,rfl⟩;rw [← hpv] at c20 hpl hpb;rw [zAJ] at c19;rw [zAJ,zAJ,zAJ] at c20;obtain ⟨τ5,hτ5⟩:∃ τ5,τ5=(τ3.row (zJ 0 0 0 0 0 0) 1).own τ3.y (zJ (pv.getD 0 0) (pv.getD 1 0) (pv.getD 2 0) (pv.getD 3 0) (pv.getD 4 0) (pv.getD 5 0)) 1:=⟨_,rfl⟩;have N5:New τ3 τ5:=by rw [hτ5];exact (New.row _ _ _).own (Nat.le_refl _)
 have nx5:τ5.y=τ3.y+1:=by rw [hτ5];rfl
 have oM5:Own τ5 τ3.y (six pv) 1:=by rw [hτ5];exact (zC _ _ _).put
 have W5:=W3.le N5.le;have S5:=S3.le N5.le;have oR5:=oR3.le N5.le;have EP5:=(EP2.le N3.le).le N5.le;have hlow5:τ5.low≤z2.low:=by rw [hτ5,hτ3];simp [St.own];omega
 have k5:Only (fun b=>b=G.K.bm∨b=G.Bo) z.re τ5:=((N1.only.trans' k2 (fun b _ e=>.inl (.inl e))).trans' N3.only (S:=fun b=>b=G.K.bm∨b=G.Bo) (T:=fun _=>False) (fun b _ h=>h.elim)).trans' N5.only (T:=fun _=>False) (fun b _ h=>h.elim);have lq:∀ u,Row u ⟨G.Bq,0,none⟩ [.pointer (some ⟨G.K.Bp,0,none⟩)]→zB Pg u 103 ⟨G.Bq,0,none⟩=some (.pointer (some ⟨G.K.Bp,0,none⟩)):=fun u o=>o.ld uR rfl
 have ls:∀ u,Row u ⟨G.Bs,0,none⟩ (iV (G.D:Int)::stL G.st0)→zB Pg u 3 ⟨G.Bs,0,none⟩=some (iV (G.D:Int)):=fun u o=>o.ld zS rfl
 have l7':∀ u,Row u ⟨G.K.Bp,0,none⟩ G.K.row→zB Pg u 75 (zN ⟨G.K.Bp,0,none⟩ 7)=some G.K.wfv:=fun u o=>o.load1 xXT rfl
 have lv:∀ (u:St) (b:Nat) (e:EndR),Own u b (zEJ e) 8→zB Pg u 73 ⟨b,0,none⟩=some (.agg ⟨zJ (e.v.getD 0 0) (e.v.getD 1 0) (e.v.getD 2 0) (e.v.getD 3 0) (e.v.getD 4 0) (e.v.getD 5 0)⟩):=fun u b e o=>o.rw.ldN zCW xZ (k:=0) rfl rfl (nle rfl)
 have gw:=ok.ok.good;have ld1:zB Pg τ1 29 ⟨G.Bu,0,none⟩=some (.slice G.pu G.du.length G.cu):=W1.ou.ld yV rfl;have hb7:∀ m,G.n1≤m→zG m [.pointer (some ⟨G.K.Bp,0,none⟩),iV (G.D:Int),.agg ⟨stL st⟩]:=fun m hm=>zE (zO (by show G.K.Bp<m;omega)) (zE rfl (zE (yL rfl) zH))
 have hb8:∀ m (f:Nat→Std),G.n1≤m→zG m [.pointer (some ⟨G.K.Bp,0,none⟩),.agg ⟨iV ((G.D:Int)+1)::stL f⟩]:=fun m f hm=>zE (zO (by show G.K.Bp<m;omega)) (zE (yL rfl) zH)
 obtain ⟨τ2,hτ2⟩:∃ τ2,τ2=z2.row (xRH 0 0 0 0 0 0 none 0 0 false) 8:=⟨_,rfl⟩;have nx2':τ2.y=z2.y+1:=by rw [hτ2];rfl
 have N2':New z2 τ2:=by rw [hτ2];exact New.row _ _ _
 have oN2':=oN2.le N2'.le;have oN3:=oN2.le N3.le;obtain ⟨τ4,hτ4⟩:∃ τ4,τ4=τ3.row (zJ 0 0 0 0 0 0) 1:=⟨_,rfl⟩;have nx4:τ4.y=τ3.y+1:=by rw [hτ4];rfl
 have N4:New τ3 τ4:=by rw [hτ4];exact New.row _ _ _
 have oR4:=oR3.le N4.le;have W2':=W2.le N2'.le;have W4:=W3.le N4.le;have h1:=ld1;have h2:=lq τ1 W1.oq;have h3:=ls τ1 W1.os;have h4:=uF oN1;have h7:=hb7 τ1.y (by omega);have h8:=hb8 τ1.y (zCM G.K.w G.D st) (by omega);have h9:zG τ2.y [.pointer (some ⟨z2.y,0,none⟩),.agg ⟨zEJ e2⟩]:=(zE (zO (show z2.y<τ2.y by omega)) (zE (zKG fun a e=>(show a.block<τ2.y by have:=(w2.xb a.block (ep2.bl a.block ⟨a,e,rfl⟩)).1;omega)) zH));have h10:=(⟨⟨show G.Bq<z2.y by omega,rfl⟩,lq z2 W2.oq⟩:(G.Bq<z2.y∧zL RD (.pointer (some ⟨G.K.Bp,0,none⟩))=true)∧_);have h11:=(⟨⟨show G.Bq<τ2.y by omega,rfl⟩,lq τ2 W2'.oq⟩:(G.Bq<τ2.y∧zL RD (.pointer (some ⟨G.K.Bp,0,none⟩))=true)∧_);have h12:=(⟨⟨show G.Bs<z2.y by omega,rfl⟩,ls z2 W2.os⟩:(G.Bs<z2.y∧zL RD (iV (G.D:Int))=true)∧_);have h13:=(⟨⟨show G.Bs<τ2.y by omega,rfl⟩,ls τ2 W2'.os⟩:(G.Bs<τ2.y∧zL RD (iV (G.D:Int))=true)∧_);have h14:=(⟨⟨show z.y<z2.y by omega,rfl⟩,uF oN2⟩:(z.y<z2.y∧zL RD (.agg ⟨stL st⟩)=true)∧_);have h15:=(⟨⟨show z.y<τ2.y by omega,rfl⟩,uF oN2'⟩:(z.y<τ2.y∧zL RD (.agg ⟨stL st⟩)=true)∧_);have h16:=lq τ3 W3.oq;have h17:=l7' τ3 W3.w.pr;have h18:=ls τ3 W3.os;have h21:zG τ3.y [.pointer (some ⟨z2.y,0,none⟩)]:=(zE (zO (show z2.y<τ3.y by omega)) zH);have h22:zG τ3.y [.pointer (some ⟨G.Bq,0,none⟩)]:=(zE (zO (show G.Bq<τ3.y by omega)) zH);have h23:zG τ3.y [.pointer (some (zN ⟨G.K.Bp,0,none⟩ 7))]:=(zE (zO (show G.K.Bp<τ3.y by omega)) zH);have h24:zG τ3.y [.pointer (some ⟨G.Bs,0,none⟩)]:=(zE (zO (show G.Bs<τ3.y by omega)) zH);have h25:zG τ3.y [G.K.wfv,iV (G.D:Int),.slice pl who.length lc]:=(zE (xYI ok (by omega)) (zE rfl (zE (yH fun a e=>(show a.block<τ3.y by have:=(S3.bd a.block ⟨a,e,rfl⟩).2;omega)) zH)));have h26:zG τ4.y [.pointer (some ⟨τ3.y,0,none⟩),.agg ⟨zJ (pv.getD 0 0) (pv.getD 1 0) (pv.getD 2 0) (pv.getD 3 0) (pv.getD 4 0) (pv.getD 5 0)⟩]:=(zE (zO (show τ3.y<τ4.y by omega)) (zE (yL rfl) zH));have h27:=(⟨⟨show z2.y<τ3.y by omega,rfl⟩,lv τ3 z2.y e2 oR3⟩:(z2.y<τ3.y∧zL RD (.agg ⟨zJ (e2.v.getD 0 0) (e2.v.getD 1 0) (e2.v.getD 2 0) (e2.v.getD 3 0) (e2.v.getD 4 0) (e2.v.getD 5 0)⟩)=true)∧_);have h28:=h27;have h29:=(⟨⟨show z2.y<τ4.y by omega,rfl⟩,lv τ4 z2.y e2 oR4⟩:(z2.y<τ4.y∧zL RD (.agg ⟨zJ (e2.v.getD 0 0) (e2.v.getD 1 0) (e2.v.getD 2 0) (e2.v.getD 3 0) (e2.v.getD 4 0) (e2.v.getD 5 0)⟩)=true)∧_);have h30:=(⟨⟨show G.Bq<τ3.y by omega,rfl⟩,lq τ3 W3.oq⟩:(G.Bq<τ3.y∧zL RD (.pointer (some ⟨G.K.Bp,0,none⟩))=true)∧_);have h31:=(⟨⟨show G.Bq<τ4.y by omega,rfl⟩,lq τ4 W4.oq⟩:(G.Bq<τ4.y∧zL RD (.pointer (some ⟨G.K.Bp,0,none⟩))=true)∧_);have h32:=(⟨⟨show G.K.Bp<τ3.y by omega,gw⟩,l7' τ3 W3.w.pr⟩:((zN ⟨G.K.Bp,0,none⟩ 7).block<τ3.y∧zL RD G.K.wfv=true)∧_);have h33:=(⟨⟨show G.K.Bp<τ4.y by omega,gw⟩,l7' τ4 W4.w.pr⟩:((zN ⟨G.K.Bp,0,none⟩ 7).block<τ4.y∧zL RD G.K.wfv=true)∧_);have h34:=(⟨⟨show G.Bs<τ3.y by omega,rfl⟩,ls τ3 W3.os⟩:(G.Bs<τ3.y∧zL RD (iV (G.D:Int))=true)∧_);have h35:=(⟨⟨show G.Bs<τ4.y by omega,rfl⟩,ls τ4 W4.os⟩:(G.Bs<τ4.y∧zL RD (iV (G.D:Int))=true)∧_);have h36:zB Pg τ5 4 ⟨z2.y,7,none⟩=some (.bool e2.can):=oR5.rw.ld xFF rfl;have h37:zB Pg τ5 4 (zN ⟨G.Bo,0,none⟩ 7)=some (.bool e.can):=W5.oo.rw.load1 xFF rfl;have h38:=lv τ5 G.Bo e W5.oo;have h40:zB Pg τ5 29 ⟨z2.y,6,none⟩=some (.slice e2.p e2.l e2.c):=oR5.rw.ld yV rfl;have u2:I6 ((G.D:Int)+1):=⟨by omega,by omega⟩;have b1:G.Bq<z.re.y:=by show G.Bq<z.y;omega
 have b2:G.Bs<z.re.y:=by show G.Bs<z.y;omega
 have keep:xU 6 (fun c v=>C c v∨G.give [] who st c v) o→(Only (fun b=>b=G.K.bm∨b=G.Bo) z.re τ5∧(τ5.low<z.y∨zV RD (.tuple ⟨[]⟩)=false∨((.tuple ⟨[]⟩:Value)=.tuple ⟨[]⟩∧∃ F' X' e' o',GvR G z F X e o (fun c v=>C c v∨G.give [] who st c v) z F' X' e' o'))∧((.tuple ⟨[]⟩:Value)=.tuple ⟨[]⟩∧∃ F' X' e' o',GvR G z F X e o (fun c v=>C c v∨G.give [] who st c v) τ5 F' X' e' o')):=fun hbo=>by
  refine ⟨k5, ?_,rfl,F2,X2,e,o,W5,EP5,hbo,x21,fun b hb=>?_, ?_⟩
  ·rcases lo2 with h | ⟨rfl,rfl⟩
   ·exact .inl (by omega)
   ·exact .inr (.inr ⟨rfl,F2,X2,e,o,W,ep,hbo,fun _ h=>h,fun _ h=>.inl h,.inr (.inr ⟨rfl,rfl,rfl,rfl⟩)⟩)
  ·rcases x22 b hb with h | h
   ·exact .inl h
   ·exact .inr (by omega)
  ·rcases lo2 with h | ⟨rfl,rfl⟩
   ·exact .inr (.inl (by omega))
   ·exact .inr (.inr ⟨rfl,rfl,rfl,rfl⟩)
 cases hc2:e2.can with
 | false =>
  rw [hc2] at h36;have hn:o2=none:=by
   cases o2 with
   | none=>rfl
   | some q=>have ht:=ep2.tell;simp only [hc2] at ht;exact absurd ht.1 (by decide)
  subst hn;have nx:=keep gl;subst hτ5 hτ4 hτ3 hτ2 hτ1;exact xMR ⟨h1,h2,h3,h4,c5,c6,h7,h8,h9,h10,h11,h12,h13,h14,h15,h16,h17,h18,c19,c20,h21,h22,h23,h24,h25,h26,h27,h28,h29,h30,h31,h32,h33,h34,h35⟩ h36 nx (by rw [hw]) u2 b1 b2
 | true =>
 rw [hc2] at h36;obtain ⟨b,u,rfl⟩:∃ b u,o2=some (b,u):=by
  cases o2 with
  | none=>have ht:e2.can=false:=ep2.tell;rw [hc2] at ht;cases ht
  | some q=>exact ⟨q.1,q.2,rfl⟩
 have ht:e2.can=true∧e2.v=u∧yF z2 e2.p e2.l b:=ep2.tell;have hev:=ht.2.1;subst hev;have gl:xU 6 (fun c v=>C c v∨G.give [] who st c v) (pick o (who++b) pv):=by rw [hpv];exact gl
 obtain ⟨τ6,hτ6⟩:∃ τ6,τ6=τ5.row [.slice pl who.length lc,.slice e2.p e2.l e2.c] 1:=⟨_,rfl⟩;have nx6:τ6.y=τ5.y+1:=by rw [hτ6];rfl
 have N6:New τ5 τ6:=by rw [hτ6];exact New.row _ _ _
 have ib:yF τ6 e2.p e2.l b:=SlV.le (SlV.le ht.2.2 N3.le) (N5.le.trans N6.le);have lb:e2.l=b.length:=ib.len.symm;have rw6:zQE τ6 (some ⟨τ5.y,0,none⟩) 2 [who,b]:=by
  have r6:Row τ6 ⟨τ5.y,0,none⟩ [.slice pl who.length lc,.slice e2.p e2.l e2.c]:=by rw [hτ6];exact xQ _ _ _
  refine ⟨[.slice pl who.length lc,.slice e2.p e2.l e2.c],⟨⟨rfl,r6⟩,rfl,fun v hv=>?_⟩,rfl,fun i r hi=>?_⟩
  ·rcases List.mem_cons.1 hv with rfl | hv
   ·exact .inl ⟨yV,rfl,rfl⟩
   ·rw [List.mem_singleton.1 hv];exact .inl ⟨yV,rfl,rfl⟩
  ·match i,hi with
   | 0,hi=>cases hi;exact ⟨pl,lc,rfl,(S5.le N6.le).slv xFT⟩
   | 1,hi=>cases hi;exact ⟨e2.p,e2.c,by rw [← lb];rfl,by rw [← lb];exact ib⟩
 have hflat:[who,b].flatten=who++b:=by simp
 have hb7l:(who++b).length≤1073741824:=by
  have:=xOD ok.ok.dl bo2.1;rw [List.length_append];omega
 obtain ⟨p7,c7,τ7,k7,N7,I7,f7⟩:=xRJ (c:=2) rw6 (by decide) (by rw [hflat];exact hb7l);rw [hflat] at k7 I7;have W7:=(W5.le N6.le).le N7.le;have nx7:=N7.nx;obtain ⟨τ8,st8,k8,lo8,lo8',W8,EP8⟩:=W7.put (cw:=c7) ok hpl (hpb b _ rfl) I7 (fun x hx=>⟨by have:=f7 x hx;omega,I7.lt x hx⟩);have low75:τ7.low≤τ5.low:=by
  have h1:=zEB k7;have h2:τ6.low=τ5.low:=by rw [hτ6];rfl
  omega
 have store:xU 6 (fun c v=>C c v∨G.give [] who st c v) (some (who++b,pv))→(Only (fun b=>b=G.K.bm∨b=G.Bo) z.re τ8∧(τ8.low<z.y∨zV RD (.tuple ⟨[]⟩)=false∨((.tuple ⟨[]⟩:Value)=.tuple ⟨[]⟩∧∃ F' X' e' o',GvR G z F X e o (fun c v=>C c v∨G.give [] who st c v) z F' X' e' o'))∧((.tuple ⟨[]⟩:Value)=.tuple ⟨[]⟩∧∃ F' X' e' o',GvR G z F X e o (fun c v=>C c v∨G.give [] who st c v) τ8 F' X' e' o')):=fun hbo=>by
  refine ⟨((k5.trans' N6.only (T:=fun _=>False) (fun b _ h=>h.elim)).trans' N7.only (T:=fun _=>False) (fun b _ h=>h.elim)).trans' k8 (fun b _ h=>.inl (.inr h)),.inl (by omega),rfl,F2,_,_,_,W8,EP8,hbo,fun b hb=>.inl (x21 b hb),fun b hb=>?_,.inl lo8⟩
  rcases hb with hb | hb
  ·rcases x22 b hb with h | h
   ·exact .inl h
   ·exact .inr (by omega)
  ·exact .inr (by have:=f7 b hb;omega)
 have m5:zG τ5.y [.pointer (some ⟨τ3.y,0,none⟩)]:=(zE (zO (show τ3.y<τ5.y by omega)) zH);have m6:zG τ5.y [.pointer (some ⟨z2.y,6,none⟩)]:=(zE (zO (show z2.y<τ5.y by omega)) zH);have m7:zG τ5.y [.slice pl who.length lc,.slice e2.p e2.l e2.c]:=(zE (yH fun a e=>(show a.block<τ5.y by have:=(S5.bd a.block ⟨a,e,rfl⟩).2;omega)) (zE (yH fun a e=>(show a.block<τ5.y by have:=(w2.xb a.block (ep2.bl a.block ⟨a,e,rfl⟩)).1;omega)) zH));have m8:zG τ6.y [.slice (some ⟨τ5.y,0,none⟩) 2 2]:=(zE (yH fun a e=>by cases e;show τ5.y<τ6.y;omega) zH);have m9:zG τ7.y [.pointer (some ⟨G.Bo,0,none⟩),zCZ ⟨pv,p7,(who++b).length,c7,true⟩]:=(zE (zO (show G.Bo<τ7.y by omega)) (zE (zKG fun a e=>I7.lt a.block ⟨a,e,rfl⟩) zH));have oM6:=oM5.le N6.le;have oM7:=oM6.le N7.le;have q5:=(⟨⟨show τ3.y<τ5.y by omega,rfl⟩,oM5.rw.ldN zCW xZ (k:=0) rfl rfl (nle rfl)⟩:(τ3.y<τ5.y∧zL RD (.agg ⟨zJ (pv.getD 0 0) (pv.getD 1 0) (pv.getD 2 0) (pv.getD 3 0) (pv.getD 4 0) (pv.getD 5 0)⟩)=true)∧zB Pg τ5 73 ⟨τ3.y,0,none⟩=some (.agg ⟨zJ (pv.getD 0 0) (pv.getD 1 0) (pv.getD 2 0) (pv.getD 3 0) (pv.getD 4 0) (pv.getD 5 0)⟩));have q6:=(⟨⟨show τ3.y<τ6.y by omega,rfl⟩,oM6.rw.ldN zCW xZ (k:=0) rfl rfl (nle rfl)⟩:(τ3.y<τ6.y∧zL RD (.agg ⟨zJ (pv.getD 0 0) (pv.getD 1 0) (pv.getD 2 0) (pv.getD 3 0) (pv.getD 4 0) (pv.getD 5 0)⟩)=true)∧zB Pg τ6 73 ⟨τ3.y,0,none⟩=some (.agg ⟨zJ (pv.getD 0 0) (pv.getD 1 0) (pv.getD 2 0) (pv.getD 3 0) (pv.getD 4 0) (pv.getD 5 0)⟩));have q7:=(⟨⟨show τ3.y<τ7.y by omega,rfl⟩,oM7.rw.ldN zCW xZ (k:=0) rfl rfl (nle rfl)⟩:(τ3.y<τ7.y∧zL RD (.agg ⟨zJ (pv.getD 0 0) (pv.getD 1 0) (pv.getD 2 0) (pv.getD 3 0) (pv.getD 4 0) (pv.getD 5 0)⟩)=true)∧zB Pg τ7 73 ⟨τ3.y,0,none⟩=some (.agg ⟨zJ (pv.getD 0 0) (pv.getD 1 0) (pv.getD 2 0) (pv.getD 3 0) (pv.getD 4 0) (pv.getD 5 0)⟩));cases hc:e.can with
 | false =>
  rw [hc] at h37;have hn:o=none:=by
   cases o with
   | none=>rfl
   | some q=>have ht:=ep.tell;simp only [hc] at ht;exact absurd ht.1 (by decide)
  subst hn;have nx:=store gl;subst hτ6 hτ5 hτ4 hτ3 hτ2 hτ1;exact xMS ⟨h1,h2,h3,h4,c5,c6,h7,h8,h9,h10,h11,h12,h13,h14,h15,h16,h17,h18,c19,c20,h21,h22,h23,h24,h25,h26,h27,h28,h29,h30,h31,h32,h33,h34,h35⟩ h36 h37 h40 k7 st8 m5 m6 m7 m8 m9 q5 q6 q7 nx (by rw [hw]) u2 b1 b2
 | true =>
  rw [hc] at h37;obtain ⟨b',u',rfl⟩:∃ b u,o=some (b,u):=by
   cases o with
   | none=>have ht:e.can=false:=ep.tell;rw [hc] at ht;cases ht
   | some q=>exact ⟨q.1,q.2,rfl⟩
  have ht':e.can=true∧e.v=u'∧yF z e.p e.l b':=ep.tell;have hev:=ht'.2.1;subst hev;have c39:=xVG (σ:=τ5) hpl ep.len;rw [zAJ,zAJ] at c39;rw [xBG] at gl;cases hm:wK pv e.v with
  | false =>
   rw [hm] at gl c39;have nx:=keep gl;subst hτ5 hτ4 hτ3 hτ2 hτ1;exact xMT ⟨h1,h2,h3,h4,c5,c6,h7,h8,h9,h10,h11,h12,h13,h14,h15,h16,h17,h18,c19,c20,h21,h22,h23,h24,h25,h26,h27,h28,h29,h30,h31,h32,h33,h34,h35⟩ h36 h37 h38 c39 nx (by rw [hw]) u2 b1 b2
  | true =>
   rw [hm] at gl c39;have nx:=store gl;subst hτ6 hτ5 hτ4 hτ3 hτ2 hτ1;exact xMU ⟨h1,h2,h3,h4,c5,c6,h7,h8,h9,h10,h11,h12,h13,h14,h15,h16,h17,h18,c19,c20,h21,h22,h23,h24,h25,h26,h27,h28,h29,h30,h31,h32,h33,h34,h35⟩ h36 h37 h38 c39 h40 k7 st8 m5 m6 m7 m8 m9 q5 q6 q7 nx (by rw [hw]) u2 b1 b2
end
abbrev yPF:=Option (List Int × List Int)
section
variable {G:GvK} {z y y':St} {F F' F2:Key→Option EndR} {X X' X2:Nat→Prop} {e e' e2:EndR} {o o' o2:yPF} {C C':zIB}
theorem GvR.self (W:GvW G z F X e) (ep:EndP z X e o) (bo:xU 6 C o):GvR G z F X e o C z F X e o:=⟨W,ep,bo,fun _ h=>h,fun _ h=>.inl h,.inr (.inr ⟨rfl,rfl,rfl,rfl⟩)⟩
theorem GvR.iff (h:GvR G z F X e o C y F' X' e' o') (k:∀ a v,C a v↔C' a v):GvR G z F X e o C' y F' X' e' o':=⟨h.w,h.ep,h.bo.iff k,h.x1,h.x2,h.lo⟩
theorem GvR.step {S:Nat→Prop} (ok:G.Ok) (h:GvR G z F X e o C y F' X' e' o') (k:Only S y y') (hS:∀ b,S b→G.n1≤b∧¬ X' b) (hl:y'.low≤y.low):GvR G z F X e o C y' F' X' e' o':=by
 refine ⟨h.w.only ok k hS,h.ep.only k fun b hb hs=>(hS b hs).2 hb,h.bo,h.x1,h.x2, ?_⟩
 rcases h.lo with g | g | g
 ·exact .inl (Nat.le_trans hl g)
 ·exact .inr (.inl (Nat.le_trans hl g))
 ·exact .inr (.inr g)
theorem GvR.new (ok:G.Ok) (h:GvR G z F X e o C y F' X' e' o') (k:New y y') (hl:y'.low≤y.low):GvR G z F X e o C y' F' X' e' o':=h.step (S:=fun _=>False) ok k.only (fun _ h=>h.elim) hl
theorem GvR.trans (h:GvR G z F X e o C y F' X' e' o') (k:GvR G y F' X' e' o' C' y' F2 X2 e2 o2) (hn:z.y≤y.y) (hl:y'.low≤y.low):GvR G z F X e o C' y' F2 X2 e2 o2:=by
 refine ⟨k.w,k.ep,k.bo,fun b hb=>k.x1 b (h.x1 b hb),fun b hb=>?_, ?_⟩
 ·rcases k.x2 b hb with g | g
  ·exact h.x2 b g
  ·exact .inr (Nat.le_trans hn g)
 ·rcases k.lo with g | g | ⟨rfl,rfl,rfl,rfl⟩
  ·exact .inl g
  ·exact .inr (.inl g)
  ·rcases h.lo with g | g | g
   ·exact .inl (Nat.le_trans hl g)
   ·exact .inr (.inl (Nat.le_trans hl g))
   ·exact .inr (.inr g)
end
def zMR (G:GvK) (z:St) (F:Key→Option EndR) (X:Nat→Prop) (e:EndR) (o:yPF) (C:zIB) (pl:Option Addr) (lc:Nat) (who:List Int) (sf:List (Nat × Nat)) (s:St):Prop:=∃ F' X' e' o',GvR G z F X e o C s F' X' e' o'∧Stk s G.n1 pl who.length lc (who.map zZ) sf
abbrev zMQ (G:GvK) (pl:Option Addr):Nat→Prop:=fun b=>b=G.K.bm∨b=G.Bo∨AtP pl b
def yPE (G:GvK) (rest:List Nat):Prop:=∀ {z:St} {F:Key→Option EndR} {X:Nat→Prop} {e:EndR} {o:yPF} {C:zIB} {who:List Int} {pl:Option Addr} {lc:Nat} {sf:List (Nat × Nat)} {st:Nat→Std},
 GvW G z F X e→EndP z X e o→xU 6 C o→(∀ a v,C a v→v.length=6)→Stk z G.n1 pl who.length lc (who.map zZ) sf→(∀ b,AtP pl b→¬ X b)→(∃ pre,G.du=pre++rest∧pre.length=who.length)→(∀ k,k<G.K.m→StG (st k)) →
 ∃ z',zD Pg 72 (.slice pl who.length lc::.agg ⟨stL st⟩::G.args) z (.tuple ⟨[]⟩) z'∧Only (zMQ G pl) z z'∧zMR G z F X e o (fun c v=>C c v∨G.give rest who st c v) pl lc who sf z'
section
variable {G:GvK}
theorem xLJ (ok:G.Ok) (hb:zQI G.K G.r):yPE G []:=by
 intro z F X e o C who pl lc sf st W ep bo hC S hX hd hst;obtain ⟨pre,h1,h2⟩:=hd;have hw:who.length=G.du.length:=by rw [h1];simp [h2]
 obtain ⟨l1,l2,l3,l4,l5,l6,l7,l8⟩:=ok.lt;obtain ⟨z',c,k,F',X',e',o',r⟩:=yNA ok hb W ep bo hC S hX hw hst;exact ⟨z',c,k.mono (fun b _ h=>by rcases h with h | h;exact .inl h;exact .inr (.inl h)),F',X',e',o',r,S.only k (fun b hb h=>by have:=(S.bd b hb).1;omega)⟩
theorem yOO (ok:G.Ok) {m:Nat} (h:G.n1≤m):yX RD m (.func (.func 72) ⟨[]⟩ ⟨G.args⟩)=true:=by
 obtain ⟨l1,l2,l3,l4,l5,l6,l7,l8⟩:=ok.lt;show ((true && true) && (Nat.blt G.Bu m && (Nat.blt G.Bq m && (Nat.blt G.Bs m && (Nat.blt G.Bo m && (Nat.blt G.Bg m && (Nat.blt G.By m && true)))))))=true;rw [(xY _ _).2 (by omega:G.Bu<m),(xY _ _).2 (by omega:G.Bq<m),(xY _ _).2 (by omega:G.Bs<m),(xY _ _).2 (by omega:G.Bo<m),(xY _ _).2 (by omega:G.Bg<m),(xY _ _).2 (by omega:G.By<m)];rfl
theorem xSG (ok:G.Ok) {m:Nat} (h:G.n1≤m):yX RD m (.func (.func 71) ⟨[.pointer (some ⟨G.K.Bp,0,none⟩)]⟩ ⟨[]⟩)=true:=by
 obtain ⟨l1,l2,l3,l4,l5,l6,l7,l8⟩:=ok.lt;show ((Nat.blt G.K.Bp m && true) && true)=true;rw [(xY _ _).2 (by omega:G.K.Bp<m)];rfl
theorem zYX (ok:G.Ok) {i:Nat} {rest:List Nat} (ih:yPE G rest) {z y:St} {F F':Key→Option EndR} {X X':Nat→Prop} {e e':EndR} {o o':yPF} {C:zIB} {who:List Int} {pl:Option Addr} {lc:Nat} {sf:List (Nat × Nat)} {st:Nat→Std} {x:Int}
  (R:GvR G z F X e o C y F' X' e' o') (hC:∀ a v,C a v→v.length=6) (S:Stk y G.n1 pl who.length lc (who.map zZ) sf) (hX:∀ b,AtP pl b→¬ X b) (hz:∀ b,AtP pl b→b<z.y) (hzy:z.y≤y.y) (hd:∃ pre,G.du=pre++i::rest∧pre.length=who.length) (hst:∀ k,k<G.K.m→StG (st k)) :
  ∃ p' c' y4 y5,yD Pg 29 29 (.slice pl who.length lc) (.slice (some ⟨y.y,0,none⟩) 1 1) (y.row [zZ x] 1)=some (.slice p' (who.length+1) c',y4)∧Only (AtP pl) y y4∧(∀ b,AtP p' b→AtP pl b∨y.y≤b)∧(∀ b,AtP p' b→b<y4.y)∧y4.low≤y.low ∧
   zD Pg 72 (.slice p' (who.length+1) c'::.agg ⟨stL st⟩::G.args) y4 (.tuple ⟨[]⟩) y5∧Only (fun b=>b=G.K.bm∨b=G.Bo∨AtP p' b) y4 y5∧GvW G y4 F' X' e'∧y5.low≤y.low ∧
   zMR G z F X e o (fun c v=>C c v∨G.give rest (who++[x]) st c v) pl lc who sf y5:=by
 obtain ⟨pre,hd1,hd2⟩:=hd;have hlen:who.length+1≤1073741824:=by
  have h1:=zDD (w:=G.K.w) (D:=G.D) (j:=G.K.l);have h2:=ok.ok.sn.l12;have h3:(yC G.K.w G.D G.K.l).length=pre.length+(rest.length+1):=by
   show G.du.length=_;rw [hd1];simp
  omega
 have hxp:∀ b,AtP pl b→¬ X' b:=fun b hb hx=>by
  rcases R.x2 b hx with h | h
  ·exact hX b hb h
  ·have:=hz b hb;omega
 have hny:=R.w.nz;obtain ⟨p',c',sf',y4,g1,g2,g3,g4,g5,g6⟩:=S.push (v:=zZ x) zAU rfl hlen hny;have hS4:∀ b,AtP pl b→G.n1≤b∧¬ X' b:=fun b hb=>⟨(S.bd b hb).1,hxp b hb⟩
 have R4:=R.step ok g4 hS4 g5;have exs:who.map zZ++[zZ x]=(who++[x]).map zZ:=by simp
 rw [exs] at g2;have el:(who++[x]).length=who.length+1:=by simp
 have n4:=g4.y;rw [← el] at g2;have hX4:∀ b,AtP p' b→¬ X' b:=fun b hb hx=>by
  rcases g6 b hb with h | h
  ·exact hxp b h hx
  ·have:=(R.w.w.xb b hx).1;omega
 obtain ⟨y5,k5,o5,F5,X5,e5,o5',r5,s5⟩:=ih R4.w R4.ep R4.bo hC g2 hX4 ⟨pre++[i],by rw [hd1];simp,by rw [el];simp [hd2]⟩ hst;have hl5:=zEB k5;have s5':Stk y5 G.n1 pl who.length lc (who.map zZ) sf:=Kid.pop (by rw [← exs];exact g3) s5;rw [el] at k5 g2;exact ⟨p',c',y4,y5,g1,g4,g6,fun b hb=>(g2.bd b hb).2,g5,k5,o5,R4.w,by omega,F5,X5,e5,o5',R4.trans r5 (by omega) (by omega),s5'⟩
theorem xDO (ok:G.Ok) (hb:zQI G.K G.r) {i:Nat} {rest:List Nat} (ih:yPE G rest):yPE G (i::rest):=by
 intro z F X e o C who pl lc sf st W ep bo hC S hX hd hst;suffices hmain:zP Pg 72 (.slice pl who.length lc::.agg ⟨stL st⟩::G.args) z.re fun v s=>Only (zMQ G pl) z.re s∧(s.low<z.y∨zV RD v=false∨(v=.tuple ⟨[]⟩∧zMR G z F X e o (fun c v=>C c v∨G.give (i::rest) who st c v) pl lc who sf z))∧(v=.tuple ⟨[]⟩∧zMR G z F X e o (fun c v=>C c v∨G.give (i::rest) who st c v) pl lc who sf s) by
  obtain ⟨v,s,h1,h2,rfl,h3⟩:=xVD (Q:=fun v s=>v=.tuple ⟨[]⟩∧zMR G z F X e o (fun c v=>C c v∨G.give (i::rest) who st c v) pl lc who sf s) hmain (by
   rintro v s m hm ⟨h1,F',X',e',o',h2,h3⟩;exact ⟨h1,F',X',e',o',h2.low hm,h3.le ⟨Nat.le_refl _,fun _ _=>rfl⟩⟩)
  exact ⟨s,h1,h2,h3⟩
 have zr:z.re.y=z.y:=rfl;obtain ⟨l1,l2,l3,l4,l5,l6,l7,l8⟩:=ok.lt;have hnz:=W.nz;have hAt:∀ b,AtP pl b→G.n1≤b∧b<z.y:=fun b hb=>S.bd b hb
 have hm6:=ok.ok.sn.m6;have hwm:=ok.ok.wk.len.2;have hwl:=ok.ok.wk.len.1;obtain ⟨pre,hd1,hd2⟩:=hd;have hlt:who.length<G.du.length:=by rw [hd1];simp;omega
 have hgi:G.du[who.length]?=some i:=by rw [hd1,← hd2];simp
 have himem:i∈yC G.K.w G.D G.K.l:=List.mem_of_getElem? hgi;obtain ⟨hil,hiD⟩:=zBU.1 himem;have hdt:=ok.ok.sn.duty i hil;have hdo:DtOk (dty G.K.w i):=⟨⟨hdt.1,hdt.2.1⟩,⟨hdt.2.2.1,hdt.2.2.2.1⟩⟩;obtain ⟨τ1,hτ1⟩:∃ τ1,τ1=z.re.row (stL st) 4:=⟨_,rfl⟩;have N1:New z.re τ1:=by rw [hτ1];exact New.row _ _ _
 have nx1:τ1.y=z.y+1:=by rw [hτ1];rfl
 have oN1:Own τ1 z.y (stL st) 4:=by rw [hτ1];exact zC _ _ _
 have L1:Le z τ1:=(le0 z).trans N1.le;have R1:GvR G z F X e o C τ1 F X e o:=⟨W.le L1,ep.le L1,bo,fun _ h=>h,fun _ h=>.inl h,.inr (.inr ⟨rfl,rfl,rfl,rfl⟩)⟩;have S1:=S.le L1;let Cj:Nat→zIB:=fun j c v=>C c v∨((G.K.leaves=true∧G.give rest (who++[-1]) st c v)∨∃ k,k<j∧zEU G.K.w k i (st k)=true∧G.give rest (who++[(k:Int)]) (zWB G.K.w st k i) c v)
 have hCj:∀ j a v,Cj j a v→v.length=6:=by
  rintro j a v (h | ⟨_,h⟩ | ⟨k,_,_,h⟩)
  ·exact hC a v h
  ·exact zSM.len ok.ok.wfl h
  ·exact zSM.len ok.ok.wfl h
 let J:Nat→St→Prop:=fun j y=>Only (zMQ G pl) z.re y∧τ1.y≤y.y∧zMR G z F X e o (Cj j) pl lc who sf y∧Own y z.y (stL st) 4
 let P0:St→Prop:=fun s=>Only (zMQ G pl) z.re s∧(s.low<z.y∨zV RD (.tuple ⟨[]⟩)=false∨((.tuple ⟨[]⟩:Value)=.tuple ⟨[]⟩∧zMR G z F X e o (fun c v=>C c v∨G.give (i::rest) who st c v) pl lc who sf z))∧((.tuple ⟨[]⟩:Value)=.tuple ⟨[]⟩∧zMR G z F X e o (fun c v=>C c v∨G.give (i::rest) who st c v) pl lc who sf s)
 have hdone:∀ y,J G.K.m y→P0 y:=by
  rintro y ⟨a1,a2,⟨F',X',e',o',r,s⟩,a3⟩;have r':GvR G z F X e o (fun c v=>C c v∨G.give (i::rest) who st c v) y F' X' e' o':=r.iff fun a v=>by
   show Cj G.K.m a v↔_;rw [show G.give (i::rest) who st a v↔_ from xFL,hwm]
  refine ⟨a1, ?_,rfl,F',X',e',o',r',s⟩
  have f0:=ok.f0;rcases r'.lo with g | g | ⟨rfl,rfl,rfl,rfl⟩
  ·exact .inl (by omega)
  ·exact .inl (by omega)
  ·exact .inr (.inr ⟨rfl,F',X',e',o',GvR.self W ep r'.bo,S⟩)
 have lg:∀ u,Row u ⟨G.Bg,0,none⟩ [.func (.func 72) ⟨[]⟩ ⟨G.args⟩]→zB Pg u 121 ⟨G.Bg,0,none⟩=some (.func (.func 72) ⟨[]⟩ ⟨G.args⟩):=fun u o=>o.ld xNK rfl
 have ly:∀ u,Row u ⟨G.By,0,none⟩ [.func (.func 71) ⟨[.pointer (some ⟨G.K.Bp,0,none⟩)]⟩ ⟨[]⟩]→zB Pg u 120 ⟨G.By,0,none⟩=some (.func (.func 71) ⟨[.pointer (some ⟨G.K.Bp,0,none⟩)]⟩ ⟨[]⟩):=fun u o=>o.ld xWI rfl
 have lq:∀ u,Row u ⟨G.Bq,0,none⟩ [.pointer (some ⟨G.K.Bp,0,none⟩)]→zB Pg u 103 ⟨G.Bq,0,none⟩=some (.pointer (some ⟨G.K.Bp,0,none⟩)):=fun u o=>o.ld uR rfl
 have lu:∀ u,Row u ⟨G.Bu,0,none⟩ [.slice G.pu G.du.length G.cu]→zB Pg u 29 ⟨G.Bu,0,none⟩=some (.slice G.pu G.du.length G.cu):=fun u o=>o.ld yV rfl
 have lsl:∀ u:St,xP Pg (evL [.slice pl who.length lc]) u (.call { callee:=.builtin .len,args:=⟨vA 1⟩,argTypes:=⟨[29]⟩ })=some (iV (who.length:Int)):=fun u=>rfl
 have gg:zL RD (.func (.func 72) ⟨[]⟩ ⟨G.args⟩)=true:=rfl;have gy:zL RD (.func (.func 71) ⟨[.pointer (some ⟨G.K.Bp,0,none⟩)]⟩ ⟨[]⟩)=true:=rfl;have bw:∀ a,pl=some a→a.block<z.y:=fun a e=>(hAt a.block ⟨a,e,rfl⟩).2
 have eas:∀ (y:St) (p':Option Addr) (y4 y5:St),Only (zMQ G pl) z.re y→z.y<y.y→Only (AtP pl) y y4→(∀ b,AtP p' b→AtP pl b∨y.y≤b)→Only (fun b=>b=G.K.bm∨b=G.Bo∨AtP p' b) y4 y5→Only (zMQ G pl) z.re y5:=fun y p' y4 y5 h1 h0 h2 h3 h4=>(h1.trans' h2 (fun b _ h=>.inl (.inr (.inr h)))).trans' h4 (fun b _ h=>by
  have hy:=h1.y;rcases h with h | h | h
  ·exact .inl (.inl h)
  ·exact .inl (.inr (.inl h))
  ·rcases h3 b h with g | g
   ·exact .inl (.inr (.inr g))
   ·exact .inr (by omega))
 have hownS:∀ (y:St) (p':Option Addr) (y4 y5:St),z.y<y.y→Only (AtP pl) y y4→(∀ b,AtP p' b→AtP pl b∨y.y≤b)→Only (fun b=>b=G.K.bm∨b=G.Bo∨AtP p' b) y4 y5→Own y z.y (stL st) 4→Own y4 z.y (stL st) 4∧Own y5 z.y (stL st) 4:=fun y p' y4 y5 h1 h2 h3 h4 o=>by
  have o4:=h2.own' o (fun h=>by have:=(hAt _ h).2;omega);refine ⟨o4,h4.own' o4 ?_⟩
  rintro (h | h | h)
  ·omega
  ·omega
  ·rcases h3 _ h with g | g
   ·have:=(hAt _ g).2;omega
   ·omega
 have hloop:∀ y0,J 0 y0→zPZ pl who.length lc ⟨G.Bu,0,none⟩ ⟨G.Bg,0,none⟩ ⟨G.By,0,none⟩ z.y G.K.m 0 y0 P0:=by
  intro y0 hJ0;refine yOM (Inv:=fun k i' y=>∃ j:Nat,i'=j∧j+k=G.K.m∧J j y) ?_ G.K.m 0 y0 ⟨0,rfl,by omega,hJ0⟩;rintro k i' y ⟨j,rfl,hk,hJ⟩;obtain ⟨a1,a2,⟨F',X',e',o',r,s⟩,a3⟩:=hJ;by_cases hj:j<G.K.m;rotate_left
  ·have:j=G.K.m:=by omega
   subst this;exact xEV (hdone y ⟨a1,a2,⟨F',X',e',o',r,s⟩,a3⟩) (by omega)
  have hj6:j<6:=by omega
  have W':=r.w;have yn:=a1.y;obtain ⟨s',cm,hs'⟩:=xXB (k:=j) (i:=i) (s:=st j) W'.w.pr (ok.ok.wk.le W'.w.fl) ok.ok.sh hj hil (hst j hj).ok hdo (by omega);obtain ⟨qa,hqa,_⟩:=W'.du.some hlt;have h1:=ly y W'.oy;have h2:=lu y W'.ou;rw [hqa] at h2;have h3:zB Pg y 3 (zN qa (Int.toNat ((who.length:Nat):Int)*1))=some (iV (i:Int)):=W'.du.at hqa (by simp [zNH,hgi]);have h4:=yFQ a3 hj6;have hqb:qa.block<y.y:=(W'.w.xb _ (W'.ux _ ⟨qa,hqa,rfl⟩)).1;have h6:zG y.y [.func (.func 71) ⟨[.pointer (some ⟨G.K.Bp,0,none⟩)]⟩ ⟨[]⟩,iV (j:Int),iV (i:Int),zLT (st j)]:=(zE (xSG ok (by omega)) (zE rfl (zE rfl (zE (yL rfl) zH))));obtain ⟨y1,hy1⟩:∃ y1,y1=y.row (zK 0 0 0 0) 4:=⟨_,rfl⟩;have ny1:y1.y=y.y+1:=by rw [hy1];rfl
  have M1:New y y1:=by rw [hy1];exact New.row _ _ _
  have W1:=W'.le M1.le;have h7:zG y1.y [.pointer (some ⟨y.y,0,none⟩),zLT s']:=(zE (zO (show y.y<y1.y by omega)) (zE (yL rfl) zH));have h8:=(⟨⟨show G.By<y.y by omega,gy⟩,h1⟩:(G.By<y.y∧_)∧_);have h9:=(⟨⟨show G.By<y1.y by omega,gy⟩,ly y1 W1.oy⟩:(G.By<y1.y∧_)∧_);have h10:=(⟨⟨show G.Bu<y.y by omega,rfl⟩,h2⟩:(G.Bu<y.y∧zL RD (.slice (some qa) G.du.length G.cu)=true)∧_);have h11:=(⟨⟨show G.Bu<y1.y by omega,rfl⟩,by rw [← hqa];exact lu y1 W1.ou⟩:(G.Bu<y1.y∧zL RD (.slice (some qa) G.du.length G.cu)=true)∧zB Pg y1 29 ⟨G.Bu,0,none⟩=some (.slice (some qa) G.du.length G.cu));have bwy:∀ n,y.y≤n→zG n [.slice pl who.length lc]:=fun n hn=>zE (yH fun a e=>by have:=bw a e;omega) zH
  have h12:(zG y.y [.slice pl who.length lc]∧zL RD (iV ((who.length:Nat):Int))=true)∧Callee.builtin .len=Callee.builtin .len∧xP Pg (evL [.slice pl who.length lc]) y (.call { callee:=.builtin .len,args:=⟨vA 1⟩,argTypes:=⟨[29]⟩ })=some (iV (who.length:Int)):=⟨⟨bwy _ (Nat.le_refl _),rfl⟩,rfl,lsl y⟩;have h13:(zG y1.y [.slice pl who.length lc]∧zL RD (iV ((who.length:Nat):Int))=true)∧Callee.builtin .len=Callee.builtin .len∧xP Pg (evL [.slice pl who.length lc]) y1 (.call { callee:=.builtin .len,args:=⟨vA 1⟩,argTypes:=⟨[29]⟩ })=some (iV (who.length:Int)):=⟨⟨bwy _ (by omega),rfl⟩,rfl,lsl y1⟩;have h14:=(⟨⟨hqb,rfl⟩,h3⟩:(qa.block<y.y∧zL RD (iV (i:Int))=true)∧_);have h15:((zN qa (Int.toNat ((who.length:Nat):Int)*1)).block<y1.y∧zL RD (iV (i:Int))=true)∧zB Pg y1 3 (zN qa (Int.toNat ((who.length:Nat):Int)*1))=some (iV (i:Int)):=⟨⟨show qa.block<y1.y by omega,rfl⟩,W1.du.at hqa (by simp [zNH,hgi])⟩;have h16:=(⟨⟨show z.y<y.y by omega,rfl⟩,h4⟩:(z.y<y.y∧zL RD (zLT (st j))=true)∧_);have h17:=(⟨⟨show z.y<y1.y by omega,rfl⟩,yFQ (a3.le M1.le) hj6⟩:(z.y<y1.y∧zL RD (zLT (st j))=true)∧_);obtain ⟨y2,hy2⟩:∃ y2,y2=y1.own y.y (zEQ s') 4:=⟨_,rfl⟩;have ny2:y2.y=y.y+1:=by rw [hy2];exact ny1
  have M2:New y y2:=by rw [hy2];exact M1.own (Nat.le_refl _)
  have lo2:y2.low≤y.low:=by rw [hy2,hy1];simp [St.own];omega
  have oS2:Own y2 y.y (zEQ s') 4:=by rw [hy2,hy1];exact (zC _ _ _).put
  have R2:=r.new ok M2 lo2;have s2:=s.le M2.le;have a32:=a3.le M2.le;have k2:Only (zMQ G pl) z.re y2:=a1.trans' M2.only (T:=fun _=>False) (fun b _ h=>h.elim);have u1:(j:Int)<((G.K.m:Nat):Int):=by omega
  have u2:Ix ((who.length:Nat):Int) G.du.length:=⟨by omega,by omega⟩;have u3:Ix (j:Int) 6:=⟨by omega,by omega⟩;have u4:I6 ((j:Int)+1):=⟨by omega,by omega⟩;have b5:G.By<y.y:=by omega
  have b0:G.Bu<y.y:=by omega
  have bB:z.y<y.y:=by omega
  have bwy':∀ a,pl=some a→a.block<y.y:=fun a e=>by have:=bw a e;omega
  cases hmb:zEU G.K.w j i (st j) with
  | false =>
   rw [hmb] at cm;have nx:∃ k',k' < k∧∃ j':Nat,(j:Int)+1=j'∧j'+k'=G.K.m∧J j' y2:=⟨k-1,by omega,j+1,by omega,by omega,k2,by omega,⟨F',X',e',o',R2.iff fun a v=>by
    show Cj j a v↔Cj (j+1) a v;constructor
    ·rintro (h | h | ⟨q,h1,h2⟩)
     ·exact .inl h
     ·exact .inr (.inl h)
     ·exact .inr (.inr ⟨q,by omega,h2⟩)
    ·rintro (h | h | ⟨q,h1,h2,h3⟩)
     ·exact .inl h
     ·exact .inr (.inl h)
     ·by_cases hq:q=j
      ·subst hq;rw [hmb] at h2;cases h2
      ·exact .inr (.inr ⟨q,by omega,h2,h3⟩),s2⟩,a32⟩
   subst hy2 hy1;exact xEW h1 h2 h3 h4 cm h6 h7 h8 h9 h10 h11 h12 h13 h14 h15 h16 h17 bwy' nx u1 u2 u3 u4 b5 b0 hqb bB
  | true =>
   rw [hmb] at cm;have es':=hs' hmb;have h18:=uF a32;obtain ⟨y3,hy3⟩:∃ y3,y3=y2.row zEO 4:=⟨_,rfl⟩;have ny3:y3.y=y.y+2:=by rw [hy3];show y2.y+1=_;omega
   have M3:New y2 y3:=by rw [hy3];exact New.row _ _ _
   have o3:Own y3 (y.y+1) zEO 4:=by rw [hy3,← ny2];exact zC _ _ _
   have h19:=zUR (show Own y3 (y.y+1) (stL fun _=>zUM) 4 from o3) st;obtain ⟨y4,hy4⟩:∃ y4,y4=y3.own (y.y+1) (stL st) 4:=⟨_,rfl⟩;have ny4:y4.y=y.y+2:=by rw [hy4];exact ny3
   have M4:New y2 y4:=by rw [hy4];exact M3.own (by omega)
   have o4:Own y4 (y.y+1) (stL st) 4:=by rw [hy4];exact o3.put
   have h20:zB Pg y4 87 ⟨y.y,0,none⟩=some (zLT s'):=(oS2.le M4.le).rw.ldN zAV xN (k:=0) (ds:=zEQ s') rfl rfl (nle rfl);have h21:=yPZ o4 hj6 s';obtain ⟨y5,hy5⟩:∃ y5,y5=y4.own (y.y+1) (stL (upd st j s')) 4:=⟨_,rfl⟩;have ny5:y5.y=y.y+2:=by rw [hy5];exact ny4
   have M5:New y2 y5:=by rw [hy5];exact M4.own (by omega)
   have o5:Own y5 (y.y+1) (stL (upd st j s')) 4:=by rw [hy5];exact o4.put
   have lo5:y5.low≤y2.low:=by rw [hy5,hy4,hy3];simp [St.own];omega
   rw [← hy4] at h19;rw [← hy5] at h21;have R5:=R2.new ok M5 lo5;have s5:=s2.le M5.le;have W5:=R5.w;have h22:=lg y5 W5.og;have k5:Only (zMQ G pl) z.re y5:=k2.trans' M5.only (T:=fun _=>False) (fun b _ h=>h.elim);have hst':∀ q,q<G.K.m→StG (upd st j s' q):=fun q hq=>by
    unfold upd;by_cases e1:q=j
    ·subst e1;rw [if_pos rfl,es'];have hmb2:=hmb;unfold zEU at hmb2;have hu:=of_decide_eq_true (Bool.and_eq_true_iff.1 hmb2).2;exact (hst q hq).take ⟨hdt.1,hdt.2.1⟩ ⟨hdt.2.2.1,hdt.2.2.2.1⟩ (by omega) (by have:=ok.ok.sn.j;omega)
    ·rw [if_neg e1];exact hst q hq
   obtain ⟨p',c',y6,y7,g1,g2,g3,g4,g5,g6,g7,g8,g9,g10⟩:=zYX (x:=(j:Int)) ok ih R5 (hCj j) s5 hX (fun b hb=>(hAt b hb).2) (by omega) ⟨pre,hd1,hd2⟩ hst';have n6:=g2.y;have o6:Own y6 (y.y+1) (stL (upd st j s')) 4:=g2.own' o5 (fun h=>by have:=(hAt _ h).2;omega);have W6:=g8;have h24:=uF o6;have M5r:Le y5 (y5.row [iV (j:Int)] 1):=Le.row _ _ _;have h26:zG y5.y [.pointer (some ⟨G.Bg,0,none⟩)]:=(zE (zO (show G.Bg<y5.y by omega)) zH);have h27:zG (y5.row [iV (j:Int)] 1).y [.slice pl who.length lc,.slice (some ⟨y5.y,0,none⟩) 1 1]:=(zE (yH fun a e=>(show a.block<y5.y+1 by have:=bw a e;omega)) (zE (yH fun a e=>by cases e;show y5.y<y5.y+1;omega) zH));have h28:zG y6.y [.pointer (some ⟨y.y+1,0,none⟩)]:=(zE (zO (show y.y+1<y6.y by omega)) zH);have h29:zG y6.y [.func (.func 72) ⟨[]⟩ ⟨G.args⟩,.slice p' (who.length+1) c',.agg ⟨stL (upd st j s')⟩]:=(zE (yOO ok (by omega)) (zE (yH fun a e=>g4 a.block ⟨a,e,rfl⟩) (zE (yL rfl) zH)));have h30:=(⟨⟨show G.Bg<y5.y by omega,gg⟩,h22⟩:(G.Bg<y5.y∧_)∧_);have h31:=(⟨⟨show G.Bg<(y5.row [iV (j:Int)] 1).y by show G.Bg<y5.y+1;omega,gg⟩,lg _ (W5.og.le M5r)⟩:(G.Bg<(y5.row [iV (j:Int)] 1).y∧_)∧_);have h32:=(⟨⟨show G.Bg<y6.y by omega,gg⟩,lg y6 W6.og⟩:(G.Bg<y6.y∧_)∧_);have h33:=(⟨⟨show y.y+1<y5.y by omega,rfl⟩,uF o5⟩:(y.y+1<y5.y∧zL RD (.agg ⟨stL (upd st j s')⟩)=true)∧_);have h34:=(⟨⟨show y.y+1<(y5.row [iV (j:Int)] 1).y by show y.y+1<y5.y+1;omega,rfl⟩,uF (o5.le M5r)⟩:(y.y+1<(y5.row [iV (j:Int)] 1).y∧zL RD (.agg ⟨stL (upd st j s')⟩)=true)∧_);have h35:=(⟨⟨show y.y+1<y6.y by omega,rfl⟩,h24⟩:(y.y+1<y6.y∧zL RD (.agg ⟨stL (upd st j s')⟩)=true)∧_);have nx:∃ k',k' < k∧∃ j':Nat,(j:Int)+1=j'∧j'+k'=G.K.m∧J j' y7:=by
    obtain ⟨F7,X7,e7,o7,r7,s7⟩:=g10;have g7n:=g7.y;refine ⟨k-1,by omega,j+1,by omega,by omega,eas y5 p' y6 y7 k5 (by omega) g2 g3 g7,by omega,⟨F7,X7,e7,o7,r7.iff fun a v=>?_,s7⟩,(hownS y5 p' y6 y7 (by omega) g2 g3 g7 ((a32).le M5.le)).2⟩
    show (Cj j a v∨_)↔Cj (j+1) a v;have etk:zWB G.K.w st j i=upd st j s':=by rw [es'];rfl
    constructor
    ·rintro ((h | h | ⟨q,h1,h2⟩) | h)
     ·exact .inl h
     ·exact .inr (.inl h)
     ·exact .inr (.inr ⟨q,by omega,h2⟩)
     ·exact .inr (.inr ⟨j,by omega,hmb,by rw [etk];exact h⟩)
    ·rintro (h | h | ⟨q,h1,h2,h3⟩)
     ·exact .inl (.inl h)
     ·exact .inl (.inr (.inl h))
     ·by_cases hq:q=j
      ·subst hq;rw [etk] at h3;exact .inr h3
      ·exact .inl (.inr (.inr ⟨q,by omega,h2,h3⟩))
   subst hy3 hy2 hy1;exact xEX h1 h2 h3 h4 cm h6 h7 h8 h9 h10 h11 h12 h13 h14 h15 h16 h17 h18 h19 h20 h21 h22 g1 h24 g6 h26 h27 h28 h29 h30 h31 h32 h33 h34 h35 bwy' nx u1 u2 u3 u4 b5 b0 hqb bB
 have l32:∀ u,Row u ⟨G.K.Bp,0,none⟩ G.K.row→zB Pg u 41 (zN ⟨G.K.Bp,0,none⟩ 2)=some (.slice G.K.q G.K.m G.K.d):=fun u o=>o.load1 zAE rfl
 have W1:=R1.w;have h1:=lu τ1 W1.ou;have h2:=lq τ1 W1.oq;have h3:zB Pg τ1 4 (zN ⟨G.K.Bp,0,none⟩ 6)=some (.bool G.K.leaves):=W1.w.pr.load1 xFF rfl;have u1:¬ ((who.length:Nat):Int)=((G.du.length:Nat):Int):=by omega
 have bg:G.Bg<z.re.y:=by show G.Bg<z.y;omega
 have k0:∀ s,P0 s→zHM pl who.length lc ⟨G.Bu,0,none⟩ ⟨G.Bg,0,none⟩ ⟨G.By,0,none⟩ z.re.y G.K.m s (fun v s=>Only (zMQ G pl) z.re s∧(s.low<z.y∨zV RD v=false∨(v=.tuple ⟨[]⟩∧zMR G z F X e o (fun c v=>C c v∨G.give (i::rest) who st c v) pl lc who sf z))∧(v=.tuple ⟨[]⟩∧zMR G z F X e o (fun c v=>C c v∨G.give (i::rest) who st c v) pl lc who sf s)):=fun s h=>yOL h
 cases hlv:G.K.leaves with
 | false =>
  rw [hlv] at h3;have hJ0:J 0 τ1:=⟨N1.only,Nat.le_refl _,⟨F,X,e,o,R1.iff fun a v=>by
   show C a v↔Cj 0 a v;constructor
   ·exact fun h=>.inl h
   ·rintro (h | ⟨h,_⟩ | ⟨q,h,_⟩)
    ·exact h
    ·rw [hlv] at h;cases h
    ·omega,S1⟩,oN1⟩
  have hL:=hloop τ1 hJ0;have h4:=l32 τ1 W1.w.pr;subst hτ1;exact xMP h1 h2 h3 h4 hL k0 u1
 | true =>
  rw [hlv] at h3;obtain ⟨p',c',y4,y5,g1,g2,g3,g4,g5,g6,g7,g8,g9,g10⟩:=zYX (x:=-1) ok ih R1 hC S1 hX (fun b hb=>(hAt b hb).2) (by omega) ⟨pre,hd1,hd2⟩ hst;have n4:=g2.y;have n5:=g7.y;have g2':Only (AtP pl) τ1 y4:=g2;obtain ⟨o4,o5⟩:=hownS τ1 p' y4 y5 (by omega) g2 g3 g7 oN1;have M1r:Le τ1 (τ1.row [iV (-1)] 1):=Le.row _ _ _;obtain ⟨F5,X5,e5,o5',r5,s5⟩:=g10;have h4:=lg τ1 W1.og;have h6:=uF o4;have h8:zG y4.y [.pointer (some ⟨z.re.y,0,none⟩)]:=(zE (zO (show z.y<y4.y by omega)) zH);have h9:zG y4.y [.func (.func 72) ⟨[]⟩ ⟨G.args⟩,.slice p' (who.length+1) c',.agg ⟨stL st⟩]:=(zE (yOO ok (by omega)) (zE (yH fun a e=>g4 a.block ⟨a,e,rfl⟩) (zE (yL rfl) zH)));have h10:=(⟨⟨show G.Bg<τ1.y by omega,gg⟩,h4⟩:(G.Bg<τ1.y∧_)∧_);have h11:=(⟨⟨show G.Bg<(τ1.row [iV (-1)] 1).y by show G.Bg<τ1.y+1;omega,gg⟩,lg _ (W1.og.le M1r)⟩:(G.Bg<(τ1.row [iV (-1)] 1).y∧_)∧_);have h12:=(⟨⟨show G.Bg<y4.y by omega,gg⟩,lg y4 g8.og⟩:(G.Bg<y4.y∧_)∧_);have h13:=uF oN1;have h14:=uF (oN1.le M1r);have h15:=(⟨⟨show z.y<y4.y by omega,rfl⟩,h6⟩:(z.y<y4.y∧zL RD (.agg ⟨stL st⟩)=true)∧_);have h16:=lq y5 r5.w.oq;have h17:=l32 y5 r5.w.w.pr;have hJ0:J 0 y5:=⟨eas τ1 p' y4 y5 N1.only (by omega) g2 g3 g7,by omega,⟨F5,X5,e5,o5',r5.iff fun a v=>by
   show _↔Cj 0 a v;constructor
   ·rintro (h | h)
    ·exact .inl h
    ·exact .inr (.inl ⟨hlv,h⟩)
   ·rintro (h | ⟨_,h⟩ | ⟨q,h,_⟩)
    ·exact .inl h
    ·exact .inr h
    ·omega,s5⟩,o5⟩
  have hL:=hloop y5 hJ0;subst hτ1;exact xMQ h1 h2 h3 h4 g1 h6 g6 h8 h9 h10 h11 h12 h13 h14 h15 h16 h17 bw hL k0 u1 bg
theorem xLK (ok:G.Ok) (hb:zQI G.K G.r):∀ rest:List Nat,yPE G rest
 | []=>xLJ ok hb
 | i::rest=>xDO ok hb (xLK ok hb rest)
end
section
variable {p a22 a25:Addr} {s_d n1 n2 n4 n5 n6 n7 n8 n9 n13 n16 n17 n18 n19 n27 n29 n30 n31 n32 n33 n34 n38 n39 n40 n41 n42 n43 n47 n48 n49 n50 n51 n52:Int} {s f23 f28:Nat→Std} {σ σ21 σ24 σ37 σ46:St} {Q:vPa} {m3 l10 c10 l14 c14 l15 c15 l20 c20 m26 l35 c35 l44 c44 l53 c53:Nat} {q10 q14 q15 q20 q35 q44 q53:oAa} {b11 b36 b45 b54:Bool}
theorem xSF:let s1:=σ.row [pz p] 1;let s2:=s1.row (iV s_d::stL s) (iV s_d::stL s).length;let s3:=s2.row [iV 0,iV 0,iV 0,iV 0,iV 0,iV 0,.slice none 0 0,.bool false] 8;let s4:=s3.own (σ.y+2) [iV 0,iV 0,iV 0,iV 0,iV 0,iV 0,.slice none 0 0,.bool true] 8;∀ (h1:lz s3 3 ⟨(σ.y+1),0,none⟩ (iV n1)) (h2:lz s3 3 p (iV n2)) (nx:Q (qh [iV 0,iV 0,iV 0,iV 0,iV 0,iV 0,.slice none 0 0,.bool true]) s4) (u1:n1=n2:=by omega),qi 53 [pz p,qh (iV s_d::stL s)] σ Q:=
 let s1:=σ.row [pz p] 1;let s2:=s1.row (iV s_d::stL s) (iV s_d::stL s).length;let s3:=s2.row [iV 0,iV 0,iV 0,iV 0,iV 0,iV 0,.slice none 0 0,.bool false] 8;let s4:=s3.own (σ.y+2) [iV 0,iV 0,iV 0,iV 0,iV 0,iV 0,.slice none 0 0,.bool true] 8;fun h1 h2 nx u1=>zI [.g,.g,.g,.g,.l (iV n1),.l (pz p),.g,.g,.g,.l (iV n2),.b true,.g,.e undef s4,.l (qh [iV 0,iV 0,iV 0,iV 0,iV 0,iV 0,.slice none 0 0,.bool true])] (kd (an6 h1 ((zC _ _ _).row.row.rw.ld uR (k:=0) rfl:lz s3 103 (qg σ.y 0) (pz p)) h2 (xH u1) ((zC _ _ _).store (vs:=[iV 0,iV 0,iV 0,iV 0,iV 0,iV 0,.slice none 0 0,.bool true]) rfl uA rfl (nle rfl) rfl:qq (evL [pq ((σ.y+2)) 0,qh [iV 0,iV 0,iV 0,iV 0,iV 0,iV 0,.slice none 0 0,.bool true]]) s3 (.store 108 (.tmp 0) (.tmp 1))=some (undef,s4)) ((zC _ _ _).put.rw.ldN yIO uA (k:=0) rfl rfl (nle rfl):lz s4 108 ⟨(σ.y+2),0,none⟩ (qh [iV 0,iV 0,iV 0,iV 0,iV 0,iV 0,.slice none 0 0,.bool true])) nx))
theorem xSE:let s1:=σ.row [pz p] 1;let s2:=s1.row (iV s_d::stL s) (iV s_d::stL s).length;let s3:=s2.row [iV 0,iV 0,iV 0,iV 0,iV 0,iV 0,.slice none 0 0,.bool false] 8;let s4:=s3.row [iV 0,iV 0,iV 0,iV 0,iV 0,iV 0,.slice none 0 0,.bool false] 8;let s5:=s4.own (σ.y+3) [iV n4,iV n5,iV n6,iV n7,iV n8,iV n9,.slice q10 l10 c10,.bool b11] 8;let s6:=s5.own (σ.y+2) [iV n4,iV n5,iV n6,iV n7,iV n8,iV n9,.slice q10 l10 c10,.bool b11] 8;let s7:=σ.y+1;∀ (h1:lz s3 3 (qg s7 0) (iV n1)) (h2:lz s3 3 p (iV n2)) (h3:lz s3 104 (zN p 8) (.map (some m3))) (h4:lz s3 111 (qg s7 0) (qh (iV s_d::stL s))) (h5:xO Pg (evL [.map (some m3),qh (iV s_d::stL s)]) s3 (.lookup 104 (.tmp 0) (.tmp 1) true)=some (.tuple ⟨[qh [iV n4,iV n5,iV n6,iV n7,iV n8,iV n9,.slice q10 l10 c10,.bool b11],.bool true]⟩)) (h6:zG s3.y [.map (some m3),qh (iV s_d::stL s)]) (h7:zG s4.y [pq ((σ.y+3)) 0,qh [iV n4,iV n5,iV n6,iV n7,iV n8,iV n9,.slice q10 l10 c10,.bool b11]]) (h8:lz s4 103 (qg σ.y 0) (pz p)) (h9:lz s4 104 (zN p 8) (.map (some m3))) (h10:lz s4 111 (qg s7 0) (qh (iV s_d::stL s))) (h11:((zG s3.y [.map (some m3),qh (iV s_d::stL s)]∧zL RD (.tuple ⟨[qh [iV n4,iV n5,iV n6,iV n7,iV n8,iV n9,.slice q10 l10 c10,.bool b11],.bool true]⟩)=true)∧xO Pg (evL [.map (some m3),qh (iV s_d::stL s)]) s3 (.lookup 104 (.tmp 0) (.tmp 1) true)=some (.tuple ⟨[qh [iV n4,iV n5,iV n6,iV n7,iV n8,iV n9,.slice q10 l10 c10,.bool b11],.bool true]⟩))) (h12:((zG s4.y [.map (some m3),qh (iV s_d::stL s)]∧zL RD (.tuple ⟨[qh [iV n4,iV n5,iV n6,iV n7,iV n8,iV n9,.slice q10 l10 c10,.bool b11],.bool true]⟩)=true)∧xO Pg (evL [.map (some m3),qh (iV s_d::stL s)]) s4 (.lookup 104 (.tmp 0) (.tmp 1) true)=some (.tuple ⟨[qh [iV n4,iV n5,iV n6,iV n7,iV n8,iV n9,.slice q10 l10 c10,.bool b11],.bool true]⟩))) (nx:Q (qh [iV n4,iV n5,iV n6,iV n7,iV n8,iV n9,.slice q10 l10 c10,.bool b11]) s6) (u1:¬ n1=n2:=by omega) (eN:p.block<σ.y:=by omega),qi 53 [pz p,qh (iV s_d::stL s)] σ Q:=
 let s1:=σ.row [pz p] 1;let s2:=s1.row (iV s_d::stL s) (iV s_d::stL s).length;let s3:=s2.row [iV 0,iV 0,iV 0,iV 0,iV 0,iV 0,.slice none 0 0,.bool false] 8;let s4:=s3.row [iV 0,iV 0,iV 0,iV 0,iV 0,iV 0,.slice none 0 0,.bool false] 8;let s5:=s4.own (σ.y+3) [iV n4,iV n5,iV n6,iV n7,iV n8,iV n9,.slice q10 l10 c10,.bool b11] 8;let s6:=s5.own (σ.y+2) [iV n4,iV n5,iV n6,iV n7,iV n8,iV n9,.slice q10 l10 c10,.bool b11] 8;let s7:=σ.y+1;fun h1 h2 h3 h4 h5 h6 h7 h8 h9 h10 h11 h12 nx u1 eN=>zI [.g,.g,.g,.g,.l (iV n1),.l (pz p),.g,.g,.g,.l (iV n2),.b false,.l (pz p),.g,.g,.l (.map (some m3)),.l (qh (iV s_d::stL s)),.v (.tuple ⟨[qh [iV n4,iV n5,iV n6,iV n7,iV n8,iV n9,.slice q10 l10 c10,.bool b11],.bool true]⟩),.g,.g,.g,.g,.e undef s5,.g,.g,.l (qh [iV n4,iV n5,iV n6,iV n7,iV n8,iV n9,.slice q10 l10 c10,.bool b11]),.e undef s6,.l (qh [iV n4,iV n5,iV n6,iV n7,iV n8,iV n9,.slice q10 l10 c10,.bool b11])] (kd (ai h1 (an6 ((zC _ _ _).row.row.rw.ld uR (k:=0) rfl:lz s3 103 (qg σ.y 0) (pz p)) h2 (xL u1) ((zC _ _ _).row.row.rw.ld uR (k:=0) rfl:lz s3 103 (qg σ.y 0) (pz p)) h3 h4 (an6 h5 ((zC _ _ _).store (vs:=[iV n4,iV n5,iV n6,iV n7,iV n8,iV n9,.slice q10 l10 c10,.bool b11]) rfl uA rfl (nle rfl) rfl:qq (evL [pq ((σ.y+3)) 0,qh [iV n4,iV n5,iV n6,iV n7,iV n8,iV n9,.slice q10 l10 c10,.bool b11]]) s4 (.store 108 (.tmp 0) (.tmp 1))=some (undef,s5)) ((zE (zO (nlt σ.y 0 3 rfl)) zH):zG s3.y [pq σ.y 0]) ((zE (zO (vK eN 3)) zH):zG s3.y [pz (zN p 8)]) ((zE (zO (nlt σ.y 1 3 rfl)) zH):zG s3.y [pq s7 0]) h6 (an6 h7 (⟨⟨(nlt σ.y 0 3 rfl),rfl⟩,((zC _ _ _).row.row.rw.ld uR (k:=0) rfl)⟩:(zLq s3 103 (qg σ.y 0) (pz p))) (⟨⟨(nlt σ.y 0 4 rfl),rfl⟩,h8⟩:(zLq s4 103 (qg σ.y 0) (pz p))) (⟨⟨(vK eN 3),rfl⟩,h3⟩:(zLq s3 104 (zN p 8) (.map (some m3)))) (⟨⟨(vK eN 4),rfl⟩,h9⟩:(zLq s4 104 (zN p 8) (.map (some m3)))) (⟨⟨(nlt σ.y 1 3 rfl),rfl⟩,h4⟩:(zLq s3 111 (qg s7 0) (qh (iV s_d::stL s)))) (an6 (⟨⟨(nlt σ.y 1 4 rfl),rfl⟩,h10⟩:(zLq s4 111 (qg s7 0) (qh (iV s_d::stL s)))) h11 h12 ((zC _ _ _).put.rw.ldN yIO uA (k:=0) rfl rfl (nle rfl):lz s5 108 ⟨(σ.y+3),0,none⟩ (qh [iV n4,iV n5,iV n6,iV n7,iV n8,iV n9,.slice q10 l10 c10,.bool b11])) (((zC _ _ _).row.own (nne σ.y 2 3 rfl)).store (vs:=[iV n4,iV n5,iV n6,iV n7,iV n8,iV n9,.slice q10 l10 c10,.bool b11]) rfl uA rfl (nle rfl) rfl:qq (evL [pq ((σ.y+2)) 0,qh [iV n4,iV n5,iV n6,iV n7,iV n8,iV n9,.slice q10 l10 c10,.bool b11]]) s5 (.store 108 (.tmp 0) (.tmp 1))=some (undef,s6)) (((zC _ _ _).row.own (nne σ.y 2 3 rfl)).put.rw.ldN yIO uA (k:=0) rfl rfl (nle rfl):lz s6 108 ⟨(σ.y+2),0,none⟩ (qh [iV n4,iV n5,iV n6,iV n7,iV n8,iV n9,.slice q10 l10 c10,.bool b11])) nx))))))
theorem xSD:let s1:=σ.row [pz p] 1;let s2:=s1.row (iV s_d::stL s) (iV s_d::stL s).length;let s3:=s2.row [iV 0,iV 0,iV 0,iV 0,iV 0,iV 0,.slice none 0 0,.bool false] 8;let s4:=s3.row [iV 0,iV 0,iV 0,iV 0,iV 0,iV 0,.slice none 0 0,.bool false] 8;let s5:=s4.own (σ.y+3) [iV n4,iV n5,iV n6,iV n7,iV n8,iV n9,.slice q10 l10 c10,.bool b11] 8;let s6:=σ21.row [.slice none 0 0] 1;let s7:=s6.own σ21.y [.slice q20 l20 c20] 1;let s8:=s7.row [.nilFunc] 1;let s13:=σ.y+1;let s14:=σ21.y+3;let s15:=σ21.y+1;let s9:=s8.own s15 [.func (.func 71) ⟨[pz a22]⟩ ⟨[]⟩] 1;let s10:=s9.row [iV 0,iV 0,iV 0,iV 0,iV 0,iV 0,.slice none 0 0,.bool false] 8;let s11:=s10.row [.nilFunc] 1;let s16:=σ21.y+2;let s12:=s11.own s14 [.func (.func 72) ⟨[]⟩ ⟨[pq σ21.y 0,pq σ.y 0,pq s13 0,pq s16 0,pq s14 0,pq s15 0]⟩] 1;∀ (h1:lz s3 3 (qg s13 0) (iV n1)) (h2:lz s3 3 p (iV n2)) (h3:lz s3 104 (zN p 8) (.map (some m3))) (h4:lz s3 111 (qg s13 0) (qh (iV s_d::stL s))) (h5:xO Pg (evL [.map (some m3),qh (iV s_d::stL s)]) s3 (.lookup 104 (.tmp 0) (.tmp 1) true)=some (.tuple ⟨[qh [iV n4,iV n5,iV n6,iV n7,iV n8,iV n9,.slice q10 l10 c10,.bool b11],.bool false]⟩)) (h6:zG s3.y [.map (some m3),qh (iV s_d::stL s)]) (h7:zG s4.y [pq ((σ.y+3)) 0,qh [iV n4,iV n5,iV n6,iV n7,iV n8,iV n9,.slice q10 l10 c10,.bool b11]]) (h8:lz s4 103 (qg σ.y 0) (pz p)) (h9:lz s4 104 (zN p 8) (.map (some m3))) (h10:lz s4 111 (qg s13 0) (qh (iV s_d::stL s))) (h11:((zG s3.y [.map (some m3),qh (iV s_d::stL s)]∧zL RD (.tuple ⟨[qh [iV n4,iV n5,iV n6,iV n7,iV n8,iV n9,.slice q10 l10 c10,.bool b11],.bool false]⟩)=true)∧xO Pg (evL [.map (some m3),qh (iV s_d::stL s)]) s3 (.lookup 104 (.tmp 0) (.tmp 1) true)=some (.tuple ⟨[qh [iV n4,iV n5,iV n6,iV n7,iV n8,iV n9,.slice q10 l10 c10,.bool b11],.bool false]⟩))) (h12:((zG s4.y [.map (some m3),qh (iV s_d::stL s)]∧zL RD (.tuple ⟨[qh [iV n4,iV n5,iV n6,iV n7,iV n8,iV n9,.slice q10 l10 c10,.bool b11],.bool false]⟩)=true)∧xO Pg (evL [.map (some m3),qh (iV s_d::stL s)]) s4 (.lookup 104 (.tmp 0) (.tmp 1) true)=some (.tuple ⟨[qh [iV n4,iV n5,iV n6,iV n7,iV n8,iV n9,.slice q10 l10 c10,.bool b11],.bool false]⟩))) (h13:lz s5 43 p (qh (wkc n13 q14 l14 c14 q15 l15 c15 n16 n17 n18))) (h14:lz s5 3 (qg s13 0) (iV n19)) (h15:qn 54 [qh (wkc n13 q14 l14 c14 q15 l15 c15 n16 n17 n18),iV n19] s5 (.slice q20 l20 c20) σ21) (h16:zG s5.y [qh (wkc n13 q14 l14 c14 q15 l15 c15 n16 n17 n18),iV n19]) (h17:zG s6.y [pq σ21.y 0,.slice q20 l20 c20]) (h18:(zLq σ21 103 (qg σ.y 0) (pz p))) (h19:(zLq s6 103 (qg σ.y 0) (pz p))) (h20:(zLq σ21 43 p (qh (wkc n13 q14 l14 c14 q15 l15 c15 n16 n17 n18)))) (h21:(zLq s6 43 p (qh (wkc n13 q14 l14 c14 q15 l15 c15 n16 n17 n18)))) (h22:(zLq σ21 3 (qg s13 0) (iV n19))) (h23:(zLq s6 3 (qg s13 0) (iV n19))) (h24:lz s7 103 (qg σ.y 0) (pz a22)) (h25:lz s12 89 (qg s13 1) (qh (stL f23))) (h26:qn 72 [.slice none 0 0,qh (stL f23),pq σ21.y 0,pq σ.y 0,pq s13 0,pq s16 0,pq s14 0,pq s15 0] s12 (.tuple ⟨[]⟩) σ24) (h27:lz σ24 103 (qg σ.y 0) (pz a25)) (h28:lz σ24 104 (zN a25 8) (.map (some m26))) (h29:lz σ24 111 (qg s13 0) (qh (iV n27::stL f28))) (h30:lz σ24 108 (qg s16 0) (qh [iV n29,iV n30,iV n31,iV n32,iV n33,iV n34,.slice q35 l35 c35,.bool b36])) (h31:qq (evL [.map (some m26),qh (iV n27::stL f28),qh [iV n29,iV n30,iV n31,iV n32,iV n33,iV n34,.slice q35 l35 c35,.bool b36]]) σ24 (.mapUpdate 104 (.tmp 0) (.tmp 1) (.tmp 2))=some (undef,σ37)) (h32:lz σ37 108 (qg s16 0) (qh [iV n38,iV n39,iV n40,iV n41,iV n42,iV n43,.slice q44 l44 c44,.bool b45])) (h33:qq (evL [pq ((σ.y+2)) 0,qh [iV n38,iV n39,iV n40,iV n41,iV n42,iV n43,.slice q44 l44 c44,.bool b45]]) σ37 (.store 108 (.tmp 0) (.tmp 1))=some (undef,σ46)) (h34:lz σ46 108 ⟨(σ.y+2),0,none⟩ (qh [iV n47,iV n48,iV n49,iV n50,iV n51,iV n52,.slice q53 l53 c53,.bool b54])) (nx:Q (qh [iV n47,iV n48,iV n49,iV n50,iV n51,iV n52,.slice q53 l53 c53,.bool b54]) σ46) (u1:¬ n1=n2:=by omega) (eN:p.block<σ.y:=by omega),qi 53 [pz p,qh (iV s_d::stL s)] σ Q:=
 let s1:=σ.row [pz p] 1;let s2:=s1.row (iV s_d::stL s) (iV s_d::stL s).length;let s3:=s2.row [iV 0,iV 0,iV 0,iV 0,iV 0,iV 0,.slice none 0 0,.bool false] 8;let s4:=s3.row [iV 0,iV 0,iV 0,iV 0,iV 0,iV 0,.slice none 0 0,.bool false] 8;let s5:=s4.own (σ.y+3) [iV n4,iV n5,iV n6,iV n7,iV n8,iV n9,.slice q10 l10 c10,.bool b11] 8;let s6:=σ21.row [.slice none 0 0] 1;let s7:=s6.own σ21.y [.slice q20 l20 c20] 1;let s8:=s7.row [.nilFunc] 1;let s13:=σ.y+1;let s14:=σ21.y+3;let s15:=σ21.y+1;let s9:=s8.own s15 [.func (.func 71) ⟨[pz a22]⟩ ⟨[]⟩] 1;let s10:=s9.row [iV 0,iV 0,iV 0,iV 0,iV 0,iV 0,.slice none 0 0,.bool false] 8;let s11:=s10.row [.nilFunc] 1;let s16:=σ21.y+2;let s12:=s11.own s14 [.func (.func 72) ⟨[]⟩ ⟨[pq σ21.y 0,pq σ.y 0,pq s13 0,pq s16 0,pq s14 0,pq s15 0]⟩] 1;fun h1 h2 h3 h4 h5 h6 h7 h8 h9 h10 h11 h12 h13 h14 h15 h16 h17 h18 h19 h20 h21 h22 h23 h24 h25 h26 h27 h28 h29 h30 h31 h32 h33 h34 nx u1 eN=>zI [.g,.g,.g,.g,.l (iV n1),.l (pz p),.g,.g,.g,.l (iV n2),.b false,.l (pz p),.g,.g,.l (.map (some m3)),.l (qh (iV s_d::stL s)),.v (.tuple ⟨[qh [iV n4,iV n5,iV n6,iV n7,iV n8,iV n9,.slice q10 l10 c10,.bool b11],.bool false]⟩),.g,.g,.g,.g,.e undef s5,.g,.g,.l (pz p),.g,.g,.l (qh (wkc n13 q14 l14 c14 q15 l15 c15 n16 n17 n18)),.g,.l (iV n19),.c (.slice q20 l20 c20) σ21,.g,.e undef s7,.l (pz a22),.g,.g,.e undef s9,.g,.g,.g,.e undef s12,.l (.func (.func 72) ⟨[]⟩ ⟨[pq σ21.y 0,pq σ.y 0,pq s13 0,pq s16 0,pq s14 0,pq s15 0]⟩),.g,.l (qh (stL f23)),.c (.tuple ⟨[]⟩) σ24,.l (pz a25),.g,.g,.l (.map (some m26)),.l (qh (iV n27::stL f28)),.l (qh [iV n29,iV n30,iV n31,iV n32,iV n33,iV n34,.slice q35 l35 c35,.bool b36]),.e undef σ37,.l (qh [iV n38,iV n39,iV n40,iV n41,iV n42,iV n43,.slice q44 l44 c44,.bool b45]),.e undef σ46,.l (qh [iV n47,iV n48,iV n49,iV n50,iV n51,iV n52,.slice q53 l53 c53,.bool b54])] (kd (an4 h1 ((zC _ _ _).row.row.rw.ld uR (k:=0) rfl:lz s3 103 (qg σ.y 0) (pz p)) h2 (xL u1) (an6 ((zC _ _ _).row.row.rw.ld uR (k:=0) rfl:lz s3 103 (qg σ.y 0) (pz p)) h3 h4 h5 ((zC _ _ _).store (vs:=[iV n4,iV n5,iV n6,iV n7,iV n8,iV n9,.slice q10 l10 c10,.bool b11]) rfl uA rfl (nle rfl) rfl:qq (evL [pq ((σ.y+3)) 0,qh [iV n4,iV n5,iV n6,iV n7,iV n8,iV n9,.slice q10 l10 c10,.bool b11]]) s4 (.store 108 (.tmp 0) (.tmp 1))=some (undef,s5)) ((zE (zO (nlt σ.y 0 3 rfl)) zH):zG s3.y [pq σ.y 0]) (an6 ((zE (zO (vK eN 3)) zH):zG s3.y [pz (zN p 8)]) ((zE (zO (nlt σ.y 1 3 rfl)) zH):zG s3.y [pq s13 0]) h6 h7 (⟨⟨(nlt σ.y 0 3 rfl),rfl⟩,((zC _ _ _).row.row.rw.ld uR (k:=0) rfl)⟩:(zLq s3 103 (qg σ.y 0) (pz p))) (⟨⟨(nlt σ.y 0 4 rfl),rfl⟩,h8⟩:(zLq s4 103 (qg σ.y 0) (pz p))) (an6 (⟨⟨(vK eN 3),rfl⟩,h3⟩:(zLq s3 104 (zN p 8) (.map (some m3)))) (⟨⟨(vK eN 4),rfl⟩,h9⟩:(zLq s4 104 (zN p 8) (.map (some m3)))) (⟨⟨(nlt σ.y 1 3 rfl),rfl⟩,h4⟩:(zLq s3 111 (qg s13 0) (qh (iV s_d::stL s)))) (⟨⟨(nlt σ.y 1 4 rfl),rfl⟩,h10⟩:(zLq s4 111 (qg s13 0) (qh (iV s_d::stL s)))) h11 h12 (an6 (((zC _ _ _).row.row.row.own (nne σ.y 0 3 rfl)).rw.ld uR (k:=0) rfl:lz s5 103 (qg σ.y 0) (pz p)) h13 h14 h15 ((zC _ _ _).store (vs:=[.slice q20 l20 c20]) rfl yQG rfl (nle rfl) rfl:qq (evL [pq σ21.y 0,.slice q20 l20 c20]) s6 (.store 29 (.tmp 0) (.tmp 1))=some (undef,s7)) ((zE (zO (nlt σ.y 0 4 rfl)) zH):zG s5.y [pq σ.y 0]) (an6 ((zE (zO (vK eN 4)) zH):zG s5.y [pz p]) ((zE (zO (nlt σ.y 1 4 rfl)) zH):zG s5.y [pq s13 0]) h16 h17 h18 h19 (an6 h20 h21 h22 h23 h24 ((zC _ _ _).store (vs:=[.func (.func 71) ⟨[pz a22]⟩ ⟨[]⟩]) rfl xOW rfl (nle rfl) rfl:qq (evL [pq s15 0,.func (.func 71) ⟨[pz a22]⟩ ⟨[]⟩]) s8 (.store 120 (.tmp 0) (.tmp 1))=some (undef,s9)) (an6 ((zC _ _ _).store (vs:=[.func (.func 72) ⟨[]⟩ ⟨[pq σ21.y 0,pq σ.y 0,pq s13 0,pq s16 0,pq s14 0,pq s15 0]⟩]) rfl xOV rfl (nle rfl) rfl:qq (evL [pq s14 0,.func (.func 72) ⟨[]⟩ ⟨[pq σ21.y 0,pq σ.y 0,pq s13 0,pq s16 0,pq s14 0,pq s15 0]⟩]) s11 (.store 121 (.tmp 0) (.tmp 1))=some (undef,s12)) ((zC _ _ _).put.rw.ld xNK (k:=0) rfl:lz s12 121 (qg s14 0) (.func (.func 72) ⟨[]⟩ ⟨[pq σ21.y 0,pq σ.y 0,pq s13 0,pq s16 0,pq s14 0,pq s15 0]⟩)) h25 h26 h27 h28 (an6 h29 h30 h31 h32 h33 h34 nx))))))))))
end
section
variable {K:PlK} {z:St} {F:Key→Option EndR} {X:Nat→Prop}
def zGD (K:PlK) (r D:Nat) (st:Nat→Std) (z:St) (F:Key→Option EndR) (X:Nat→Prop) (v:Value) (s:St):Prop:=∃ e o F' X',v=zCZ e∧PlW K s F' X'∧EndP s X' e o∧xU 6 (K.ch r D st) o∧(∀ b,X b→X' b)∧(∀ b,X' b→X b∨z.y≤b)∧(s.low≤K.bm∨(F'=F∧X'=X))
theorem zGD.low {r D:Nat} {st:Nat→Std} {v:Value} {s:St} {m:Nat} (hm:m≤s.low) (h:zGD K r D st z F X v s):zGD K r D st z F X v ⟨s.heap,s.y,m⟩:=by
 obtain ⟨e,o,F',X',h1,h2,h3,h4,h5,h6,h7⟩:=h;have k:Le s ⟨s.heap,s.y,m⟩:=⟨Nat.le_refl _,fun _ _=>rfl⟩;refine ⟨e,o,F',X',h1,h2.le k,h3.le k,h4,h5,h6, ?_⟩
 rcases h7 with h | h
 ·exact .inl (Nat.le_trans hm h)
 ·exact .inr h
theorem yZC {b n:Nat} (h:b<n):yX RD n (.map (some b))=true:=by
 show Nat.blt b n=true;exact (xY _ _).2 h
theorem yZB (r:Nat) (h:∀ (z:St) (F:Key→Option EndR) (X:Nat→Prop) (D:Nat) (st:Nat→Std),D+r=K.n→PlW K z F X→(∀ k,k<K.m→StG (st k))→zP Pg 53 [.pointer (some ⟨K.Bp,0,none⟩),.agg ⟨iV (D:Int)::stL st⟩] z.re fun v s=>Only (·=K.bm) z.re s∧(s.low<z.y∨zV RD v=false∨zGD K r D st z F X v z)∧zGD K r D st z F X v s):zQI K r:=by
 intro z F X D st hr W hst;obtain ⟨v,s,h1,h2,e,o,F',X',rfl,h3⟩:=xVD (h z F X D st hr W hst) (fun v s m hm q=>q.low hm);exact ⟨s,e,o,F',X',h1,h2,h3⟩
theorem xET (ok:K.Ok):zQI K 0:=by
 refine yZB 0 fun z F X D st hr W hst=>?_
 have zr:z.re.y=z.y:=rfl;obtain ⟨τ1,hτ1⟩:∃ τ1,τ1=((z.re.row [.pointer (some ⟨K.Bp,0,none⟩)] 1).row (iV (D:Int)::stL st) (iV (D:Int)::stL st:List Value).length).row [iV 0,iV 0,iV 0,iV 0,iV 0,iV 0,.slice none 0 0,.bool false] 8:=⟨_,rfl⟩;have N1:New z.re τ1:=by rw [hτ1];exact ((New.row _ _ _).row').row'
 have o1:Own τ1 (z.y+1) (iV (D:Int)::stL st) (iV (D:Int)::stL st:List Value).length:=by rw [hτ1];exact (zC _ _ _).row
 have h1:zB Pg τ1 3 ⟨z.re.y+1,0,none⟩=some (iV (D:Int)):=o1.ld (k:=0) rfl zS rfl;have h2:zB Pg τ1 3 ⟨K.Bp,0,none⟩=some (iV K.w.M):=(W.pr.le ((le0 z).trans N1.le)).ld zS rfl;obtain ⟨τ2,hτ2⟩:∃ τ2,τ2=τ1.own (z.re.y+2) (zEJ ⟨zCV,none,0,0,true⟩) 8:=⟨_,rfl⟩;have N2:New z.re τ2:=by rw [hτ2];exact N1.own (by omega)
 have L2:Le z τ2:=(le0 z).trans N2.le;have eo:∀ s,EndP s X ⟨zCV,none,0,0,true⟩ (some ([],zCV)):=fun s=>⟨rfl,(fun x hx=>by simp [zCV] at hx;omega),(fun b hb=>by obtain ⟨a,e,_⟩:=hb;cases e),rfl,rfl,⟨SlP.nil _ _,rfl,fun v hv=>by cases hv⟩⟩
 have hb:xU 6 (K.ch 0 D st) (some ([],zCV)):=⟨⟨rfl,rfl⟩,rfl,fun b u hc=>by rw [hc.2];exact zGU _⟩;have key:∀ s,Le z s→zGD K 0 D st z F X (zCZ ⟨zCV,none,0,0,true⟩) s:=fun s hs=>⟨_,_,F,X,rfl,W.le hs,eo s,hb,fun _ h=>h,fun _ h=>.inl h,.inr ⟨rfl,rfl⟩⟩
 have nx:Only (·=K.bm) z.re τ2∧(τ2.low<z.y∨zV RD (zCZ ⟨zCV,none,0,0,true⟩)=false∨zGD K 0 D st z F X (zCZ ⟨zCV,none,0,0,true⟩) z)∧zGD K 0 D st z F X (zCZ ⟨zCV,none,0,0,true⟩) τ2:=⟨N2.only,.inr (.inr (key z (Le.refl _))),key τ2 L2⟩;have u1:(D:Int)=K.w.M:=by have:=ok.dn;omega
 subst hτ2 hτ1;exact xSF h1 h2 nx u1
theorem xEU (ok:K.Ok) {r:Nat} (ih:zQI K r):zQI K (r+1):=by
 refine yZB (r+1) fun z F X D st hr W hst=>?_
 have zr:z.re.y=z.y:=rfl;have hbp:=W.pr.lt;have hbp:K.Bp<z.y:=hbp;have hbm:K.bm<z.y:=W.mp.1;have hln:=ok.wk.len;have hn7:=ok.n7;obtain ⟨τ1,hτ1⟩:∃ τ1,τ1=z.re.row [.pointer (some ⟨K.Bp,0,none⟩)] 1:=⟨_,rfl⟩;have n1:τ1.y=z.y+1:=by rw [hτ1];rfl
 have M1:New z.re τ1:=by rw [hτ1];exact New.row _ _ _
 have q1:Own τ1 z.y [.pointer (some ⟨K.Bp,0,none⟩)] 1:=by rw [hτ1];exact zC z.re _ _
 obtain ⟨τ2,hτ2⟩:∃ τ2,τ2=τ1.row (iV (D:Int)::stL st) (iV (D:Int)::stL st:List Value).length:=⟨_,rfl⟩;have n2:τ2.y=z.y+2:=by rw [hτ2];show τ1.y+1=_;omega
 have M2:New z.re τ2:=by rw [hτ2];exact M1.row'
 have o2:Own τ2 (z.y+1) (iV (D:Int)::stL st) (iV (D:Int)::stL st:List Value).length:=by rw [hτ2,← n1];exact zC _ _ _
 have q2:Own τ2 z.y [.pointer (some ⟨K.Bp,0,none⟩)] 1:=by rw [hτ2];exact q1.row
 obtain ⟨τ3,hτ3⟩:∃ τ3,τ3=τ2.row [iV 0,iV 0,iV 0,iV 0,iV 0,iV 0,.slice none 0 0,.bool false] 8:=⟨_,rfl⟩;have n3:τ3.y=z.y+3:=by rw [hτ3];show τ2.y+1=_;omega
 have M3:New z.re τ3:=by rw [hτ3];exact M2.row'
 have r3:Own τ3 (z.y+2) [iV 0,iV 0,iV 0,iV 0,iV 0,iV 0,.slice none 0 0,.bool false] 8:=by rw [hτ3,← n2];exact zC _ _ _
 have o3:Own τ3 (z.y+1) (iV (D:Int)::stL st) (iV (D:Int)::stL st:List Value).length:=by rw [hτ3];exact o2.row
 have q3:Own τ3 z.y [.pointer (some ⟨K.Bp,0,none⟩)] 1:=by rw [hτ3];exact q2.row
 obtain ⟨τ4,hτ4⟩:∃ τ4,τ4=τ3.row [iV 0,iV 0,iV 0,iV 0,iV 0,iV 0,.slice none 0 0,.bool false] 8:=⟨_,rfl⟩;have n4:τ4.y=z.y+4:=by rw [hτ4];show τ3.y+1=_;omega
 have M4:New z.re τ4:=by rw [hτ4];exact M3.row'
 have l4:Own τ4 (z.y+3) [iV 0,iV 0,iV 0,iV 0,iV 0,iV 0,.slice none 0 0,.bool false] 8:=by rw [hτ4,← n3];exact zC _ _ _
 have o4:Own τ4 (z.y+1) (iV (D:Int)::stL st) (iV (D:Int)::stL st:List Value).length:=by rw [hτ4];exact o3.row
 have q4:Own τ4 z.y [.pointer (some ⟨K.Bp,0,none⟩)] 1:=by rw [hτ4];exact q3.row
 have L:∀ {s},New z.re s→Le z s:=fun h=>(le0 z).trans h.le
 have ldD:∀ s,Own s (z.y+1) (iV (D:Int)::stL st) (iV (D:Int)::stL st:List Value).length→zB Pg s 3 ⟨z.y+1,0,none⟩=some (iV (D:Int)):=fun s o=>o.ld (k:=0) rfl zS rfl
 have lds:∀ s,Own s (z.y+1) (iV (D:Int)::stL st) (iV (D:Int)::stL st:List Value).length→zB Pg s 111 ⟨z.y+1,0,none⟩=some (.agg ⟨iV (D:Int)::stL st⟩):=fun s o=>o.rw.ldN xWJ xOX (k:=0) rfl rfl (nle rfl)
 have ldn:∀ s,Row s ⟨K.Bp,0,none⟩ K.row→zB Pg s 3 ⟨K.Bp,0,none⟩=some (iV K.w.M):=fun s o=>o.ld zS rfl
 have ldm:∀ s,Row s ⟨K.Bp,0,none⟩ K.row→zB Pg s 104 (zN ⟨K.Bp,0,none⟩ 8)=some (.map (some K.bm)):=fun s o=>o.load1 xWK rfl
 have ldq:∀ s,Own s z.y [.pointer (some ⟨K.Bp,0,none⟩)] 1→zB Pg s 103 ⟨z.y,0,none⟩=some (.pointer (some ⟨K.Bp,0,none⟩)):=fun s o=>o.ld (k:=0) rfl uR rfl
 have h1:=ldD τ3 o3;have h2:=ldn τ3 (W.pr.le (L M3));have h3:=ldm τ3 (W.pr.le (L M3));have h4:=lds τ3 o3;have h6:zG τ3.y [.map (some K.bm),.agg ⟨iV (D:Int)::stL st⟩]:=(zE (yZC (by omega)) (zE (yL rfl) zH));have h6':zG τ4.y [.map (some K.bm),.agg ⟨iV (D:Int)::stL st⟩]:=(zE (yZC (by omega)) (zE (yL rfl) zH));have h8:=ldq τ4 q4;have h9:=ldm τ4 (W.pr.le (L M4));have h10:=lds τ4 o4;have u1:¬ (D:Int)=K.w.M:=by have:=ok.dn;omega
 have bp:K.Bp<z.re.y:=hbp;have mp3:=W.mp.le (L M3);have mp4:=W.mp.le (L M4);have zt:uZ Pg 108=some (.agg ⟨[iV 0,iV 0,iV 0,iV 0,iV 0,iV 0,.slice none 0 0,.bool false]⟩):=by kernel_rfl
 cases hF:F (zJK (D:Int) st) with
 | some e =>
  obtain ⟨o,eo,bo⟩:=W.kn D st e hF (r+1) hr;have h5:=mp3.look1 zDU xJI zt hF;have h5':=mp4.look1 zDU xJI zt hF;rw [yHE] at h5 h5';have h7:zG τ4.y [.pointer (some ⟨z.y+3,0,none⟩),zCZ e]:=(zE (zO (show z.y+3<τ4.y by omega)) (zE (zKG fun a h=>(show a.block<τ4.y by have:=(W.xb a.block (eo.bl a.block ⟨a,h,rfl⟩)).1;omega)) zH));have h11:((zG τ3.y [.map (some K.bm),.agg ⟨iV (D:Int)::stL st⟩]∧zL RD (.tuple ⟨[zCZ e,.bool true]⟩)=true)∧_):=⟨⟨h6,rfl⟩,h5⟩;have h12:((zG τ4.y [.map (some K.bm),.agg ⟨iV (D:Int)::stL st⟩]∧zL RD (.tuple ⟨[zCZ e,.bool true]⟩)=true)∧_):=⟨⟨h6',rfl⟩,h5'⟩;obtain ⟨τ5,hτ5⟩:∃ τ5,τ5=(τ4.own (z.re.y+3) (zEJ e) 8).own (z.re.y+2) (zEJ e) 8:=⟨_,rfl⟩;have M5:New z.re τ5:=by rw [hτ5];exact (M4.own (by omega)).own (by omega)
  have key:∀ s,Le z s→zGD K (r+1) D st z F X (zCZ e) s:=fun s hs=>⟨e,o,F,X,rfl,W.le hs,eo.le hs,bo,fun _ h=>h,fun _ h=>.inl h,.inr ⟨rfl,rfl⟩⟩
  have nx:Only (·=K.bm) z.re τ5∧(τ5.low<z.y∨zV RD (zCZ e)=false∨zGD K (r+1) D st z F X (zCZ e) z)∧zGD K (r+1) D st z F X (zCZ e) τ5:=⟨M5.only,.inr (.inr (key z (Le.refl _))),key τ5 (L M5)⟩;subst hτ5 hτ4 hτ3 hτ2 hτ1;exact xSE h1 h2 h3 h4 h5 h6 h7 h8 h9 h10 h11 h12 nx u1 bp
 | none =>
  have h5:=mp3.look0 zDU xJI zt hF;have h5':=mp4.look0 zDU xJI zt hF;rw [yHE] at h5 h5';have h7:zG τ4.y [.pointer (some ⟨z.y+3,0,none⟩),.agg ⟨[iV 0,iV 0,iV 0,iV 0,iV 0,iV 0,.slice none 0 0,.bool false]⟩]:=(zE (zO (show z.y+3<τ4.y by omega)) (zE (yL rfl) zH));have h11:((zG τ3.y [.map (some K.bm),.agg ⟨iV (D:Int)::stL st⟩]∧zL RD (.tuple ⟨[.agg ⟨[iV 0,iV 0,iV 0,iV 0,iV 0,iV 0,.slice none 0 0,.bool false]⟩,.bool false]⟩)=true)∧_):=⟨⟨h6,rfl⟩,h5⟩;have h12:((zG τ4.y [.map (some K.bm),.agg ⟨iV (D:Int)::stL st⟩]∧zL RD (.tuple ⟨[.agg ⟨[iV 0,iV 0,iV 0,iV 0,iV 0,iV 0,.slice none 0 0,.bool false]⟩,.bool false]⟩)=true)∧_):=⟨⟨h6',rfl⟩,h5'⟩;obtain ⟨τ5,hτ5⟩:∃ τ5,τ5=τ4.own (z.re.y+3) [iV 0,iV 0,iV 0,iV 0,iV 0,iV 0,.slice none 0 0,.bool false] 8:=⟨_,rfl⟩;have n5:τ5.y=z.y+4:=by rw [hτ5];exact n4
  have M5:New z.re τ5:=by rw [hτ5];exact M4.own (by omega)
  have k5:Only (·=z.y+3) τ4 τ5:=by rw [hτ5];exact Only.own (.inr rfl)
  have q5:=k5.own' q4 (show ¬ z.y=z.y+3 by omega);have o5:=k5.own' o4 (show ¬ z.y+1=z.y+3 by omega);have r5:=k5.own' (show Own τ4 (z.y+2) [iV 0,iV 0,iV 0,iV 0,iV 0,iV 0,.slice none 0 0,.bool false] 8 by rw [hτ4];exact r3.row) (show ¬ z.y+2=z.y+3 by omega);have ldw:∀ s,Row s ⟨K.Bp,0,none⟩ K.row→zB Pg s 43 ⟨K.Bp,0,none⟩=some (.agg ⟨[iV K.w.M,.slice K.p K.l K.c,.slice K.q K.m K.d,iV K.w.rest,iV K.w.run,iV K.w.j]⟩):=fun s o=>o.ldN xS yW (k:=0) rfl rfl (nle rfl)
  have W5:=W.le (L M5);have h13:=ldw τ5 W5.pr;have h14:=ldD τ5 o5;obtain ⟨p6,c6,τ6,c15,M6,I6',f6⟩:=yNL (σ:=τ5) (D:=D) (c:=K.c) (d:=K.d) (ok.wk.le W5.fl) (by have:=ok.sn.l12;omega);have n6:=M6.nx;have wk5:=ok.wk.le W5.fl;have pab:∀ a,K.p=some a→a.block<τ5.y:=xK wk5.dty;have qab:∀ a,K.q=some a→a.block<τ5.y:=by obtain ⟨vs,g,_⟩:=wk5.drv;exact xK g
  have h16:zG τ5.y [.agg ⟨[iV K.w.M,.slice K.p K.l K.c,.slice K.q K.m K.d,iV K.w.rest,iV K.w.run,iV K.w.j]⟩,iV (D:Int)]:=(zE (zBZ pab qab) (zE rfl zH));obtain ⟨τ7,hτ7⟩:∃ τ7,τ7=τ6.row [.slice none 0 0] 1:=⟨_,rfl⟩;have n7:τ7.y=τ6.y+1:=by rw [hτ7];rfl
  have M7:New τ6 τ7:=by rw [hτ7];exact New.row _ _ _
  have h17:zG τ7.y [.pointer (some ⟨τ6.y,0,none⟩),.slice p6 (yC K.w D K.l).length c6]:=(zE (zO (show τ6.y<τ7.y by omega)) (zE (yH fun a h=>(show a.block<τ7.y by have:=I6'.lt a.block ⟨a,h,rfl⟩;omega)) zH));have q6:=q5.le M6.le;have q7:=q6.le M7.le;have o6:=o5.le M6.le;have o7:=o6.le M7.le;have W6:=W5.le M6.le;have W7:=W6.le M7.le;have h18:=(⟨⟨show z.y<τ6.y by omega,rfl⟩,ldq τ6 q6⟩:(z.y<τ6.y∧zL RD (.pointer (some ⟨K.Bp,0,none⟩))=true)∧_);have h19:=(⟨⟨show z.y<τ7.y by omega,rfl⟩,ldq τ7 q7⟩:(z.y<τ7.y∧zL RD (.pointer (some ⟨K.Bp,0,none⟩))=true)∧_);have h20:=(⟨⟨show K.Bp<τ6.y by omega,rfl⟩,ldw τ6 W6.pr⟩:(K.Bp<τ6.y∧zL RD (.agg ⟨[iV K.w.M,.slice K.p K.l K.c,.slice K.q K.m K.d,iV K.w.rest,iV K.w.run,iV K.w.j]⟩)=true)∧_);have h21:=(⟨⟨show K.Bp<τ7.y by omega,rfl⟩,ldw τ7 W7.pr⟩:(K.Bp<τ7.y∧zL RD (.agg ⟨[iV K.w.M,.slice K.p K.l K.c,.slice K.q K.m K.d,iV K.w.rest,iV K.w.run,iV K.w.j]⟩)=true)∧_);have h22:=(⟨⟨show z.y+1<τ6.y by omega,rfl⟩,ldD τ6 o6⟩:(z.y+1<τ6.y∧zL RD (iV (D:Int))=true)∧_);have h23:=(⟨⟨show z.y+1<τ7.y by omega,rfl⟩,ldD τ7 o7⟩:(z.y+1<τ7.y∧zL RD (iV (D:Int))=true)∧_);let G:GvK:=⟨K,D,r,st,p6,c6,τ6.y,z.y,z.y+1,τ6.y+2,τ6.y+3,τ6.y+1,τ6.y+4⟩;obtain ⟨τ8,hτ8⟩:∃ τ8,τ8=τ7.own τ6.y [.slice p6 (yC K.w D K.l).length c6] 1:=⟨_,rfl⟩;have n8:τ8.y=τ6.y+1:=by rw [hτ8];exact n7
  have M8:New τ6 τ8:=by rw [hτ8];exact M7.own (Nat.le_refl _)
  have u8:Own τ8 τ6.y [.slice p6 (yC K.w D K.l).length c6] 1:=by rw [hτ8,hτ7];exact (zC _ _ _).put
  have h24:=ldq τ8 (q6.le M8.le);obtain ⟨τ9,hτ9⟩:∃ τ9,τ9=(τ8.row [.nilFunc] 1).own (τ6.y+1) [.func (.func 71) ⟨[.pointer (some ⟨K.Bp,0,none⟩)]⟩ ⟨[]⟩] 1:=⟨_,rfl⟩;have n9:τ9.y=τ6.y+2:=by rw [hτ9];show τ8.y+1=_;omega
  have M9:New τ6 τ9:=by rw [hτ9];exact M8.row'.own (by omega)
  have y9:Own τ9 (τ6.y+1) [.func (.func 71) ⟨[.pointer (some ⟨K.Bp,0,none⟩)]⟩ ⟨[]⟩] 1:=by rw [hτ9,← n8];exact (zC _ _ _).put
  have u9:Own τ9 τ6.y [.slice p6 (yC K.w D K.l).length c6] 1:=by rw [hτ9];exact u8.row.own (by omega)
  obtain ⟨τa,hτa⟩:∃ τa,τa=(τ9.row [iV 0,iV 0,iV 0,iV 0,iV 0,iV 0,.slice none 0 0,.bool false] 8).row [.nilFunc] 1:=⟨_,rfl⟩;have na:τa.y=τ6.y+4:=by rw [hτa];show τ9.y+1+1=_;omega
  have Ma:New τ6 τa:=by rw [hτa];exact M9.row'.row'
  obtain ⟨τb,hτb⟩:∃ τb,τb=τa.own (τ6.y+3) [.func (.func 72) ⟨[]⟩ ⟨G.args⟩] 1:=⟨_,rfl⟩;have nb:τb.y=τ6.y+4:=by rw [hτb];exact na
  have Mb:New τ6 τb:=by rw [hτb];exact Ma.own (by omega)
  have gb:Own τb (τ6.y+3) [.func (.func 72) ⟨[]⟩ ⟨G.args⟩] 1:=by
   rw [hτb,hτa,show τ6.y+3=(τ9.row [iV 0,iV 0,iV 0,iV 0,iV 0,iV 0,.slice none 0 0,.bool false] 8).y by show _=τ9.y+1;omega];exact (zC _ _ _).put
  have eb:Own τb (τ6.y+2) [iV 0,iV 0,iV 0,iV 0,iV 0,iV 0,.slice none 0 0,.bool false] 8:=by
   rw [hτb,hτa];refine Own.own ?_ (by omega);rw [← n9];exact (zC _ _ _).row
  have yb:Own τb (τ6.y+1) [.func (.func 71) ⟨[.pointer (some ⟨K.Bp,0,none⟩)]⟩ ⟨[]⟩] 1:=by rw [hτb,hτa];exact y9.row.row.own (by omega)
  have ub:Own τb τ6.y [.slice p6 (yC K.w D K.l).length c6] 1:=by rw [hτb,hτa];exact u9.row.row.own (by omega)
  have ob:=o6.le Mb.le;have qb:=q6.le Mb.le;have Wb:=W6.le Mb.le;have Ib:yF τb p6 (yC K.w D K.l).length (zNH (yC K.w D K.l)):=SlV.le I6' Mb.le;have okG:G.Ok:=⟨ok,by show D+(r+1)=K.n;exact hr,by show K.σf.y≤τ6.y+2;have:=W.fl.y;omega,by show K.σf.y≤τ6.y+4;have:=W.fl.y;omega,⟨by show τ6.y<τ6.y+4;omega,by show z.y<τ6.y+4;omega,by show z.y+1<τ6.y+4;omega,by show τ6.y+2<τ6.y+4;omega,by show τ6.y+3<τ6.y+4;omega,by show τ6.y+1<τ6.y+4;omega,by show K.Bp<τ6.y+4;omega,by show K.bm<τ6.y+4;omega⟩,⟨by show τ6.y+2≠τ6.y;omega,by show τ6.y+2≠z.y;omega,by show τ6.y+2≠z.y+1;omega,by show τ6.y+2≠τ6.y+3;omega,by show τ6.y+2≠τ6.y+1;omega,by show τ6.y+2≠K.Bp;omega,by show τ6.y+2≠K.bm;omega⟩,⟨by show K.bm≠τ6.y;omega,by show K.bm≠z.y;omega,by show K.bm≠z.y+1;omega,by show K.bm≠τ6.y+3;omega,by show K.bm≠τ6.y+1;omega⟩⟩;have hx6:∀ b,AtP p6 b→τ5.y≤b∧b<τ6.y:=fun b hb=>⟨f6 b hb,I6'.lt b hb⟩
  have Wg:PlW K τb F (fun b=>X b∨AtP p6 b):=Wb.mono (fun b h=>.inl h) (fun b h=>by
   rcases h with h | h
   ·exact Wb.xb b h
   ·have:=hx6 b h;exact ⟨by omega,by omega⟩)
  have GW:GvW G τb F (fun b=>X b∨AtP p6 b) ⟨zCV,none,0,0,false⟩:=⟨Wg,ub.rw,Ib,fun b h=>.inr h,qb.rw,ob.rw,gb.rw,yb.rw,eb,fun b h=>by
   show b≠τ6.y+2;rcases h with h | h
   ·have:=(W.xb b h).1;omega
   ·have:=hx6 b h;omega,by show τ6.y+4≤τb.y;omega⟩
  have e0:EndP τb (fun b=>X b∨AtP p6 b) ⟨zCV,none,0,0,false⟩ none:=⟨rfl,(fun x hx=>by simp [zCV] at hx;omega),(fun b hb=>by obtain ⟨a,e,_⟩:=hb;cases e),rfl⟩;obtain ⟨τc,c26,kc,F',X',e',o',R,_⟩:=xLK okG ih G.du (who:=[]) (pl:=none) (lc:=0) (sf:=[]) (st:=st) (C:=fun _ _=>False) (o:=none) GW e0 (fun _ _ h=>h) (fun _ _ h=>h.elim) Stk.nil (fun b hb=>by obtain ⟨a,e,_⟩:=hb;cases e) ⟨[],rfl,rfl⟩ hst;have nc:=kc.y;have noS:∀ b,b≠K.bm→b≠τ6.y+2→¬ zMQ G none b:=fun b h1 h2 h=>by
   rcases h with h | h | ⟨a,h,_⟩
   ·exact h1 h
   ·exact h2 h
   ·cases h
  have bo':xU 6 (K.ch (r+1) D st) o':=R.bo.iff fun a v=>by
   show (False∨zSM K.w K.leaves K.wf r D (yC K.w D K.l) [] st a v)↔Ch K.w K.leaves K.wf (r+1) D st a v;rw [xTA,hln.1];simp
  have qc:Own τc z.y [.pointer (some ⟨K.Bp,0,none⟩)] 1:=kc.own' qb (noS _ (by omega) (by omega));have oc:=kc.own' ob (noS _ (by omega) (by omega));have rc':=kc.own' ((r5.le M6.le).le Mb.le) (noS _ (by omega) (by omega));have h25:zB Pg τb 89 ⟨z.y+1,1,none⟩=some (.agg ⟨stL st⟩):=ob.rw.ldN xTU yQE (k:=1) (ds:=stL st) rfl rfl (by simp [stL]);have h27:=ldq τc qc;have h28:=ldm τc R.w.w.pr;have h29:=lds τc oc;have lde:∀ s b,Own s b (zEJ e') 8→zB Pg s 108 ⟨b,0,none⟩=some (zCZ e'):=fun s b o=>o.rw.ldN yIO uA (k:=0) rfl rfl (nle rfl)
  have h30:=lde τc (τ6.y+2) R.w.oo;obtain ⟨τd,h31,kd,lod,lod',Wd⟩:=R.w.w.set ok hr R.ep bo';have nd:=kd.y;have ed:Own τd (τ6.y+2) (zEJ e') 8:=kd.own' R.w.oo (show ¬ τ6.y+2=K.bm by omega);have h32:=lde τd (τ6.y+2) ed;have rd:=kd.own' rc' (show ¬ z.y+2=K.bm by omega);have h33:=rd.store (P:=Pg) (k:=0) (t:=108) (v:=zCZ e') (vs:=zEJ e') (ds:=zEJ e') rfl uA rfl (nle rfl) rfl;obtain ⟨τe,hτe⟩:∃ τe,τe=τd.own (z.y+2) (zEJ e') 8:=⟨_,rfl⟩;have re:Own τe (z.y+2) (zEJ e') 8:=by rw [hτe];exact rd.put
  have ke:Only (·=z.y+2) τd τe:=by rw [hτe];exact Only.own (.inr rfl)
  have loe:τe.low≤τd.low:=by rw [hτe];simp [St.own];omega
  rw [← hτe] at h33;have h34:=lde τe (z.y+2) re;have hxd:∀ b,X' b→b≠z.y+2:=fun b hb h=>by
   rcases R.x2 b hb with g | g
   ·rcases g with g | g
    ·have:=(W.xb b g).1;omega
    ·have:=hx6 b g;omega
   ·omega
  have We:=Wd.only ke (fun b h=>by have:=W.fl.y;omega) (show ¬ K.Bp=z.y+2 by omega) (show ¬ K.bm=z.y+2 by omega) hxd;have Ee:EndP τe X' e' o':=(R.ep.only kd (fun b hb=>(R.w.w.xb b hb).2)).only ke hxd;have kAll:Only (·=K.bm) z.re τe:=((((M5.only.trans' M6.only (T:=fun _=>False) (fun b _ h=>h.elim)).trans' Mb.only (T:=fun _=>False) (fun b _ h=>h.elim)).trans' kc (fun b _ h=>by
   rcases h with h | h | ⟨a,h,_⟩
   ·exact .inl h
   ·exact .inr (by have h:b=τ6.y+2:=h;omega)
   ·cases h)).trans' kd (fun b _ h=>.inl h)).trans' ke (fun b _ h=>.inr (by omega))
  have nx:Only (·=K.bm) z.re τe∧(τe.low<z.y∨zV RD (zCZ e')=false∨zGD K (r+1) D st z F X (zCZ e') z)∧zGD K (r+1) D st z F X (zCZ e') τe:=⟨kAll,.inl (by omega),e',o',_,X',rfl,We,Ee,bo',fun b hb=>R.x1 b (.inl hb),fun b hb=>by
   rcases R.x2 b hb with (g | g) | g
   ·exact .inl g
   ·exact .inr (by have:=hx6 b g;omega)
   ·exact .inr (by omega),.inl (by omega)⟩
  subst hτb hτa hτ9 hτ8 hτ7 hτ5 hτ4 hτ3 hτ2 hτ1;exact xSD h1 h2 h3 h4 h5 h6 h7 h8 h9 h10 h11 h12 h13 h14 c15 h16 h17 h18 h19 h20 h21 h22 h23 h24 h25 c26 h27 h28 h29 h30 h31 h32 h33 h34 nx u1 bp
theorem xMO (ok:K.Ok):∀ r,zQI K r
 | 0=>xET ok
 | r+1=>xEU ok (xMO ok r)
end
section
variable {σ τ:St} {w:Wk} {p q:Option Addr} {l m c d n:Nat} {rv tv:Value} {ros tru:Nat→Int} {A:List Bch} {ms:List Nat}
theorem yDD {k:Nat}:(zFQ w ros tru n k).length≤k:=by
 unfold zFQ;have:=List.length_filterMap_le (fun k=>if w.j<(xM w ros tru k n).used then some (⟨5,k,0⟩:Bch) else none) (List.range k);simpa using this
theorem xJK (hm6:m≤6) (hA:A.length≤500) (hms:∀ y∈ms,σ.y+5≤y∧y<τ.y)
  (hJ:J σ (wkc w.M p l c q m d w.rest w.run w.j) rv tv (fun x=>x∈ms) (stF w ros tru m n 0) A τ) :
  zSA σ.y (σ.y+3) (σ.y+4) m ms 0 τ (fun z=>J σ (wkc w.M p l c q m d w.rest w.run w.j) rv tv (fun x=>x∈ms) (stF w ros tru m n 0) (A++zFQ w ros tru n m) z∧Only (fun x=>¬ x∈ms) τ z):=by
 refine yIE (Inv:=fun k' i z=>∃ k:Nat,i=k∧k+k'=m∧J σ (wkc w.M p l c q m d w.rest w.run w.j) rv tv (fun x=>x∈ms) (stF w ros tru m n 0) (A++zFQ w ros tru n k) z∧Only (fun x=>¬ x∈ms) τ z) ?_ m 0 τ ⟨0,rfl,by omega,by simpa [zFQ] using hJ,Only.refl _ _⟩;rintro k' i z ⟨k,rfl,hk',hz,O⟩;by_cases hk:k<m;rotate_left
 ·have:k=m:=by omega
  subst this;exact yVG ⟨hz,O⟩ (by omega)
 have lu:=xGH hz.nw (i:=k) (by omega);have lh:zB Try.prog z 3 ⟨σ.y,5,none⟩=some (iV w.j):=hz.wk.ld zS rfl;have ef:(stF w ros tru m n 0 k).used=(xM w ros tru k n).used:=by unfold stF;rw [if_pos hk];rfl
 rw [ef] at lu;have es:=xQP (w:=w) (ros:=ros) (tru:=tru) (n:=n) (k:=k);have hl:=yDD (w:=w) (ros:=ros) (tru:=tru) (n:=n) (k:=k);by_cases hh:w.j<(xM w ros tru k n).used
 ·rw [if_pos hh] at es;obtain ⟨po,co,g1,p',c',z2,g2,g3,g4,g5⟩:=hz.push (Le.refl z) hz.new ⟨5,k,0⟩ (by rw [List.length_append];omega) (fun e=>by have:=(hms _ e).1;omega) (fun x hx=>by have:=(hms x hx).2;have:=O.y;omega);refine yVI lu lh g1 g2 g3 ⟨k' - 1,by omega,k+1,by omega,by omega, ?_,O.trans' g5 (fun b _ hb=>.inl hb)⟩ (by omega) (by omega) hh (by omega);rw [es,← List.append_assoc];exact g4
 ·rw [if_neg hh,List.append_nil] at es;exact yVH lu lh ⟨k' - 1,by omega,k+1,by omega,by omega,by rw [es];exact hz,O⟩ (by omega) (by omega) hh (by omega)
end
section
open Go.Sort (swp PermIn SortedIn Below SWO)
theorem yUH (x:Rec):zBT Try.prog 47 3 (zEI x):=.inr ⟨xNJ,yFU,_,rfl,rfl⟩
theorem zRQ (xs:List Rec):xF (xs.map zEI)=xs.flatMap zBE:=by
 induction xs with
 | nil=>rfl
 | cons x xs ih =>
  simp only [xF,List.map_cons,List.flatMap_cons] at ih ⊢;rw [ih];rfl
def zCU (b:Bch):Rec:=⟨b.kind,b.drv,b.dut⟩
def unB (x:Rec):Bch:=⟨x.k.toNat,x.a.toNat,x.b.toNat⟩
theorem zOH (b:Bch):unB (zCU b)=b:=by unfold unB zCU;simp
theorem yZD (A:List Bch):A.map yOP=(A.map zCU).map zEI:=by rw [List.map_map];rfl
section
theorem xMC {τ:St} {n0 c:Nat} {p:Option Addr} {out:List Rec} (h:Gr Try.prog τ n0 47 3 p out.length c (out.map zEI)) (h0:out≠[]):∃ b s,p=some ⟨b,0,s⟩∧n0≤b∧Dt τ b s out.toArray:=by
 have ha:=h.app;rw [zRQ] at ha;have hl:0<out.length:=by cases out with | nil=>exact absurd rfl h0 | cons _ _=>simp
 obtain ⟨n,hn⟩:∃ n,n=out.length:=⟨_,rfl⟩;obtain ⟨cs,hcs⟩:∃ cs,cs=out.flatMap zBE:=⟨_,rfl⟩;rw [← hn,← hcs] at ha;cases ha with
 | nil=>omega
 | more h1 h2 h3 h4 h5 h6 h7 =>
  rename_i b s0 nx sp log;subst h2;refine ⟨b,sp,rfl,h3,h4,log,nx, ?_⟩
  rw [h1,hcs];unfold zBA;rw [zQO];simp
theorem yQT {τ:St} {b:Nat} {s:Option Nat} {d:Array Rec} (h:Dt τ b s d):SlV Try.prog τ 47 3 (some ⟨b,0,s⟩) d.size (d.toList.map zEI):=by
 obtain ⟨h1,log,nx,h2⟩:=h;refine ⟨⟨?_, ?_,h1⟩,by simp,fun v hv=>?_⟩
 ·rw [zRQ];exact zZT d
 ·rw [zRQ];have hle:Nat.ble (0+(zBA d).length) (d.size*3)=true:=(zW _ _).2 (by rw [zZT];omega);show yS τ ⟨b,0,s⟩ (zBA d).length=some (zBA d);unfold yS;simp only [h2,yB,wM,Nat.beq_refl,cond_true,hle,List.drop_zero,List.take_length]
 ·obtain ⟨x,_,rfl⟩:=List.mem_map.1 hv;exact yUH x
theorem yQA {A:List Bch} {d':Array Rec} (hp:PermIn 0 (A.map zCU).toArray.size (A.map zCU).toArray d') (hs:SortedIn yOQ 0 (A.map zCU).toArray.size d'):∃ A':List Bch,d'.toList=A'.map zCU∧A'.Perm A∧A'.Pairwise fun x y=>¬ y.lt x:=by
 have hsz:=hp.1;have hperm:d'.toList.Perm (A.map zCU):=by
  have h3:=hp.2.2;have e1:(d'.extract 0 (A.map zCU).toArray.size).toList=d'.toList:=by rw [← hsz];simp
  have e2:((A.map zCU).toArray.extract 0 (A.map zCU).toArray.size).toList=A.map zCU:=by simp;rw [List.take_of_length_le (by simp)]
  rw [e1,e2] at h3;exact h3
 have hid:∀ B:List Bch,(B.map zCU).map unB=B:=fun B=>by
  rw [List.map_map];conv=>rhs;rw [← List.map_id B]
  exact List.map_congr_left fun b _=>zOH b
 have e:d'.toList=(d'.toList.map unB).map zCU:=by
  rw [List.map_map];conv=>lhs;rw [← List.map_id d'.toList]
  apply List.map_congr_left;intro x hx;obtain ⟨b,_,rfl⟩:=List.mem_map.1 (hperm.mem_iff.1 hx);show zCU b=zCU (unB (zCU b));rw [zOH]
 refine ⟨d'.toList.map unB,e, ?_, ?_⟩
 ·have:=hperm.map unB;rwa [hid] at this
 ·rw [List.pairwise_map];apply List.pairwise_iff_getElem.2;intro i j hi hj hij;have hlen:d'.toList.length=d'.size:=by simp
  have h1:=hs i j (Nat.zero_le _) hij (by omega);rw [getElem!_pos d' j (by omega),getElem!_pos d' i (by omega)] at h1;have m1:=hperm.mem_iff.1 (List.getElem_mem hi);have m2:=hperm.mem_iff.1 (List.getElem_mem hj);obtain ⟨x,_,ex⟩:=List.mem_map.1 m1;obtain ⟨y,_,ey⟩:=List.mem_map.1 m2;rw [← ex,← ey,zOH,zOH];rw [Array.getElem_toList] at ex ey;rw [← ex,← ey] at h1;intro hlt;unfold yOQ at h1;have h1:=of_decide_eq_false h1;apply h1;unfold Bch.lt at hlt;unfold bLt zCU;simp only;omega
end
end
section
variable {σ z:St} {wl:List Value} {rv tv:Value} {f:Nat→Std} {A R:List Bch} {ms:List Nat} {m:Nat}
theorem xGL (hJ:J σ wl rv tv (fun x=>x∈ms) f A z) (hms:∀ y∈ms,yK z.heap y=some .defd∧σ.y+5≤y∧y<z.y) (hnd:ms.Nodup) (hA:A.length≤1000) (hok:∀ b∈A,b.kind≤5∧b.drv≤100∧b.dut≤100)
  (hR:∀ A',A'.Perm A→(A'.Pairwise fun x y=>¬ y.lt x)→A'=R) :
  zKC σ.y (σ.y+3) (σ.y+4) m ms z (fun v s=>New σ.re s∧∃ p c,v=.slice p R.length c∧SlV Try.prog s 47 3 p R.length (R.map yOP)∧∀ b,AtP p b→σ.y≤b):=by
 obtain ⟨po,co,o,hg,hf⟩:=hJ.out;have l1:zB Try.prog z 36 ⟨σ.y+3,0,none⟩=some (.slice po A.length co):=o.ld (k:=0) rfl yOW rfl;by_cases hA0:A=[]
 ·have hR0:R=[]:=(hR [] (by rw [hA0]) List.Pairwise.nil).symm;subst hA0;have hpo:po=none∧co=0:=by
   have:=hg.app;cases this with
   | nil=>exact ⟨rfl,rfl⟩
   | more _ _ _ _ _ hp _=>exact absurd hp (by simp)
  obtain ⟨rfl,rfl⟩:=hpo;have st:=o.store (k:=0) (t:=36) (P:=Try.prog) (v:=.slice none 0 0) (vs:=[.slice none 0 0]) (ds:=[.slice none 0 0]) rfl yQF rfl (by simp) rfl;obtain ⟨z2,k1,k2,k3,k4⟩:=zOK (ms:=ms) (σ:=z.own (σ.y+3) [.slice none 0 0] 1) (fun y hy=>by
   have:=(hms y hy);show yK (St.put _ _ _).heap y=_;rw [St.put_get,if_neg (by omega)];exact this.1) hnd
  have o2:Own z2 (σ.y+3) [.slice none 0 0] 1:=o.put.at_ (k3 _ (fun e=>by have:=(hms _ e).2.1;omega)) (by rw [k2];exact Nat.le_refl _);have N:New σ.re z2:=by
   have N1:New σ.re (z.own (σ.y+3) [.slice none 0 0] 1):=hJ.new.own (by show σ.y≤σ.y+3;omega);refine ⟨⟨by rw [k2];exact N1.le.y,fun b hb=>by rw [k3 b (fun e=>by have:=(hms _ e).2.1;have hb:b<σ.y:=hb;omega)];exact N1.le.get b hb⟩,fun m h1 h2=>k4 m (N1.low m h1 h2) (fun y hy=>by have:=(hms y hy).2.1;have h2:m≤σ.y:=h2;omega)⟩
  subst hR0;exact zPY l1 yZV l1 st k1 (o2.ld (k:=0) rfl yOW rfl) ⟨N,none,0,rfl,⟨.nil _ _,rfl,fun v hv=>by cases hv⟩,fun b hb=>by obtain ⟨a,e,_⟩:=hb;cases e⟩
 ·have hg2:Gr Try.prog z (σ.y+5) 47 3 po (A.map zCU).length co ((A.map zCU).map zEI):=by rw [List.length_map,← yZD];exact hg
  obtain ⟨b,s,rfl,hb,dt⟩:=xMC hg2 (by simpa using hA0);have esz:(A.map zCU).toArray.size=A.length:=by simp
  have hV:xV BOk (A.map zCU).toArray:=by
   intro i hi;have hm:(A.map zCU).toArray[i]! ∈ A.map zCU:=by
    rw [getElem!_pos _ i hi];exact Array.mem_toList_iff.2 (Array.getElem_mem hi)
   obtain ⟨x,hx,e⟩:=List.mem_map.1 hm;rw [← e];have:=hok x hx;unfold BOk zCU;simp only;omega
  obtain ⟨d',p1,p2,z1,c1,O1,dt1,_⟩:=xOS (c:=co) xWS xXS dt hV (by rw [esz];omega);rw [esz] at c1;obtain ⟨A',e1,e2,e3⟩:=yQA p1 p2;have eR:=hR A' e2 e3;subst eR;have hlA:A'.length=A.length:=e2.length_eq;have hsz:d'.size=A.length:=by rw [← esz];exact p1.1
  have o1:Own z1 (σ.y+3) [.slice (some ⟨b,0,s⟩) A.length co] 1:=O1.own' o (by omega);have l3:zB Try.prog z1 36 ⟨σ.y+3,0,none⟩=some (.slice (some ⟨b,0,s⟩) A.length co):=o1.ld (k:=0) rfl yOW rfl;have st:=o1.store (k:=0) (t:=36) (P:=Try.prog) (v:=.slice (some ⟨b,0,s⟩) A.length co) (vs:=[.slice (some ⟨b,0,s⟩) A.length co]) (ds:=[.slice (some ⟨b,0,s⟩) A.length co]) rfl yQF rfl (by simp) rfl;have hbm:¬ b∈ms:=hf b ⟨_,rfl,rfl⟩;have N1:New σ.re (z1.own (σ.y+3) [.slice (some ⟨b,0,s⟩) A.length co] 1):=(hJ.new.of_only O1 (by rintro x rfl;show σ.y≤x;omega)).own (by show σ.y≤σ.y+3;omega);obtain ⟨z2,k1,k2,k3,k4⟩:=zOK (ms:=ms) (σ:=z1.own (σ.y+3) [.slice (some ⟨b,0,s⟩) A.length co] 1) (fun y hy=>by
   have h3:=hms y hy;show yK (St.put _ _ _).heap y=_;rw [St.put_get,if_neg (by omega),O1.get y h3.2.2 (fun e=>hbm (by have e:y=b:=e;rw [← e];exact hy))];exact h3.1) hnd
  have o2:Own z2 (σ.y+3) [.slice (some ⟨b,0,s⟩) A.length co] 1:=o1.put.at_ (k3 _ (fun e=>by have:=(hms _ e).2.1;omega)) (by rw [k2];exact Nat.le_refl _);have N:New σ.re z2:=⟨⟨by rw [k2];exact N1.le.y,fun b hb=>by rw [k3 b (fun e=>by have:=(hms _ e).2.1;have hb:b<σ.y:=hb;omega)];exact N1.le.get b hb⟩,fun m h1 h2=>k4 m (N1.low m h1 h2) (fun y hy=>by have:=(hms y hy).2.1;have h2:m≤σ.y:=h2;omega)⟩;have O3:Only (fun x=>x=σ.y+3∨x∈ms) z1 z2:=by
   refine (Only.own (S:=fun x=>x=σ.y+3∨x∈ms) (cs:=[.slice (some ⟨b,0,s⟩) A.length co]) (n:=1) (b:=σ.y+3) (.inr (.inl rfl))).trans' (T:=fun x=>x∈ms) ⟨by rw [k2];exact Nat.le_refl _,fun b _ hb=>k3 b hb,fun m h1 _ h3=>k4 m h1 (fun y hy=>h3 y (by have:=(hms y hy).2.2;have:=O1.y;show y<z1.y;omega) hy)⟩ (fun b _ hb=>.inl (.inr hb))
  have sl:=O3.slv' (yQT dt1) (fun a e=>by cases e;rintro (g | g);have g:b=σ.y+3:=g;omega;exact hbm g);rw [e1,← yZD,hsz] at sl;rw [hlA];exact zPY l1 c1 l3 st k1 (o2.ld (k:=0) rfl yOW rfl) ⟨N,some ⟨b,0,s⟩,co,rfl,sl,fun x hx=>by obtain ⟨a,e,rfl⟩:=hx;cases e;show σ.y≤b;omega⟩
end
section
variable {σ:St} {w:Wk} {p q r t:Option Addr} {l m c d rc tc:Nat} {rs ts:List Int} {ros tru:Nat→Int}
theorem xEM {D i:Nat}:(zML w ros tru D i).length≤5:=by
 unfold zML;split
 ·simp
 ·have:=List.length_filterMap_le (fun q=>if holds w q (drQ w (ros i).toNat) (dty w i) (xI w ros tru (ros i).toNat D i)=true then none else some (⟨q,(ros i).toNat,i⟩:Bch)) (List.range 5);simpa using this
theorem zZD {D:Nat}:∀ {j:Nat},(zDY w ros tru D j).length≤5*j
 | 0=>by simp [zDY]
 | j+1=>by
  have ih:=zZD (D:=D) (j:=j);rw [yUM,List.length_append];have:=xEM (w:=w) (ros:=ros) (tru:=tru) (D:=D) (i:=j);split
  ·omega
  ·simp only [List.length_nil];omega
theorem zXR:∀ {D:Nat},(zCO w ros tru D).length≤5*w.N.length*D
 | 0=>by simp [zCO]
 | D+1=>by
  have ih:=zXR (D:=D);rw [xIS,List.length_append,Nat.mul_add,Nat.mul_one];have:=zZD (w:=w) (ros:=ros) (tru:=tru) (D:=D) (j:=w.N.length);omega
theorem xMJ {n:Nat} (hn:w.M=(n:Int)) (hn7:n≤7) (hv:Days w n) (h:WkP σ 69 61 w p l q m) (hs:Sane w l m) (hsh:uX w) (hr:yF σ r l rs) (ht:yF σ t l ts) (hro:∀ i,i<l→-1≤zY rs i∧zY rs i<(m:Int))
  (hts:∀ i,i<l→(dty w i).on≤zY ts i∧zY ts i≤(dty w i).on+1440) :
  ∃ p' c' σ',zD Try.prog 28 [.agg ⟨wkc w.M p l c q m d w.rest w.run w.j⟩,.slice r l rc,.slice t l tc] σ (.slice p' (zIA w (zY rs) (zY ts) m).length c') σ'∧New σ σ'∧SlV Try.prog σ' 47 3 p' (zIA w (zY rs) (zY ts) m).length ((zIA w (zY rs) (zY ts) m).map yOP)∧∀ b,AtP p' b→σ.y≤b:=by
 have hl:=h.len.1;have hm:=h.len.2;have hm6:=hs.m6;have hl12:=hs.l12;have hRos:Ros w (zY rs):=⟨fun i hi=>by have:=hro i (by omega);omega⟩;obtain ⟨s4,hs4⟩:∃ s,s=(((σ.re.row (wkc w.M p l c q m d w.rest w.run w.j) 6).row [.slice r l rc] 1).row [.slice t l tc] 1).row [.slice none 0 0] 1:=⟨_,rfl⟩;have N4:New σ.re s4:=by rw [hs4];exact ((New.row _ _ _).row'.row').row'
 have L4:Le σ s4:=(le0 σ).trans N4.le;have x4:s4.y=σ.y+4:=by rw [hs4];rfl
 have cb:=yBL (c:=c) (d:=d) (h.le L4) hm6;have oz:Own (s4.row zEO 4) (σ.y+4) (stL fun _=>zUM) 4:=by
  have:=zC s4 zEO 4;rw [x4] at this;exact this
 have st:=zUR oz (st0 w m);obtain ⟨s5,hs5⟩:∃ s,s=(s4.row zEO 4).own (σ.y+4) (stL (st0 w m)) 4:=⟨_,rfl⟩;have N5:New σ.re s5:=by rw [hs5];exact N4.row'.own (by show σ.y≤σ.y+4;omega)
 have w1:Row s5 ⟨σ.y,0,none⟩ (wkc w.M p l c q m d w.rest w.run w.j):=by
  rw [hs5,hs4];exact (xQ σ.re (wkc w.M p l c q m d w.rest w.run w.j) 6).row.row.row.row.own (by show σ.y≠_;omega)
 have w2:Row s5 ⟨σ.y+1,0,none⟩ [.slice r l rc]:=by
  rw [hs5,hs4];exact (xQ (σ.re.row (wkc w.M p l c q m d w.rest w.run w.j) 6) [.slice r l rc] 1).row.row.row.own (by show σ.y+1≠_;omega)
 have w3:Row s5 ⟨σ.y+2,0,none⟩ [.slice t l tc]:=by
  rw [hs5,hs4];exact (xQ ((σ.re.row (wkc w.M p l c q m d w.rest w.run w.j) 6).row [.slice r l rc] 1) [.slice t l tc] 1).row.row.own (by show σ.y+2≠_;omega)
 have w4:Own s5 (σ.y+3) [.slice none 0 0] 1:=by
  rw [hs5,hs4];exact (zC (((σ.re.row (wkc w.M p l c q m d w.rest w.run w.j) 6).row [.slice r l rc] 1).row [.slice t l tc] 1) [.slice none 0 0] 1).row.own (by show σ.y+3≠_;omega)
 have w5:Own s5 (σ.y+4) (stL (st0 w m)) 4:=by rw [hs5];exact oz.put
 have J0:J σ (wkc w.M p l c q m d w.rest w.run w.j) (.slice r l rc) (.slice t l tc) (fun x=>x∈([]:List Nat)) (st0 w m) [] s5:=⟨N5,w1,w2,w3,w5,none,0,w4,Gr.nil,fun b hb=>by obtain ⟨a,e,_⟩:=hb;cases e⟩;have hA:∀ D j,D≤6→j≤l→(zCO w (zY rs) (zY ts) D++zDY w (zY rs) (zY ts) D j).length≤450:=by
  intro D j hD hj;rw [List.length_append];have h1:=zXR (w:=w) (ros:=zY rs) (tru:=zY ts) (D:=D);have h2:=zZD (w:=w) (ros:=zY rs) (tru:=zY ts) (D:=D) (j:=j);have h3:5*w.N.length*D≤5*12*6:=Nat.mul_le_mul (by omega) hD;omega
 have hO:(zCO w (zY rs) (zY ts) n).length≤420:=by
  have h1:=zXR (w:=w) (ros:=zY rs) (tru:=zY ts) (D:=n);have h3:5*w.N.length*n≤5*12*7:=Nat.mul_le_mul (by omega) hn7;omega
 have l0:zB Try.prog s5 3 ⟨σ.re.y,0,none⟩=some (iV w.M):=w1.ld zS rfl;have run:=xMD hn hn7 h hs hsh hr ht hro hts hA J0;rw [hs4] at cb;refine zP.newSl (xEO cb (by rw [← hs4];exact hs5 ▸ st) l0 run ?_);rintro ms z ⟨Jz,hnd,hms⟩;have lr:=xJK (σ:=σ) hm6 (by omega) (fun y hy=>(hms y hy).2) Jz;refine yID (Jz.wk.ld (k:=2) zAE rfl) lr ?_
 rintro z2 ⟨J2,O2⟩;have hlb:=yDD (w:=w) (ros:=zY rs) (tru:=zY ts) (n:=n) (k:=m);refine xGL (σ:=σ) J2 (fun y hy=>⟨by rw [O2.get y (hms y hy).2.2 (fun hh=>hh hy)];exact (hms y hy).1,(hms y hy).2.1,by have:=(hms y hy).2.2;have:=O2.y;omega⟩) hnd (by rw [List.length_append];omega) ?_ ?_
 ·intro b hb;have hb:b∈yOV w (zY rs) (zY ts) n:=by unfold yOV;rw [hm];exact hb
  obtain ⟨h1,h2,_⟩:=(yOU hv hRos).1 hb;omega
 ·intro A' h1 h2;have:=yZU hv hRos (l:=A') (by unfold yOV;rw [hm];exact h1) h2;rw [this,hm]
end
section
variable {σ:St} {w:Wk} {p q r t:Option Addr} {l m c d rl rc tl tc:Nat} {rs ts:List Int}
theorem xQR {n:Nat} (hnd:w.M=(n:Int)) (hn7:n≤7) (hv:Days w n) (h:WkP σ 69 61 w p l q m) (hs:Sane w l m) (hsh:uX w) (hr:yF σ r l rs) (hro:∀ i,i<l→-1≤zY rs i∧zY rs i<(m:Int)):zD Try.prog 31 [.agg ⟨wkc w.M p l c q m d w.rest w.run w.j⟩,.slice r l rc] σ (.bool (decide (zIA w (zY rs) (zY (zBF w)) m=[]))) σ:=by
 have hn:=h.len.1;have hl12:=hs.l12;obtain ⟨σ1,hσ1⟩:∃ σ1,σ1=σ.re.row (wkc w.M p l c q m d w.rest w.run w.j) 6:=⟨_,rfl⟩;have N1:New σ.re σ1:=by rw [hσ1];exact New.row _ _ _
 have L1:Le σ σ1:=(le0 σ).trans N1.le;have hk0:=xQ σ.re (wkc w.M p l c q m d w.rest w.run w.j) 6;rw [← hσ1] at hk0;obtain ⟨p2,c2,σ2,k2,n2,s2,f2⟩:=xVV (c:=c) (d:=d) (h.le L1) (by omega);have L2:=L1.trans n2.le;have hte:∀ i,i<l→(dty w i).on≤zY (zBF w) i∧zY (zBF w) i≤(dty w i).on+1440:=by
  intro i hi;have e:zY (zBF w) i=(dty w i).hi:=by
   unfold zY zBF dty;rw [List.getD_eq_getElem?_getD,List.getElem?_map,List.getD_eq_getElem?_getD,List.getElem?_eq_getElem (by omega)];rfl
  rw [e];have:=hs.duty i hi;omega
 obtain ⟨p3,c3,σ3,k3,n3,s3,f3⟩:=xMJ (c:=c) (d:=d) (rc:=rc) (tc:=c2) hnd hn7 hv (h.le L2) hs hsh (SlV.le hr L2) s2 hro hte;have hlow:σ.y≤σ3.low:=((N1.trans n2).trans n3).lw;have pab:∀ a,p=some a→a.block<σ.y:=xK h.dty;have qab:∀ a,q=some a→a.block<σ.y:=by obtain ⟨vs,h1,_⟩:=h.drv;exact xK h1
 have rab:∀ a,r=some a→a.block<σ.y:=xK hr;have ld:zB Try.prog σ2 43 ⟨σ.re.y,0,none⟩=some (.agg ⟨wkc w.M p l c q m d w.rest w.run w.j⟩):=(hk0.le n2.le).ldN (k:=0) xS yW (ds:=wkc w.M p l c q m d w.rest w.run w.j) rfl rfl (by simp);have nx1:σ1.y=σ.y+1:=by rw [hσ1];rfl
 have nx2:=n2.le.y;have hb1:zG σ1.y [.agg ⟨wkc w.M p l c q m d w.rest w.run w.j⟩]:=zE (zBZ (fun a e=>by have:=pab a e;omega) (fun a e=>by have:=qab a e;omega)) zH;have hb2:zG σ2.y [.agg ⟨wkc w.M p l c q m d w.rest w.run w.j⟩,.slice r l rc,.slice p2 l c2]:=zE (zBZ (fun a e=>by have:=pab a e;omega) (fun a e=>by have:=qab a e;omega)) (zE (yH (fun a e=>by have:=rab a e;omega)) (zE (yH (xK s2)) zH));have hb3:zG σ3.y [.slice p3 (zIA w (zY rs) (zY (zBF w)) m).length c3]:=zE (yH (xK s3)) zH;rw [hσ1] at k2 hb1;by_cases e:zIA w (zY rs) (zY (zBF w)) m=[]
 ·rw [decide_eq_true e];exact (xJS ⟨k2,k3,hb1,hb2,hb3,⟨⟨by show σ.y<_;omega,rfl⟩,ld⟩⟩ ⟨rfl,hlow⟩ (by rw [e];rfl)).pure
 ·rw [decide_eq_false e];exact (xJR ⟨k2,k3,hb1,hb2,hb3,⟨⟨by show σ.y<_;omega,rfl⟩,ld⟩⟩ ⟨rfl,hlow⟩ (fun h=>e (List.length_eq_zero_iff.1 (by omega)))).pure
end
section
variable {σ:St} {w:Wk} {p q r t:Option Addr} {l m c d rl rc tl tc:Nat} {rs ts:List Int}
theorem yDF:zPA w rs=true↔rs.length=w.N.length∧∀ i,i<rs.length→-1≤zY rs i∧zY rs i<(w.L.length:Int):=by
 unfold zPA;rw [Bool.and_eq_true,decide_eq_true_eq,List.all_eq_true,And.comm];refine and_congr_right fun hl=>⟨fun h i hi=>?_,fun h x hx=>?_⟩
 ·have:=zAG.1 (h rs[i] (List.getElem_mem hi));have e:zY rs i=rs[i]:=by unfold zY;rw [List.getD_eq_getElem?_getD,List.getElem?_eq_getElem hi];rfl
  omega
 ·obtain ⟨i,hi,rfl⟩:=List.getElem_of_mem hx;have:=h i hi;have e:zY rs i=rs[i]:=by unfold zY;rw [List.getD_eq_getElem?_getD,List.getElem?_eq_getElem hi];rfl
  exact zAG.2 (by omega)
def zZE (rs:List Int):Nat:=(rs.filter fun x=>decide (0≤x)).length
def zAY (w:Wk) (rs:List Int) (eI:Int):Bool:=decide (yM w=0) && (zPA w rs && (decide (zIA w (zY rs) (zY (zBF w)) w.L.length=[]) && decide (eI≤(zZE rs:Int))))
theorem zMP {eI:Int} (h:WkP σ 69 61 w p l q m) (hsh:uX w) (hr:yF σ r rl rs) (hrl:rl≤1073741824) :
  zD Try.prog 20 [.agg ⟨wkc w.M p l c q m d w.rest w.run w.j⟩,.slice r rl rc,iV eI] σ (.bool (zAY w rs eI)) σ:=by
 have hln:=h.len.1;have hm:=h.len.2;obtain ⟨σ1,hσ1⟩:∃ σ1,σ1=σ.re.row (wkc w.M p l c q m d w.rest w.run w.j) 6:=⟨_,rfl⟩;have N1:New σ.re σ1:=by rw [hσ1];exact New.row _ _ _
 have L1:Le σ σ1:=(le0 σ).trans N1.le;have k1:=zKM (c:=c) (d:=d) (h.le L1) hsh;rw [hσ1] at k1;by_cases hf:yM w=0;rotate_left
 ·have:zAY w rs eI=false:=by unfold zAY;rw [decide_eq_false hf];rfl
  rw [this];exact (yAD k1 ⟨rfl,Nat.le_refl _⟩ hf).pure
 have hm6:=(zCP hf).2.1;have k2:=yZM (c:=c) (d:=d) (rc:=rc) (h.le L1) (SlV.le hr L1) hrl (by omega);rw [hσ1] at k2;cases b2:zPA w rs with
 | false =>
  have:zAY w rs eI=false:=by unfold zAY;rw [b2,decide_eq_true hf];rfl
  rw [b2] at k2;rw [this];exact (yAE k1 k2 ⟨rfl,Nat.le_refl _⟩ hf).pure
 | true =>
 rw [b2] at k2;obtain ⟨r1,r2⟩:=yDF.1 b2;have el:=hr.len;have hrll:rl=l:=by omega
 subst hrll;obtain ⟨n,hn,hn1,hn7,hv⟩:=yHT hf;have hs:=Sane.of hf hsh hln hm;have k3:=xQR (c:=c) (d:=d) (rc:=rc) hn hn7 hv.toDays (h.le L1) hs hsh (SlV.le hr L1) (fun i hi=>by have:=r2 i (by omega);omega);have k4:=yNN (c:=rc) (SlV.le hr L1) hrl;have ec:(rs.filter fun x=>decide (x≠-1))=rs.filter fun x=>decide (0≤x):=by
  apply List.filter_congr;intro x hx;obtain ⟨i,hi,rfl⟩:=List.getElem_of_mem hx;have:=r2 i hi;have e:zY rs i=rs[i]:=by unfold zY;rw [List.getD_eq_getElem?_getD,List.getElem?_eq_getElem hi];rfl
  apply decide_eq_decide.2;omega
 rw [ec] at k4;rw [hσ1] at k3 k4;have e:zAY w rs eI=(decide (zIA w (zY rs) (zY (zBF w)) m=[]) && decide (eI≤(zZE rs:Int))):=by unfold zAY;rw [b2,decide_eq_true hf,hm];rfl
 rw [e];by_cases h3:zIA w (zY rs) (zY (zBF w)) m=[]
 ·rw [decide_eq_true h3] at k3 ⊢;by_cases h4:eI≤(zZE rs:Int)
  ·rw [decide_eq_true h4];exact (yAH k1 k2 k3 k4 ⟨rfl,Nat.le_refl _⟩ hf h4).pure
  ·rw [decide_eq_false h4];exact (yAG k1 k2 k3 k4 ⟨rfl,Nat.le_refl _⟩ hf h4).pure
 ·rw [decide_eq_false h3] at k3 ⊢;exact (yAF k1 k2 k3 ⟨rfl,Nat.le_refl _⟩ hf).pure
end
section
noncomputable section
variable (dz:oAa) (bF bK BA BB BC:Nat) (bh bM fu:Int) (q1:Bool→St→Prop) (t2_1:Bool) (q3:(Option Addr)→Nat→Nat→Int→St→Prop) (q4:(Option Addr)→Nat→Nat→St→Prop) (eY:oAa) (q2:St→Prop) (q0:Int→St→Prop) (fe ff:Nat) (eL:Int) (σ:St) (Q:vPa) (Nx:Int→St→Prop) (q5:(Option Addr)→Nat→Nat→Int→St→Prop) (Q2:St→Prop) (Qr:Bool→St→Prop) (q6:(Option Addr)→Nat→Nat→St→Prop) (Q0:St→Prop)
def yZJ:Code:=(Code.part [1,0,1,0,0] (qj 24))
def zQC:lNa:=[(1,pq BA 0),(3,iV bh)]
def xNX:Alt:=⟨Int,.normal,fun t=>zQC BA t,fun t=>[],fun t σ=>q0 t σ⟩
def yFG (BA:Nat) (t2_1:Bool):lNa:=[(2,.bool t2_1)]
def zSJ:Alt:=⟨Bool,.ret,fun t=>yFG BA t,fun t=>[],fun t σ=>q1 t σ⟩
def yFH:lNa:=[(1,pq BA 0)]
def zSK:Alt:=⟨Unit,(.exit 0),fun t=>yFH BA,fun t=>[],fun t σ=>q2 σ⟩
def zHR:Prop:=qk ql none yZJ 47 (zQC BA bh) [] [xNX BA Nx,zSJ BA Qr,zSK BA Q0] σ
def yZK:Prop:=qm ql none yZJ 47 (zQC BA bh) [] [zSJ BA Qr,zSK BA Q0] σ
def yFI:Prop:=kZ ql (qj 24) [1,0,1,0] (qo 24 Q) .ret 47 (yFG BA t2_1) σ
def zLS:Prop:=kZ ql (qj 24) [1,0,1,0] (qo 24 Q) (.exit 0) 47 (yFH BA) σ
def yZG:Code:=(Code.part [1,1,0,1,0,0] (qj 12))
def zVL:lNa:=[(1,pq BA 0),(2,pq BB 0),(3,pq BC 0),(4,iV bM)]
def xNQ:Alt:=⟨Int,.normal,fun t=>zVL BA BB BC t,fun t=>[],fun t σ=>q0 t σ⟩
def yFD:lNa:=[(1,pq BA 0),(2,pq BB 0),(3,pq BC 0)]
def zSI:Alt:=⟨Unit,(.exit 0),fun t=>yFD BA BB BC,fun t=>[],fun t σ=>q2 σ⟩
def yIP:Prop:=qk ql none yZG 82 (zVL BA BB BC bM) [] [xNQ BA BB BC Nx,zSI BA BB BC Q0] σ
def yZI:Prop:=qm ql none yZG 82 (zVL BA BB BC bM) [] [zSI BA BB BC Q0] σ
def yFF:Prop:=kZ ql (qj 12) [1,1,0,1,0] (qo 12 Q) (.exit 0) 82 (yFD BA BB BC) σ
def yZF:Code:=(Code.part [1,1,1,0,1,0,0] (qj 12))
def zQB:lNa:=[(1,pq BA 0),(2,pq BB 0),(3,pq BC 0),(6,iV fu)]
def xNP:Alt:=⟨Int,.normal,fun t=>zQB BA BB BC t,fun t=>[],fun t σ=>q0 t σ⟩
def yFC (BA BB BC:Nat):lNa:=[(2,pq BB 0),(3,pq BC 0)]
def zSH:Alt:=⟨Unit,(.exit 2),fun t=>yFC BA BB BC,fun t=>[],fun t σ=>q2 σ⟩
def zVM:Prop:=qk ql none yZF 82 (zQB BA BB BC fu) [] [xNP BA BB BC Nx,zSH BA BB BC Q2] σ
def yZH:Prop:=qm ql none yZF 82 (zQB BA BB BC fu) [] [zSH BA BB BC Q2] σ
def yFE:Prop:=kZ ql (qj 12) [1,1,1,0,1,0] (qo 12 Q) (.exit 2) 82 (yFC BA BB BC) σ
def yPD:Code:=(Code.part [1,1,0,1,0,0] (qj 8))
def zKK:lNa:=[(1,.slice dz bF bK),(2,pq BA 0),(5,.slice eY fe ff),(6,iV eL)]
def xFK:Alt:=⟨(Option Addr) × Nat × Nat × Int,.normal,fun t=>zKK dz bF bK BA t.1 t.2.1 t.2.2.1 t.2.2.2,fun t=>[],fun t σ=>q3 t.1 t.2.1 t.2.2.1 t.2.2.2 σ⟩
def yAI (dz:oAa) (bF bK BA:Nat) (eY:oAa) (fe ff:Nat):lNa:=[(5,.slice eY fe ff)]
def zNZ:Alt:=⟨(Option Addr) × Nat × Nat,(.exit 0),fun t=>yAI dz bF bK BA t.1 t.2.1 t.2.2,fun t=>[],fun t σ=>q4 t.1 t.2.1 t.2.2 σ⟩
def zKL:Prop:=qk ql none yPD 43 (zKK dz bF bK BA eY fe ff eL) [] [xFK dz bF bK BA q5,zNZ dz bF bK BA q6] σ
def yAJ:Prop:=qm ql none yPD 43 (zKK dz bF bK BA eY fe ff eL) [] [zNZ dz bF bK BA q6] σ
def yAK:Prop:=kZ ql (qj 8) [1,1,0,1,0] (qo 8 Q) (.exit 0) 43 (yAI dz bF bK BA eY fe ff) σ
end
variable {BA lA cE lG cF lH cG lM cJ ab ad aa ac lO cP lW cY BB BC lJ cH lNB cJB lI cI lE cB lB cA lF cD lN cL lX cS lQ cO lY cT lP cN lZ cU lDB cAB lOB cKB lPB cLB lQB cMB lRB cNB bF bK fe ff:Nat} {Inv:Nat→Int→St→Prop} {Qr Pr:Bool→St→Prop} {Q0 P0 Q2 P2:St→Prop} {bh nA nE nK am ao au aj bM nF nD nB fu nH nI nJ nSB nTB nUB nWB nXB nYB nZB nB8 nB9 nCA nCD n2 eL:Int} {dV eK words_a:Addr} {qE qF qJ qD af ae qO qX qG qJB qB qA qC qK qS qN qT qM qU qZ qH qKB qLB qMB qNB dz eY:oAa} {σ σD σEC σH σI σE σDB σFC σK σL σZ σB:St} {Nx:Int→St→Prop} {Q:vPa} {t2_1:Bool}
theorem yWL (hb:∀ k bh σ,Inv k bh σ→zHR BA bh σ (NX1 Inv k) Qr Q0):∀ k bh σ,Inv k bh σ→yZK BA bh σ Qr Q0 :=
 xJ (ai zCK (ai (wI 0) trivial)) hb
theorem xNW:let y0:=zM qE lG cF qF lH cG qJ lM cJ nA nE nK;∀ (h1:lz σ 23 (qg BA 2) (.slice (some dV) lA cE)) (h2:lz σ 70 (zN dV (Int.toNat bh*6)) (qh y0)) (nx:Qr false ((σ.row (zM none 0 0 none 0 0 none 0 0 0 0 0) 6).own σ.y y0 6)) (u1:bh<(lA:Int):=by omega) (u2:bh<10:=by omega) (u3:Ix bh lA:=by omega) (u4:20<(lG:Int):=by omega),zHR BA bh σ Nx Qr Q0 :=
 let s1:=σ.row (zM none 0 0 none 0 0 none 0 0 0 0 0) 6;let s2:=s1.own σ.y (zM qE lG cF qF lH cG qJ lM cJ nA nE nK) 6;let y0:=zM qE lG cF qF lH cG qJ lM cJ nA nE nK;fun h1 h2 nx u1 u2 u3 u4=>kO 1 false [.g,.g,.l (.slice (some dV) lA cE),.g,.b true,.g,.g,.b true,.g,.g,.l (.slice (some dV) lA cE),.g,.i,.l (qh y0),.g,.e undef s2,.g,.l (.slice qE lG cF),.g,.b true,.g,.g,.g,.g,.g] (fun _ f=>an3 h1 (zR u1) (zR u2) (an6 h1 u3 h2 ((zC _ _ _).store (vs:=y0) rfl zAI rfl (nle rfl) rfl:qq (evL [pq σ.y 0,qh y0]) s1 (.store 70 (.tmp 0) (.tmp 1))=some (undef,s2)) ((zC _ _ _).put.rw.ld yV (k:=0) rfl:lz s2 29 (qg σ.y 0) (.slice qE lG cF)) (zR u4) f)) nx
theorem xNV:let y0:=zM qE lG cF qF lH cG qJ lM cJ nA nE nK;∀ (h1:lz σ 23 (qg BA 2) (.slice (some dV) lA cE)) (h2:lz σ 70 (zN dV (Int.toNat bh*6)) (qh y0)) (nx:Qr false ((σ.row (zM none 0 0 none 0 0 none 0 0 0 0 0) 6).own σ.y y0 6)) (u1:bh<(lA:Int):=by omega) (u2:bh<10:=by omega) (u3:Ix bh lA:=by omega) (u4:¬ 20<(lG:Int):=by omega) (u5:20<(lH:Int):=by omega),zHR BA bh σ Nx Qr Q0 :=
 let s1:=σ.row (zM none 0 0 none 0 0 none 0 0 0 0 0) 6;let s2:=s1.own σ.y (zM qE lG cF qF lH cG qJ lM cJ nA nE nK) 6;let y0:=zM qE lG cF qF lH cG qJ lM cJ nA nE nK;fun h1 h2 nx u1 u2 u3 u4 u5=>kO 1 false [.g,.g,.l (.slice (some dV) lA cE),.g,.b true,.g,.g,.b true,.g,.g,.l (.slice (some dV) lA cE),.g,.i,.l (qh y0),.g,.e undef s2,.g,.l (.slice qE lG cF),.g,.b false,.g,.g,.l (.slice qF lH cG),.g,.b true,.g,.g,.g,.g] (fun _ f=>an5 h1 (zR u1) (zR u2) h1 u3 (an6 h2 ((zC _ _ _).store (vs:=y0) rfl zAI rfl (nle rfl) rfl:qq (evL [pq σ.y 0,qh y0]) s1 (.store 70 (.tmp 0) (.tmp 1))=some (undef,s2)) ((zC _ _ _).put.rw.ld yV (k:=0) rfl:lz s2 29 (qg σ.y 0) (.slice qE lG cF)) (zT u4) ((zC _ _ _).put.rw.ld yV (k:=1) rfl:lz s2 29 (qg σ.y 1) (.slice qF lH cG)) (zR u5) f)) nx
theorem xNU:let y0:=zM qE lG cF qF lH cG qJ lM cJ nA nE nK;∀ (h1:lz σ 23 (qg BA 2) (.slice (some dV) lA cE)) (h2:lz σ 70 (zN dV (Int.toNat bh*6)) (qh y0)) (nx:Qr false ((σ.row (zM none 0 0 none 0 0 none 0 0 0 0 0) 6).own σ.y y0 6)) (u1:bh<(lA:Int):=by omega) (u2:bh<10:=by omega) (u3:Ix bh lA:=by omega) (u4:¬ 20<(lG:Int):=by omega) (u5:¬ 20<(lH:Int):=by omega) (u6:20<(lM:Int):=by omega),zHR BA bh σ Nx Qr Q0 :=
 let s1:=σ.row (zM none 0 0 none 0 0 none 0 0 0 0 0) 6;let s2:=s1.own σ.y (zM qE lG cF qF lH cG qJ lM cJ nA nE nK) 6;let y0:=zM qE lG cF qF lH cG qJ lM cJ nA nE nK;fun h1 h2 nx u1 u2 u3 u4 u5 u6=>kO 1 false [.g,.g,.l (.slice (some dV) lA cE),.g,.b true,.g,.g,.b true,.g,.g,.l (.slice (some dV) lA cE),.g,.i,.l (qh y0),.g,.e undef s2,.g,.l (.slice qE lG cF),.g,.b false,.g,.g,.l (.slice qF lH cG),.g,.b false,.g,.g,.g,.l (.slice qJ lM cJ),.g,.b true,.g,.g] (fun _ f=>ai h1 (an6 (zR u1) (zR u2) h1 u3 h2 ((zC _ _ _).store (vs:=y0) rfl zAI rfl (nle rfl) rfl:qq (evL [pq σ.y 0,qh y0]) s1 (.store 70 (.tmp 0) (.tmp 1))=some (undef,s2)) (an6 ((zC _ _ _).put.rw.ld yV (k:=0) rfl:lz s2 29 (qg σ.y 0) (.slice qE lG cF)) (zT u4) ((zC _ _ _).put.rw.ld yV (k:=1) rfl:lz s2 29 (qg σ.y 1) (.slice qF lH cG)) (zT u5) ((zC _ _ _).put.rw.ld yV (k:=2) rfl:lz s2 29 (qg σ.y 2) (.slice qJ lM cJ)) (zR u6) f))) nx
theorem xNT:let y0:=zM qE lG cF qF lH cG qJ lM cJ nA nE nK;∀ (h1:lz σ 23 (qg BA 2) (.slice (some dV) lA cE)) (h2:lz σ 70 (zN dV (Int.toNat bh*6)) (qh y0)) (nx:Nx (bh+1) ((σ.row (zM none 0 0 none 0 0 none 0 0 0 0 0) 6).own σ.y y0 6)) (u1:bh<(lA:Int):=by omega) (u2:bh<10:=by omega) (u3:Ix bh lA:=by omega) (u4:¬ 20<(lG:Int):=by omega) (u5:¬ 20<(lH:Int):=by omega) (u6:¬ 20<(lM:Int):=by omega) (u7:I6 (bh+1):=by omega),zHR BA bh σ Nx Qr Q0 :=
 let s1:=σ.row (zM none 0 0 none 0 0 none 0 0 0 0 0) 6;let s2:=s1.own σ.y (zM qE lG cF qF lH cG qJ lM cJ nA nE nK) 6;let y0:=zM qE lG cF qF lH cG qJ lM cJ nA nE nK;fun h1 h2 nx u1 u2 u3 u4 u5 u6 u7=>kO 0 (bh+1) [.g,.g,.l (.slice (some dV) lA cE),.g,.b true,.g,.g,.b true,.g,.g,.l (.slice (some dV) lA cE),.g,.i,.l (qh y0),.g,.e undef s2,.g,.l (.slice qE lG cF),.g,.b false,.g,.g,.l (.slice qF lH cG),.g,.b false,.g,.g,.g,.l (.slice qJ lM cJ),.g,.b false,.g,.g,.n (bh+1),.g] (fun _ f=>an2 h1 (zR u1) (an6 (zR u2) h1 u3 h2 ((zC _ _ _).store (vs:=y0) rfl zAI rfl (nle rfl) rfl:qq (evL [pq σ.y 0,qh y0]) s1 (.store 70 (.tmp 0) (.tmp 1))=some (undef,s2)) ((zC _ _ _).put.rw.ld yV (k:=0) rfl:lz s2 29 (qg σ.y 0) (.slice qE lG cF)) (an6 (zT u4) ((zC _ _ _).put.rw.ld yV (k:=1) rfl:lz s2 29 (qg σ.y 1) (.slice qF lH cG)) (zT u5) ((zC _ _ _).put.rw.ld yV (k:=2) rfl:lz s2 29 (qg σ.y 2) (.slice qJ lM cJ)) (zT u6) (w64 u7) f))) nx
theorem xNS (h1:lz σ 23 (qg BA 2) (.slice qD lA cE)) (nx:Q0 σ) (u1:bh<(lA:Int):=by omega) (u2:¬ bh<10:=by omega):zHR BA bh σ Nx Qr Q0 :=
 kO 2 () [.g,.g,.l (.slice qD lA cE),.g,.b true,.g,.g,.b false,.g] (fun _ f=>an3 h1 (zR u1) (zT u2) f) nx
theorem xNR (h1:lz σ 23 (qg BA 2) (.slice qD lA cE)) (nx:Q0 σ) (u1:¬ bh<(lA:Int):=by omega):zHR BA bh σ Nx Qr Q0 :=
 kO 2 () [.g,.g,.l (.slice qD lA cE),.g,.b false,.g,.g] (fun _ f=>an2 h1 (zT u1) f) nx
theorem xSV:let y0:=wkc am af ab ad ae aa ac ao au aj;∀ (hL:yZK σ.y 0 (σ.row y0 6) Pr P0) (kr:∀ t2_1' σ',Pr t2_1' σ'→yFI σ.y t2_1' σ' Q) (k0:∀ σ',P0 σ'→zLS σ.y σ' Q),qi 24 [qh y0] σ Q :=
 fun hL kr k0=>zI [.g,.g,.g,.lf 47 (zQC σ.y 0) [zSJ σ.y Pr,zSK σ.y P0]] (kd (ai (ai tt (ai (arf (zQC σ.y 0)) hL)) (ai (kz1 kr) (ai (kz0 k0) trivial))))
theorem yWH (nx:Q (.bool t2_1) σ):yFI BA t2_1 σ Q :=
 sK [] nx
theorem yWK (h1:lz σ 22 (qg BA 1) (.slice qO lO cP)) (h2:lz σ 23 (qg BA 2) (.slice qX lW cY)) (nx:Q (.bool true) σ) (u1:(lO:Int)≤15:=by omega) (u2:(lW:Int)≤9:=by omega):zLS BA σ Q :=
 sK [.g,.l (.slice qO lO cP),.g,.b true,.g,.g,.l (.slice qX lW cY),.g,.b true,.g,.g] (an4 h1 (yE u1) h2 (yE u2) nx)
theorem yWJ (h1:lz σ 22 (qg BA 1) (.slice qO lO cP)) (h2:lz σ 23 (qg BA 2) (.slice qX lW cY)) (nx:Q (.bool false) σ) (u1:(lO:Int)≤15:=by omega) (u2:¬ (lW:Int)≤9:=by omega):zLS BA σ Q :=
 sK [.g,.l (.slice qO lO cP),.g,.b true,.g,.g,.l (.slice qX lW cY),.g,.b false,.g,.g] (an4 h1 (yE u1) h2 (yJ u2) nx)
theorem yWI (h1:lz σ 22 (qg BA 1) (.slice qO lO cP)) (nx:Q (.bool false) σ) (u1:¬ (lO:Int)≤15:=by omega):zLS BA σ Q :=
 sK [.g,.l (.slice qO lO cP),.g,.b false,.g,.g,.g] (an2 h1 (yJ u1) nx)
theorem yWG (hb:∀ k bM σ,Inv k bM σ→yIP BA BB BC bM σ (NX1 Inv k) Q0):∀ k bM σ,Inv k bM σ→yZI BA BB BC bM σ Q0 :=
 xJ (ai (wI 0) trivial) hb
theorem xNO:let s1:=σ.row (zF 0 0 0 0 0) 5;let s2:=s1.own σ.y (zF nF nD nB nA nE) 5;∀ (h1:lz σ 22 (qg BA 1) (.slice (some dV) lA cE)) (h2:lz σ 35 (zN dV (Int.toNat bM*5)) (qh (zF nF nD nB nA nE))) (h3:lz s2 40 (qg BC 1) (.slice qG lJ cH)) (h4:yD Pg 40 40 (.slice qG lJ cH) (.slice (some ⟨(σ.y+1),0,none⟩) 1 1) (s2.row (zF nF nD nB nA nE) 5)=some (.slice qJB lNB cJB,σD)) (h5:qq (evL [pq BC 1,.slice qJB lNB cJB]) σD (.store 40 (.tmp 0) (.tmp 1))=some (undef,σEC)) (nx:Nx (bM+1) σEC) (u1:bM<(lA:Int):=by omega) (u2:Ix bM lA:=by omega) (u3:I6 (bM+1):=by omega),yIP BA BB BC bM σ Nx Q0:=
 let s1:=σ.row (zF 0 0 0 0 0) 5;let s2:=s1.own σ.y (zF nF nD nB nA nE) 5;fun h1 h2 h3 h4 h5 nx u1 u2 u3=>kO 0 (bM+1) [.g,.g,.l (.slice (some dV) lA cE),.g,.b true,.g,.l (.slice (some dV) lA cE),.g,.i,.l (qh (zF nF nD nB nA nE)),.g,.e undef s2,.g,.l (.slice qG lJ cH),.g,.l (iV nF),.g,.l (iV nD),.g,.g,.l (iV nB),.g,.g,.l (iV nA),.g,.g,.l (iV nE),.g,.g,.e (.slice qJB lNB cJB) σD,.g,.e undef σEC,.g,.n (bM+1),.g] (fun _ f=>an3 h1 (zR u1) h1 (an6 u2 h2 ((zC _ _ _).store (vs:=(zF nF nD nB nA nE)) rfl zDL rfl (nle rfl) rfl:qq (evL [pq σ.y 0,qh (zF nF nD nB nA nE)]) s1 (.store 35 (.tmp 0) (.tmp 1))=some (undef,s2)) h3 ((zC _ _ _).put.rw.ld zS (k:=0) rfl:lz s2 3 (qg σ.y 0) (iV nF)) ((zC _ _ _).put.rw.ld zS (k:=1) rfl:lz s2 3 (qg σ.y 1) (iV nD)) (an6 ((zC _ _ _).put.rw.ld zS (k:=2) rfl:lz s2 3 (qg σ.y 2) (iV nB)) ((zC _ _ _).put.rw.ld zS (k:=3) rfl:lz s2 3 (qg σ.y 3) (iV nA)) ((zC _ _ _).put.rw.ld zS (k:=4) rfl:lz s2 3 (qg σ.y 4) (iV nE)) h4 h5 (w64 u3) f))) nx
theorem xNN (h1:lz σ 22 (qg BA 1) (.slice qD lA cE)) (nx:Q0 σ) (u1:¬ bM<(lA:Int):=by omega):yIP BA BB BC bM σ Nx Q0 :=
 kO 1 () [.g,.g,.l (.slice qD lA cE),.g,.b false] (fun _ f=>an2 h1 (zT u1) f) nx
theorem xSU:let y0:=wkc am af ab ad ae aa ac ao au aj;let y1:=wkc 0 none 0 0 none 0 0 0 0 0;let y2:=wkc am none 0 0 none 0 0 ao au aj;∀ (hL:yZI σ.y (σ.y+1) (σ.y+2) 0 ((((σ.row y0 6).row y1 6).row y1 6).own (σ.y+2) y2 6) P0) (k0:∀ σ',P0 σ'→yFF σ.y (σ.y+1) (σ.y+2) σ' Q),qi 12 [qh y0] σ Q :=
 let s1:=σ.row (wkc am af ab ad ae aa ac ao au aj) 6;let s2:=s1.row (wkc 0 none 0 0 none 0 0 0 0 0) 6;let s3:=s2.row (wkc 0 none 0 0 none 0 0 0 0 0) 6;let s4:=s3.own (σ.y+2) (wkc am none 0 0 none 0 0 ao au aj) 6;let s5:=zVL σ.y (σ.y+1) (σ.y+2) 0;let y2:=wkc am none 0 0 none 0 0 ao au aj;fun hL k0=>zI [.g,.g,.g,.l (iV am),.g,.l (iV ao),.g,.l (iV au),.g,.l (iV aj),.g,.g,.e undef s4,.g,.lf 82 s5 [zSI σ.y (σ.y+1) (σ.y+2) P0]] (kd (an5 ((zC _ _ _).row.rw.ld zS (k:=0) rfl:lz s2 3 (qg σ.y 0) (iV am)) ((zC _ _ _).row.rw.ld zS (k:=3) rfl:lz s2 3 (qg σ.y 3) (iV ao)) ((zC _ _ _).row.rw.ld zS (k:=4) rfl:lz s2 3 (qg σ.y 4) (iV au)) ((zC _ _ _).row.rw.ld zS (k:=5) rfl:lz s2 3 (qg σ.y 5) (iV aj)) ((zC _ _ _).store (vs:=y2) rfl yW rfl (nle rfl) rfl:qq (evL [pq ((σ.y+2)) 0,qh y2]) s3 (.store 43 (.tmp 0) (.tmp 1))=some (undef,s4)) (ai (ai tt (ai (arf s5) hL)) (ai (kz0 k0) trivial))))
theorem yWF (hb:∀ k fu σ,Inv k fu σ→zVM BA BB BC fu σ (NX1 Inv k) Q2):∀ k fu σ,Inv k fu σ→yZH BA BB BC fu σ Q2 :=
 xJ (ai (wI 2) trivial) hb
theorem xNM:let s1:=σ.row (zM none 0 0 none 0 0 none 0 0 0 0 0) 6;let s2:=s1.own σ.y (zM qB lE cB qA lB cA qC lF cD nH nI nJ) 6;let Y1:=σE.row (zM qS lX cS qT lY cT qU lZ cU nSB nTB nUB) 6;∀ (h1:lz σ 23 (qg BA 2) (.slice (some eK) lI cI)) (h2:lz σ 70 (zN eK (Int.toNat fu*6)) (qh (zM qB lE cB qA lB cA qC lF cD nH nI nJ))) (h3:lz s2 41 (qg BC 2) (.slice qK lN cL)) (h4:qn 10 [.slice qB lE cB] s2 (.slice qS lX cS) σH) (h5:lz σH 29 (qg σ.y 1) (.slice qN lQ cO)) (h6:qn 10 [.slice qN lQ cO] σH (.slice qT lY cT) σI) (h7:lz σI 29 (qg σ.y 2) (.slice qM lP cN)) (h8:qn 10 [.slice qM lP cN] σI (.slice qU lZ cU) σE) (h9:lz σE 3 (qg σ.y 3) (iV nSB)) (h10:lz σE 3 (qg σ.y 4) (iV nTB)) (h11:lz σE 3 (qg σ.y 5) (iV nUB)) (h12:yD Pg 41 41 (.slice qK lN cL) (.slice (some (qg σE.y 0)) 1 1) Y1=some (.slice qZ lDB cAB,σDB)) (h13:qq (evL [pq BC 2,.slice qZ lDB cAB]) σDB (.store 41 (.tmp 0) (.tmp 1))=some (undef,σFC)) (h14:zG σH.y [pq σ.y 1]) (h15:zG σH.y [.slice qN lQ cO]) (h16:zG σI.y [pq σ.y 2]) (h17:zG σI.y [.slice qM lP cN]) (h18:zG σE.y [pq σ.y 3]) (h19:zG σE.y [pq σ.y 4]) (h20:zG σE.y [pq σ.y 5]) (h21:zG σE.y [qh (zM qS lX cS qT lY cT qU lZ cU nSB nTB nUB)]) (h22:zG Y1.y [.slice qK lN cL,.slice (some (qg σE.y 0)) 1 1]) (h23:zG σDB.y [pq BC 2,.slice qZ lDB cAB]) (h24:(zLq σH 41 (qg BC 2) (.slice qK lN cL))) (h25:(zLq σI 41 (qg BC 2) (.slice qK lN cL))) (h26:(zLq σE 41 (qg BC 2) (.slice qK lN cL))) (h27:(zLq Y1 41 (qg BC 2) (.slice qK lN cL))) (h28:lz s2 29 (qg σ.y 1) (.slice qN lQ cO)) (h29:(zLq σH 29 (qg σ.y 1) (.slice qN lQ cO))) (h30:lz s2 29 (qg σ.y 2) (.slice qM lP cN)) (h31:(zLq σH 29 (qg σ.y 2) (.slice qM lP cN))) (h32:(zLq σI 29 (qg σ.y 2) (.slice qM lP cN))) (h33:lz s2 3 (qg σ.y 3) (iV nSB)) (h34:(zLq σH 3 (qg σ.y 3) (iV nSB))) (h35:(zLq σI 3 (qg σ.y 3) (iV nSB))) (h36:(zLq σE 3 (qg σ.y 3) (iV nSB))) (h37:lz s2 3 (qg σ.y 4) (iV nTB)) (h38:(zLq σH 3 (qg σ.y 4) (iV nTB))) (h39:(zLq σI 3 (qg σ.y 4) (iV nTB))) (h40:(zLq σE 3 (qg σ.y 4) (iV nTB))) (h41:lz s2 3 (qg σ.y 5) (iV nUB)) (h42:(zLq σH 3 (qg σ.y 5) (iV nUB))) (h43:(zLq σI 3 (qg σ.y 5) (iV nUB))) (h44:(zLq σE 3 (qg σ.y 5) (iV nUB))) (b_qB:∀ a,qB=some a→a.block<σ.y) (nx:Nx (fu+1) σFC) (u1:fu<(lI:Int):=by omega) (u2:Ix fu lI:=by omega) (u3:I6 (fu+1):=by omega) (b_BC:BC<σ.y:=by omega),zVM BA BB BC fu σ Nx Q2:=
 let s1:=σ.row (zM none 0 0 none 0 0 none 0 0 0 0 0) 6;let s2:=s1.own σ.y (zM qB lE cB qA lB cA qC lF cD nH nI nJ) 6;fun h1 h2 h3 h4 h5 h6 h7 h8 h9 h10 h11 h12 h13 h14 h15 h16 h17 h18 h19 h20 h21 h22 h23 h24 h25 h26 h27 h28 h29 h30 h31 h32 h33 h34 h35 h36 h37 h38 h39 h40 h41 h42 h43 h44 b_qB nx u1 u2 u3 b_BC=>kO 0 (fu+1) [.g,.g,.l (.slice (some eK) lI cI),.g,.b true,.g,.l (.slice (some eK) lI cI),.g,.i,.l (qh (zM qB lE cB qA lB cA qC lF cD nH nI nJ)),.g,.e undef s2,.g,.l (.slice qK lN cL),.g,.l (.slice qB lE cB),.c (.slice qS lX cS) σH,.g,.l (.slice qN lQ cO),.c (.slice qT lY cT) σI,.g,.l (.slice qM lP cN),.c (.slice qU lZ cU) σE,.g,.l (iV nSB),.g,.l (iV nTB),.g,.l (iV nUB),.g,.g,.e (.slice qZ lDB cAB) σDB,.g,.e undef σFC,.g,.n (fu+1),.g] (fun _ f=>an4 h1 (zR u1) h1 u2 (an6 h2 ((zC _ _ _).store (vs:=(zM qB lE cB qA lB cA qC lF cD nH nI nJ)) rfl zAI rfl (nle rfl) rfl:qq (evL [pq σ.y 0,qh (zM qB lE cB qA lB cA qC lF cD nH nI nJ)]) s1 (.store 70 (.tmp 0) (.tmp 1))=some (undef,s2)) h3 ((zC _ _ _).put.rw.ld yV (k:=0) rfl:lz s2 29 (qg σ.y 0) (.slice qB lE cB)) h4 h5 (an6 h6 h7 h8 h9 h10 h11 (an6 h12 h13 ((zE (zO (vK b_BC 1)) zH):zG s2.y [pq BC 2]) ((zE (zO (nlt σ.y 0 1 rfl)) zH):zG s2.y [pq σ.y 0]) ((zE (zCA b_qB 1) zH):zG s2.y [.slice qB lE cB]) h14 (an6 h15 h16 h17 h18 h19 h20 (an6 h21 h22 h23 (⟨⟨(vK b_BC 1),rfl⟩,h3⟩:(zLq s2 41 (qg BC 2) (.slice qK lN cL))) h24 h24 (an6 h25 h25 h26 h26 h27 (⟨⟨(nlt σ.y 0 1 rfl),rfl⟩,h28⟩:(zLq s2 29 (qg σ.y 1) (.slice qN lQ cO))) (an6 h29 (⟨⟨(nlt σ.y 0 1 rfl),rfl⟩,h30⟩:(zLq s2 29 (qg σ.y 2) (.slice qM lP cN))) h31 h31 h32 (⟨⟨(nlt σ.y 0 1 rfl),rfl⟩,h33⟩:(zLq s2 3 (qg σ.y 3) (iV nSB))) (an6 h34 h34 h35 h35 h36 (⟨⟨(nlt σ.y 0 1 rfl),rfl⟩,h37⟩:(zLq s2 3 (qg σ.y 4) (iV nTB))) (an6 h38 h38 h39 h39 h40 (⟨⟨(nlt σ.y 0 1 rfl),rfl⟩,h41⟩:(zLq s2 3 (qg σ.y 5) (iV nUB))) (an6 h42 h42 h43 h43 h44 (w64 u3) f))))))))))) nx
theorem xNL (h1:lz σ 23 (qg BA 2) (.slice qH lI cI)) (nx:Q2 σ) (u1:¬ fu<(lI:Int):=by omega):zVM BA BB BC fu σ Nx Q2 :=
 kO 1 () [.g,.g,.l (.slice qH lI cI),.g,.b false] (fun _ f=>an2 h1 (zT u1) f) nx
theorem yWE (hL:yZH BA BB BC 0 σ P2) (k2:∀ σ',P2 σ'→yFE BA BB BC σ' Q):yFF BA BB BC σ Q :=
 sK [.g,.lf 82 (zQB BA BB BC 0) [zSH BA BB BC P2]] (ai (ai tt (ai (arf (zQB BA BB BC 0)) hL)) (ai (kz0 k2) trivial))
theorem yWD:let y0:=qh (wkc nB8 qMB lQB cMB qNB lRB cNB nB9 nCA nCD);let y1:=wkc nWB qKB lOB cKB qLB lPB cLB nXB nYB nZB;∀ (h1:lz σ 43 (qg BC 0) (qh y1)) (h2:qq (evL [pq BB 0,qh y1]) σ (.store 43 (.tmp 0) (.tmp 1))=some (undef,σK)) (h3:lz σK 43 (qg BB 0) y0) (nx:Q y0 σK),yFE BA BB BC σ Q :=
 let y0:=qh (wkc nB8 qMB lQB cMB qNB lRB cNB nB9 nCA nCD);let y1:=wkc nWB qKB lOB cKB qLB lPB cLB nXB nYB nZB;fun h1 h2 h3 nx=>sK [.l (qh y1),.e undef σK,.l y0] (an3 h1 h2 h3 nx)
theorem xHF:let s1:=σ.row (wkc am af ab ad ae aa ac ao au aj) 6;∀ (h1:qn 24 [qh (wkc am af ab ad ae aa ac ao au aj)] s1 (.bool true) s1) (h2:qn 25 [qh (wkc am af ab ad ae aa ac ao au aj)] s1 (iV n2) s1) (nx:Q (.bool true) s1) (u1:n2=0:=by omega),qi 6 [qh (wkc am af ab ad ae aa ac ao au aj)] σ Q:=
 let s1:=σ.row (wkc am af ab ad ae aa ac ao au aj) 6;fun h1 h2 nx u1=>zI [.g,.g,.l (qh (wkc am af ab ad ae aa ac ao au aj)),.c (.bool true) s1,.g,.l (qh (wkc am af ab ad ae aa ac ao au aj)),.c (iV n2) s1,.b true,.g,.g] (kd (an5 ((zC _ _ _).rw.ldN zCR vZ (k:=0) rfl rfl (nle rfl):lz s1 25 (qg σ.y 0) (qh (wkc am af ab ad ae aa ac ao au aj))) h1 ((zC _ _ _).rw.ldN zCR vZ (k:=0) rfl rfl (nle rfl):lz s1 25 (qg σ.y 0) (qh (wkc am af ab ad ae aa ac ao au aj))) h2 (xH u1) nx))
theorem xHE:let s1:=σ.row (wkc am af ab ad ae aa ac ao au aj) 6;∀ (h1:qn 24 [qh (wkc am af ab ad ae aa ac ao au aj)] s1 (.bool true) s1) (h2:qn 25 [qh (wkc am af ab ad ae aa ac ao au aj)] s1 (iV n2) s1) (nx:Q (.bool false) s1) (u1:¬ n2=0:=by omega),qi 6 [qh (wkc am af ab ad ae aa ac ao au aj)] σ Q:=
 let s1:=σ.row (wkc am af ab ad ae aa ac ao au aj) 6;fun h1 h2 nx u1=>zI [.g,.g,.l (qh (wkc am af ab ad ae aa ac ao au aj)),.c (.bool true) s1,.g,.l (qh (wkc am af ab ad ae aa ac ao au aj)),.c (iV n2) s1,.b false,.g,.g] (kd (an5 ((zC _ _ _).rw.ldN zCR vZ (k:=0) rfl rfl (nle rfl):lz s1 25 (qg σ.y 0) (qh (wkc am af ab ad ae aa ac ao au aj))) h1 ((zC _ _ _).rw.ldN zCR vZ (k:=0) rfl rfl (nle rfl):lz s1 25 (qg σ.y 0) (qh (wkc am af ab ad ae aa ac ao au aj))) h2 (xL u1) nx))
theorem xHD:let s1:=σ.row (wkc am af ab ad ae aa ac ao au aj) 6;∀ (h1:qn 24 [qh (wkc am af ab ad ae aa ac ao au aj)] s1 (.bool false) s1) (nx:Q (.bool false) s1),qi 6 [qh (wkc am af ab ad ae aa ac ao au aj)] σ Q:=
 let s1:=σ.row (wkc am af ab ad ae aa ac ao au aj) 6;fun h1 nx=>zI [.g,.g,.l (qh (wkc am af ab ad ae aa ac ao au aj)),.c (.bool false) s1,.g,.g,.g] (kd (an2 ((zC _ _ _).rw.ldN zCR vZ (k:=0) rfl rfl (nle rfl):lz s1 25 (qg σ.y 0) (qh (wkc am af ab ad ae aa ac ao au aj))) h1 nx))
theorem xJP:let s1:=σ.row (wkc am af ab ad ae aa ac ao au aj) 6;∀ (h1:qn 6 [qh (wkc am af ab ad ae aa ac ao au aj)] s1 (.bool true) s1) (nx:Q (.bool true) s1) (u1:(ab:Int)≤8:=by omega) (u2:(aa:Int)≤4:=by omega),qi 23 [qh (wkc am af ab ad ae aa ac ao au aj)] σ Q:=
 let s1:=σ.row (wkc am af ab ad ae aa ac ao au aj) 6;fun h1 nx u1 u2=>zI [.g,.g,.l (qh (wkc am af ab ad ae aa ac ao au aj)),.c (.bool true) s1,.g,.g,.l (.slice af ab ad),.g,.b true,.g,.g,.g,.l (.slice ae aa ac),.g,.b true,.g,.g] (kd (an6 ((zC _ _ _).rw.ldN zCR vZ (k:=0) rfl rfl (nle rfl):lz s1 25 (qg σ.y 0) (qh (wkc am af ab ad ae aa ac ao au aj))) h1 ((zC _ _ _).rw.ld vI (k:=1) rfl:lz s1 22 (qg σ.y 1) (.slice af ab ad)) (yE u1) ((zC _ _ _).rw.ld zGA (k:=2) rfl:lz s1 23 (qg σ.y 2) (.slice ae aa ac)) (yE u2) nx))
theorem xJO:let s1:=σ.row (wkc am af ab ad ae aa ac ao au aj) 6;∀ (h1:qn 6 [qh (wkc am af ab ad ae aa ac ao au aj)] s1 (.bool true) s1) (nx:Q (.bool false) s1) (u1:(ab:Int)≤8:=by omega) (u2:¬ (aa:Int)≤4:=by omega),qi 23 [qh (wkc am af ab ad ae aa ac ao au aj)] σ Q:=
 let s1:=σ.row (wkc am af ab ad ae aa ac ao au aj) 6;fun h1 nx u1 u2=>zI [.g,.g,.l (qh (wkc am af ab ad ae aa ac ao au aj)),.c (.bool true) s1,.g,.g,.l (.slice af ab ad),.g,.b true,.g,.g,.g,.l (.slice ae aa ac),.g,.b false,.g,.g] (kd (an6 ((zC _ _ _).rw.ldN zCR vZ (k:=0) rfl rfl (nle rfl):lz s1 25 (qg σ.y 0) (qh (wkc am af ab ad ae aa ac ao au aj))) h1 ((zC _ _ _).rw.ld vI (k:=1) rfl:lz s1 22 (qg σ.y 1) (.slice af ab ad)) (yE u1) ((zC _ _ _).rw.ld zGA (k:=2) rfl:lz s1 23 (qg σ.y 2) (.slice ae aa ac)) (yJ u2) nx))
theorem xJN:let s1:=σ.row (wkc am af ab ad ae aa ac ao au aj) 6;∀ (h1:qn 6 [qh (wkc am af ab ad ae aa ac ao au aj)] s1 (.bool true) s1) (nx:Q (.bool false) s1) (u1:¬ (ab:Int)≤8:=by omega),qi 23 [qh (wkc am af ab ad ae aa ac ao au aj)] σ Q:=
 let s1:=σ.row (wkc am af ab ad ae aa ac ao au aj) 6;fun h1 nx u1=>zI [.g,.g,.l (qh (wkc am af ab ad ae aa ac ao au aj)),.c (.bool true) s1,.g,.g,.l (.slice af ab ad),.g,.b false,.g,.g,.g,.g] (kd (an4 ((zC _ _ _).rw.ldN zCR vZ (k:=0) rfl rfl (nle rfl):lz s1 25 (qg σ.y 0) (qh (wkc am af ab ad ae aa ac ao au aj))) h1 ((zC _ _ _).rw.ld vI (k:=1) rfl:lz s1 22 (qg σ.y 1) (.slice af ab ad)) (yJ u1) nx))
theorem xJM:let s1:=σ.row (wkc am af ab ad ae aa ac ao au aj) 6;∀ (h1:qn 6 [qh (wkc am af ab ad ae aa ac ao au aj)] s1 (.bool false) s1) (nx:Q (.bool false) s1),qi 23 [qh (wkc am af ab ad ae aa ac ao au aj)] σ Q:=
 let s1:=σ.row (wkc am af ab ad ae aa ac ao au aj) 6;fun h1 nx=>zI [.g,.g,.l (qh (wkc am af ab ad ae aa ac ao au aj)),.c (.bool false) s1,.g,.g,.g,.g,.g] (kd (an2 ((zC _ _ _).rw.ldN zCR vZ (k:=0) rfl rfl (nle rfl):lz s1 25 (qg σ.y 0) (qh (wkc am af ab ad ae aa ac ao au aj))) h1 nx))
theorem yPC {Inv:Nat→(Option Addr)→Nat→Nat→Int→St→Prop} {Q0:(Option Addr)→Nat→Nat→St→Prop} (hb:∀ k eY fe ff eL σ,Inv k eY fe ff eL σ→zKL dz bF bK BA eY fe ff eL σ (NX4 Inv k) Q0):∀ k eY fe ff eL σ,Inv k eY fe ff eL σ→yAJ dz bF bK BA eY fe ff eL σ Q0 :=
 yTE (ai (wI 0) trivial) hb
theorem xFJ {Nx:(Option Addr)→Nat→Nat→Int→St→Prop} {Q0:(Option Addr)→Nat→Nat→St→Prop} (h1:lz σ 22 (qg BA 1) (.slice qD lA cE)) (h2:lz σ 23 (qg BA 2) (.slice qE lG cF)) (h3:uH Pg .rem 3 (.tmp 25) (.tmp 27) (iV eL) (iV (bF:Int))=some (iV nD)) (h4:lz σ 5 (zN words_a (Int.toNat nD*1)) (.int .u8 nB)) (h5:uH Pg .rem 3 (.tmp 31) (.tmp 35) (iV nB) (iV ((lG:Int)+1))=some (iV nA)) (h6:yD Pg 29 29 (.slice eY fe ff) (.slice (some (qg σ.y 0)) 1 1) (σ.row [iV (nA-1)] 1)=some (.slice qG lJ cH,σL)) (nx:Nx qG lJ cH (eL+1) σL) (u1:eL<(lA:Int):=by omega) (u2:0<(bF:Int):=by omega) (u3:0<(lG:Int):=by omega) (u4:Ix nD bF:=by omega) (u5:I6 nB:=by omega) (u6:I6 ((lG:Int)+1):=by omega) (u7:I6 (nA-1):=by omega) (u8:I6 (eL+1):=by omega):zKL (some words_a) bF bK BA eY fe ff eL σ Nx Q0 :=
 kO 0 (qG,lJ,cH,eL+1) [.g,.g,.l (.slice qD lA cE),.g,.b true,.g,.g,.g,.b true,.g,.g,.l (.slice qE lG cF),.g,.b true,.g,.g,.g,.g,.g,.v (iV nD),.i,.l (.int .u8 nB),.n nB,.g,.l (.slice qE lG cF),.g,.n ((lG:Int)+1),.v (iV nA),.n (nA-1),.g,.g,.g,.g,.e (.slice qG lJ cH) σL,.g,.g,.n (eL+1),.g] (fun _ f=>an3 h1 (zR u1) (zR u2) (an6 h2 (zR u3) h3 u4 h4 (w64 u5) (an6 h2 (w64 u6) h5 (w64 u7) h6 (w64 u8) f))) nx
theorem xFI {Nx:(Option Addr)→Nat→Nat→Int→St→Prop} {Q0:(Option Addr)→Nat→Nat→St→Prop} (h1:lz σ 22 (qg BA 1) (.slice qD lA cE)) (h2:lz σ 23 (qg BA 2) (.slice qE lG cF)) (h3:yD Pg 29 29 (.slice eY fe ff) (.slice (some (qg σ.y 0)) 1 1) (σ.row [iV (-1)] 1)=some (.slice qJ lM cJ,σZ)) (nx:Nx qJ lM cJ (eL+1) σZ) (u1:eL<(lA:Int):=by omega) (u2:0<(bF:Int):=by omega) (u3:¬ 0<(lG:Int):=by omega) (u4:I6 (eL+1):=by omega):zKL dz bF bK BA eY fe ff eL σ Nx Q0 :=
 kO 0 (qJ,lM,cJ,eL+1) [.g,.g,.l (.slice qD lA cE),.g,.b true,.g,.g,.g,.b true,.g,.g,.l (.slice qE lG cF),.g,.b false,.g,.g,.g,.g,.e (.slice qJ lM cJ) σZ,.g,.g,.n (eL+1),.g] (fun _ f=>ai h1 (an6 (zR u1) (zR u2) h2 (zT u3) h3 (w64 u4) f)) nx
theorem xFH {Nx:(Option Addr)→Nat→Nat→Int→St→Prop} {Q0:(Option Addr)→Nat→Nat→St→Prop} (h1:lz σ 22 (qg BA 1) (.slice qD lA cE)) (h2:yD Pg 29 29 (.slice eY fe ff) (.slice (some (qg σ.y 0)) 1 1) (σ.row [iV (-1)] 1)=some (.slice qF lH cG,σB)) (nx:Nx qF lH cG (eL+1) σB) (u1:eL<(lA:Int):=by omega) (u2:¬ 0<(bF:Int):=by omega) (u3:I6 (eL+1):=by omega):zKL dz bF bK BA eY fe ff eL σ Nx Q0 :=
 kO 0 (qF,lH,cG,eL+1) [.g,.g,.l (.slice qD lA cE),.g,.b true,.g,.g,.g,.b false,.g,.g,.g,.g,.g,.e (.slice qF lH cG) σB,.g,.g,.n (eL+1),.g] (fun _ f=>an5 h1 (zR u1) (zT u2) h2 (w64 u3) f) nx
theorem xFG {Nx:(Option Addr)→Nat→Nat→Int→St→Prop} {Q0:(Option Addr)→Nat→Nat→St→Prop} (h1:lz σ 22 (qg BA 1) (.slice qD lA cE)) (nx:Q0 eY fe ff σ) (u1:¬ eL<(lA:Int):=by omega):zKL dz bF bK BA eY fe ff eL σ Nx Q0 :=
 kO 1 (eY,fe,ff) [.g,.g,.l (.slice qD lA cE),.g,.b false] (fun _ f=>an2 h1 (zT u1) f) nx
theorem xOB {P0:(Option Addr)→Nat→Nat→St→Prop}:let y0:=wkc am af ab ad ae aa ac ao au aj;∀ (hL:yAJ dz bF bK σ.y none 0 0 0 (σ.row y0 6) P0) (k0:∀ p5_1' l5_1' c5_1' σ',P0 p5_1' l5_1' c5_1' σ'→yAK dz bF bK σ.y p5_1' l5_1' c5_1' σ' Q),qi 8 [qh y0,.slice dz bF bK] σ Q :=
 fun hL k0=>zI [.g,.g,.g,.g,.lf 43 (zKK dz bF bK σ.y none 0 0 0) [zNZ dz bF bK σ.y P0]] (kd (ai (ai tt (ai (arf (zKK dz bF bK σ.y none 0 0 0)) hL)) (ai (kz3 k0) trivial)))
theorem yPB (nx:Q (.slice eY fe ff) σ):yAK dz bF bK BA eY fe ff σ Q :=
 sK [.g,.g] nx
end
section
variable {σ:St} {w:Wk} {p q r t:Option Addr} {l m c d rl rc tl tc:Nat} {rs ts:List Int}
theorem yKE {i j:Nat} {k:Int} (hi:i<rs.length):zY (rs.set i k) j=if j=i then k else zY rs j:=by
 unfold zY;rw [List.getD_eq_getElem?_getD,List.getD_eq_getElem?_getD,List.getElem?_set];by_cases e:i=j
 ·subst e;rw [if_pos rfl,if_pos hi,if_pos rfl];rfl
 ·rw [if_neg e,if_neg (Ne.symm e)]
def zMA (x:Drv):Bool:=decide (x.J.length≤20) && (decide (x.qa.length≤20) && decide (x.qb.length≤20))
def zIH (w:Wk):Bool:=(w.L.take 10).all zMA && (decide (w.N.length≤15) && decide (w.L.length≤9))
theorem zWC (h:zIH w=true):uX w∧w.N.length≤15∧w.L.length≤9:=by
 unfold zIH at h;rw [Bool.and_eq_true,Bool.and_eq_true,decide_eq_true_eq,decide_eq_true_eq] at h;obtain ⟨h1,h2,h3⟩:=h;refine ⟨fun x hx=>?_,h2,h3⟩
 rw [List.take_of_length_le (by omega)] at h1;have:=List.all_eq_true.1 h1 x hx;unfold zMA at this;rw [Bool.and_eq_true,Bool.and_eq_true,decide_eq_true_eq,decide_eq_true_eq,decide_eq_true_eq] at this;omega
theorem xWM (h:WkP σ 35 70 w p l q m):zD Try.prog 24 [.agg ⟨wkc w.M p l c q m d w.rest w.run w.j⟩] σ (.bool (zIH w)) σ:=by
 have hln:=h.len.1;have hm:=h.len.2;obtain ⟨σ1,hσ1⟩:∃ σ1,σ1=σ.re.row (wkc w.M p l c q m d w.rest w.run w.j) 6:=⟨_,rfl⟩;have N1:New σ.re σ1:=by rw [hσ1];exact New.row _ _ _
 have L1:Le σ σ1:=(le0 σ).trans N1.le;have hk0:=xQ σ.re (wkc w.M p l c q m d w.rest w.run w.j) 6;rw [← hσ1] at hk0;have lD:∀ {τ},New σ1 τ→zB Try.prog τ 22 ⟨σ.re.y,1,none⟩=some (.slice p l c):=fun hN=>(hk0.le hN.le).ld vI rfl
 have lV:∀ {τ},New σ1 τ→zB Try.prog τ 23 ⟨σ.re.y,2,none⟩=some (.slice q m d):=fun hN=>(hk0.le hN.le).ld zGA rfl
 refine (xSV (yWL (Inv:=fun k i τ=>New σ1 τ∧∃ j:Nat,i=j∧j+k=m∧j≤10∧(w.L.take j).all zMA=true) (Qr:=fun b τ=>New σ1 τ∧b=false∧zIH w=false) (Q0:=fun τ=>New σ1 τ∧(w.L.take 10).all zMA=true) ?_ m 0 _ ⟨by rw [← hσ1];exact New.refl _,0,rfl,by omega,by omega,rfl⟩) ?_ ?_).pure
 ·rintro k i τ ⟨hN,j,rfl,hk,hj10,ha⟩;by_cases hj:j<m;rotate_left
  ·refine xNR (lV hN) ⟨hN, ?_⟩ (by omega);rw [List.take_of_length_le (by omega)] at ha ⊢;exact ha
  by_cases h10:j<10;rotate_left
  ·have:j=10:=by omega
   subst this;exact xNS (lV hN) ⟨hN,ha⟩ (by omega) (by omega)
  obtain ⟨a,rfl,p',l',c',r',n',d',s',j',e',ld,hkn,hlv,hws,_⟩:=(h.le (L1.trans hN.le)).vld xNI zAI hj;have e1:=hkn.len;have e2:=hlv.len;have e3:=hws.len;have N2:New τ ((τ.row (zM none 0 0 none 0 0 none 0 0 0 0 0) 6).own τ.y (zM p' l' c' r' n' d' s' j' e' (drQ w j).off (drQ w j).row (drQ w j).used) 6):=(New.row _ _ _).own (Nat.le_refl _);have hx:w.L[j]?=some (drQ w j):=by
   unfold drQ;rw [List.getD_eq_getElem?_getD,List.getElem?_eq_getElem (by omega)];rfl
  have no:zMA (drQ w j)=false→zIH w=false:=by
   intro hf;have:(w.L.take 10).all zMA=false:=by
    refine yWA (x:=drQ w j) ?_ hf;rw [List.mem_iff_getElem?];exact ⟨j,by rw [List.getElem?_take,if_pos h10];exact hx⟩
   unfold zIH;rw [this];rfl
  by_cases g1:20<l'
  ·exact xNW (lV hN) ld ⟨hN.trans N2,rfl,no (by unfold zMA;rw [decide_eq_false (by omega)];rfl)⟩ (by omega) (by omega) (by omega) (by omega)
  by_cases g2:20<n'
  ·exact xNV (lV hN) ld ⟨hN.trans N2,rfl,no (by unfold zMA;rw [decide_eq_true (by omega),decide_eq_false (by omega)];rfl)⟩ (by omega) (by omega) (by omega) (by omega) (by omega)
  by_cases g3:20<j'
  ·exact xNU (lV hN) ld ⟨hN.trans N2,rfl,no (by unfold zMA;rw [decide_eq_true (by omega),decide_eq_true (by omega),decide_eq_false (by omega)];rfl)⟩ (by omega) (by omega) (by omega) (by omega) (by omega) (by omega)
  ·exact xNT (lV hN) ld ⟨k-1,by omega,hN.trans N2,j+1,by omega,by omega,by omega,yAB hx ha (by unfold zMA;rw [decide_eq_true (by omega),decide_eq_true (by omega),decide_eq_true (by omega)];rfl)⟩ (by omega) (by omega) (by omega) (by omega) (by omega) (by omega) (by omega)
 ·rintro b τ ⟨hN,rfl,e⟩;exact yWH ⟨by rw [e],(N1.trans hN).lw⟩
 ·rintro τ ⟨hN,e⟩;have hlow:=(N1.trans hN).lw;by_cases h15:l≤15
  ·by_cases h9:m≤9
   ·exact yWK (lD hN) (lV hN) ⟨by unfold zIH;rw [e,decide_eq_true (by omega),decide_eq_true (by omega)];rfl,hlow⟩ (by omega) (by omega)
   ·exact yWJ (lD hN) (lV hN) ⟨by unfold zIH;rw [e,decide_eq_true (by omega),decide_eq_false (by omega)];rfl,hlow⟩ (by omega) (by omega)
  ·exact yWI (lD hN) ⟨by unfold zIH;rw [e,decide_eq_false (by omega)];rfl,hlow⟩ (by omega)
end
theorem zJO {w:Wk}:∀ {a b D:Nat},xB w (a+b) D=xB w a D++xB w b (D+a)
 | 0,b,D=>by rw [Nat.zero_add];rfl
 | a+1,b,D=>by
  rw [show a+1+b=(a+b)+1 by omega];show yC w D w.N.length++xB w (a+b) (D+1)=(yC w D w.N.length++xB w a (D+1))++_;rw [zJO (a:=a),List.append_assoc,show D+1+a=D+(a+1) by omega]
theorem xDR {w:Wk} {n D:Nat} (h:D<n):xB w n 0=xB w D 0++(yC w D w.N.length++xB w (n-D-1) (D+1)):=by
 have e:n=D+((n-D-1)+1):=by omega
 have:=zJO (w:=w) (a:=D) (b:=(n-D-1)+1) (D:=0);rw [← e] at this;rw [this,Nat.zero_add];rfl
theorem yUB {w:Wk} {D:Nat}:xB w (D+1) 0=xB w D 0++yC w D w.N.length:=by
 rw [zJO (a:=D) (b:=1),Nat.zero_add];show _++(yC w D w.N.length++[])=_;rw [List.append_nil]
theorem xGW {L:List Nat} {rs:List Int} {i:Nat} {x:Int} (hi:i<rs.length) (hn:i ∉ L):L.map (zY (rs.set i x))=L.map (zY rs):=by
 refine List.map_congr_left fun j hj=>?_
 rw [yKE hi,if_neg (fun e:j=i=>hn (by rw [← e];exact hj))]
theorem xIR {σ:St} {b l:Nat} {rs:List Int} (o:Own σ b (rs.map zZ) 1) (hl:rs.length=l):yF σ (some ⟨b,0,none⟩) l rs:=by
 refine ⟨?_,by simpa using hl,fun x hx=>?_⟩
 ·rw [vC rs .i64];exact ⟨by simp [hl],o.rw⟩
 ·obtain ⟨x,_,rfl⟩:=List.mem_map.1 hx;exact uN x
theorem xQB {σ:St} {b i:Nat} {rs:List Int} {x:Int} (o:Own σ b (rs.map zZ) 1) (hi:i<rs.length):zQ Pg (evL [.pointer (some (zN ⟨b,0,none⟩ (Int.toNat (i:Int)*1))),iV x]) σ (.store 3 (.tmp 0) (.tmp 1))=some (undef,σ.own b ((rs.set i x).map zZ) 1):=by
 have e:zN ⟨b,0,none⟩ (Int.toNat (i:Int)*1)=⟨b,i,none⟩:=by simp [zN]
 rw [e];refine o.store (k:=i) (v:=iV x) (vs:=[iV x]) rfl wZ rfl (by simp;omega) ?_
 rw [List.set_eq_take_append_cons_drop,if_pos hi,List.map_append,List.map_cons,List.map_take,List.map_drop];rfl
theorem zSN:∀ l:Nat,yZ [iV 0] l=(List.replicate l (0:Int)).map zZ
 | 0=>rfl
 | l+1=>by
  have:=zSN l;rw [List.replicate_succ,List.map_cons,← this];rfl
section
variable {z:St} {w:Wk} {p q:Option Addr} {l m c d n fw:Nat} {leaves:Bool} {fc:List Value} {wf:Nat→List Int→List Int}
structure RunJ (z:St) (w:Wk) (p:Option Addr) (l c:Nat) (q:Option Addr) (m d:Nat) (B br:Nat) (X:Nat→Prop) (e:EndR) (o:yPF) (L:List Nat) (at_:Int) (y:St) (rs:List Int):Prop where
 nw:New z.re y
 wk:Row y ⟨z.y,0,none⟩ (wkc w.M p l c q m d w.rest w.run w.j)
 wo:Own y (z.y+1) (zJ 0 0 0 0 0 0) 1
 en:Own y B (zEJ e) 8
 ro:Own y br (rs.map zZ) 1
 len:rs.length=l
 ep:EndP y X e o
 atb:0≤at_∧at_≤L.length
 is:∀ who u,o=some (who,u)→at_=L.length∧L.map (zY rs)=who.take L.length
theorem xTI (h:WkP z 69 61 w p l q m) (sh:uX w) (sn:Sane w l m) (dn:w.M=(n:Int)) (n7:n≤7) (vd:Days w n)
  (wfc:∀ z',Le z z'→∀ (D:Nat) (pw:Option Addr) (lw cw:Nat) (who:List Int),yF z' pw lw who→lw≤12→zD Pg fw ([]++(iV (D:Int)::.slice pw lw cw::fc)) z' (.agg ⟨six (wf D who)⟩) z')
  (wfl:∀ D a,(wf D a).length=6) (wfb:∀ D a,a.length≤12→Bd 12 (wf D a)) (bel:∀ k,z.y≤k→yX RD k (.func (.func fw) ⟨[]⟩ ⟨fc⟩)=true) (good:zL RD (.func (.func fw) ⟨[]⟩ ⟨fc⟩)=true) :
  ∃ (v:List Int) (can:Bool) (o:yPF) (rs:List Int) (p':Option Addr) (c':Nat) (z':St),zD Pg 35 [.agg ⟨wkc w.M p l c q m d w.rest w.run w.j⟩,.bool leaves,.func (.func fw) ⟨[]⟩ ⟨fc⟩] z (.tuple ⟨[.slice p' l c',.agg ⟨six v⟩,.bool can]⟩) z'∧New z z'∧yF z' p' l rs∧(∀ b,AtP p' b→z.y≤b)∧v.length=6∧Bd 100 v∧xU 6 (Ch w leaves wf n 0 (st0 w m)) o∧(match o with
   | none=>can=false
   | some (who,u)=>can=true∧v=u∧(xB w n 0).map (zY rs)=who):=by
 have hln:=h.len
 have zr:z.re.y=z.y:=rfl
 suffices hmain:zP Pg 35 [.agg ⟨wkc w.M p l c q m d w.rest w.run w.j⟩,.bool leaves,.func (.func fw) ⟨[]⟩ ⟨fc⟩] z.re fun vv s=>New z.re s∧∃ (v:List Int) (can:Bool) (o:yPF) (rs:List Int) (br:Nat),vv=.tuple ⟨[.slice (some ⟨br,0,none⟩) l l,.agg ⟨six v⟩,.bool can]⟩∧yF s (some ⟨br,0,none⟩) l rs∧z.y≤br∧v.length=6∧Bd 100 v∧xU 6 (Ch w leaves wf n 0 (st0 w m)) o∧(match o with
   | none=>can=false
   | some (who,u)=>can=true∧v=u∧(xB w n 0).map (zY rs)=who) by
  obtain ⟨vv,z',h1,h2,v,can,o,rs,br,rfl,h3,h4,h5,h6,h7,h8⟩:=zP.new hmain (by
   rintro vv s s' ⟨v,can,o,rs,br,h1,h2,h3⟩ hl;exact ⟨v,can,o,rs,br,h1,SlV.le h2 hl,h3⟩) (by
   rintro vv s hr ⟨v,can,o,rs,br,rfl,h2,h3⟩;exact Bool.noConfusion (show false=true from hr))
  exact ⟨v,can,o,rs,_,_,z',h1,h2,h3,fun b hb=>by obtain ⟨a,e,rfl⟩:=hb;cases e;exact h4,h5,h6,h7,h8⟩
 obtain ⟨t1,ht1⟩:∃ t1,t1=z.re.row (wkc w.M p l c q m d w.rest w.run w.j) 6:=⟨_,rfl⟩
 have n1:t1.y=z.y+1:=by rw [ht1];rfl
 have M1:New z.re t1:=by rw [ht1];exact New.row _ _ _
 have w1:Row t1 ⟨z.y,0,none⟩ (wkc w.M p l c q m d w.rest w.run w.j):=by rw [ht1];exact xQ z.re _ _
 obtain ⟨t2,ht2⟩:∃ t2,t2=t1.row (zJ 0 0 0 0 0 0) 1:=⟨_,rfl⟩
 have n2:t2.y=z.y+2:=by rw [ht2];show t1.y+1=_;omega
 have M2:New z.re t2:=by rw [ht2];exact M1.row'
 have v2:Own t2 (z.y+1) (zJ 0 0 0 0 0 0) 1:=by rw [ht2,← n1];exact zC _ _ _
 obtain ⟨t3,ht3⟩:∃ t3,t3=t2.add (.map []):=⟨_,rfl⟩
 have n3:t3.y=z.y+3:=by rw [ht3];show t2.y+1=_;omega
 have M23:New t2 t3:=by rw [ht3];exact New.add _ _
 have M3:New z.re t3:=M2.trans M23
 have mp3:zGB Pg t3 (z.y+2) yME zCZ (fun _=>none):=by rw [ht3,← n2];exact zGB.new t2
 let K:PlK:=⟨z,z.y+3,z.y+2,w,p,l,c,q,m,d,leaves,fw,[],fc,wf,n⟩
 obtain ⟨t4,ht4⟩:∃ t4,t4=t3.row K.row 9:=⟨_,rfl⟩
 have n4:t4.y=z.y+4:=by rw [ht4];show t3.y+1=_;omega
 have M34:New t3 t4:=by rw [ht4];exact New.row _ _ _
 have M4:New z.re t4:=M3.trans M34
 have pr4:Row t4 ⟨z.y+3,0,none⟩ K.row:=by rw [ht4,← n3];exact xQ _ _ _
 have okK:K.Ok:=⟨h,sh,sn,dn,n7,vd,by show z.y≤z.y+2;omega,by show z.y+2≠z.y+3;omega,wfc,wfl,wfb,by show w.N.length≤12;rw [hln.1];exact sn.l12,bel,good⟩
 have L4:Le z t4:=(le0 z).trans M4.le
 have W4:PlW K t4 (fun _=>none) (fun _=>False):=⟨L4,pr4,mp3.le M34.le,fun b hb=>hb.elim,fun D st e he=>by cases he⟩
 have c1:=yBL (c:=c) (d:=d) (h.le L4) sn.m6
 have hst:∀ k,k<m→StG (st0 w m k):=fun k hk=>by
  unfold st0;rw [if_pos hk];have hd:=sn.dr k hk;exact StG.before ⟨hd.1,hd.2.1⟩ ⟨hd.2.2.1,hd.2.2.2.1⟩ ⟨hd.2.2.2.2.1,hd.2.2.2.2.2⟩
 obtain ⟨z5,e,o,F',X',c2,k5,W5,E5,bo,x1,x2,_⟩:=xMO okK n t4 _ _ 0 (st0 w m) (by show 0+n=n;omega) W4 hst
 have M5:New z.re z5:=M4.of_only k5 (fun b hb=>by have hb:b=z.y+2:=hb;show z.y≤b;omega)
 have n5:=k5.y
 have w5:Row z5 ⟨z.y,0,none⟩ (wkc w.M p l c q m d w.rest w.run w.j):=k5.rw' (((w1.le (by rw [ht2];exact Le.row _ _ _)).le M23.le).le M34.le) (fun h=>by have h:z.y=z.y+2:=h;omega)
 have v5:Own z5 (z.y+1) (zJ 0 0 0 0 0 0) 1:=k5.own' ((v2.le M23.le).le M34.le) (fun h=>by have h:z.y+1=z.y+2:=h;omega)
 obtain ⟨t6,ht6⟩:∃ t6,t6=(z5.row [iV 0,iV 0,iV 0,iV 0,iV 0,iV 0,.slice none 0 0,.bool false] 8).own z5.y (zEJ e) 8:=⟨_,rfl⟩
 have n6:t6.y=z5.y+1:=by rw [ht6];rfl
 have M56:New z5 t6:=by rw [ht6];exact (New.row _ _ _).own (Nat.le_refl _)
 have e6:Own t6 z5.y (zEJ e) 8:=by rw [ht6];exact (zC _ _ _).put
 have w6:=w5.le M56.le
 have h3:zB Pg t6 40 ⟨z.y,1,none⟩=some (.slice p l c):=w6.ld zBD rfl
 have zt3:uZ Pg 3=some (iV 0):=by kernel_rfl
 have h4:=xQO (P:=Pg) (σ:=t6) (st:=29) (e:=3) (n:=1) (by kernel_rfl) zt3 (len:=l) (by have:=sn.l12;omega)
 obtain ⟨t7,ht7⟩:∃ t7,t7=t6.row (yZ (Value.int .i64 0).cells.toList l) 1:=⟨_,rfl⟩
 have n7':t7.y=z5.y+2:=by rw [ht7];show t6.y+1=_;omega
 have M67:New t6 t7:=by rw [ht7];exact New.row _ _ _
 have r7:Own t7 t6.y ((List.replicate l (0:Int)).map zZ) 1:=by rw [ht7,← zSN];exact zC _ _ _
 rw [← ht7] at h4
 have w7:=w6.le M67.le
 have h5:zB Pg t7 3 ⟨z.y,0,none⟩=some (iV w.M):=w7.ld zS rfl
 have M7:New z.re t7:=(M5.trans M56).trans M67
 have hx:∀ b,X' b→b<z5.y:=fun b hb=>(W5.xb b hb).1
 have e7:EndP t7 X' e o:=(E5.le M56.le).le M67.le
 have hnd:=zJP (w:=w) (r:=n) (D:=0)
 have J0:RunJ z w p l c q m d z5.y t6.y X' e o (xB w 0 0) 0 t7 (List.replicate l 0):=⟨M7,w7,(v5.le M56.le).le M67.le,e6.le M67.le,r7,by simp,e7,⟨by omega,by simp [xB]⟩,fun who u _=>⟨rfl,by simp [xB]⟩⟩
 have hol:∀ who u,o=some (who,u)→e.can=true∧e.v=u∧who.length=(xB w n 0).length:=by
  rintro who u rfl;have ht:e.can=true∧e.v=u∧_:=E5.tell;exact ⟨ht.1,ht.2.1,(yHY bo.1).1⟩
 have hflen:(xB w n 0).length≤100:=by
  have:=yEK (w:=w) (r:=n) (D:=0);have h1:=sn.l12;have:n*w.N.length≤7*12:=Nat.mul_le_mul n7 (by omega);omega
 let P0:St→Prop:=fun y=>∃ at_ rs,RunJ z w p l c q m d z5.y t6.y X' e o (xB w n 0) at_ y rs
 have hL:yQJ z.y (some ⟨t6.y,0,none⟩) l l (z.y+1) z5.y w.M 0 0 t7 P0:=by
  refine xAJ (Inv:=fun k a i y=>∃ (D:Nat) (rs:List Int),i=D∧D+k=n∧RunJ z w p l c q m d z5.y t6.y X' e o (xB w D 0) a y rs) ?_ n 0 0 t7 ⟨0,_,rfl,by omega,J0⟩;rintro k a i y ⟨D,rs,rfl,hk,J⟩;by_cases hD:D<n;rotate_left
  ·have:D=n:=by omega
   subst this;exact xPC ⟨a,rs,J⟩ (by omega)
  have hfd:=xDR (w:=w) hD;have hdl:(yC w D l).length≤l:=zDD;have hl12:=sn.l12;have g1:zB Pg y 43 ⟨z.y,0,none⟩=some (.agg ⟨wkc w.M p l c q m d w.rest w.run w.j⟩):=J.wk.ldN xS yW (k:=0) rfl rfl (nle rfl);obtain ⟨p2,c3,y2,g2,N2,I2,f2⟩:=yNL (σ:=y) (D:=D) (c:=c) (d:=d) (h.le ((le0 z).trans J.nw.le)) (by have:=sn.l12;omega);have J2:RunJ z w p l c q m d z5.y t6.y X' e o (xB w D 0) a y2 rs:=⟨J.nw.trans N2,J.wk.le N2.le,J.wo.le N2.le,J.en.le N2.le,J.ro.le N2.le,J.len,J.ep.le N2.le,J.atb,J.is⟩;refine xPD g1 g2 (P2:=fun a y=>∃ rs,RunJ z w p l c q m d z5.y t6.y X' e o (xB w D 0++yC w D l) a y rs) (xAI (Inv:=fun k a i y=>∃ (s:Nat) (rs:List Int),i=s∧s+k=(yC w D l).length∧yF y p2 (yC w D l).length (zNH (yC w D l))∧RunJ z w p l c q m d z5.y t6.y X' e o (xB w D 0++(yC w D l).take s) a y rs) ?_ (yC w D l).length a 0 y2 ⟨0,rs,rfl,by omega,I2,by simpa using J2⟩) ?_ (by omega)
  ·rintro k2 a2 i2 y3 ⟨s,rs3,rfl,hk2,I3,J3⟩;by_cases hs:s<(yC w D l).length;rotate_left
   ·have hse:s=(yC w D l).length:=by omega
    rw [hse,List.take_length] at J3;exact xOZ ⟨rs3,J3⟩ (by omega)
   obtain ⟨qa,rfl,_⟩:=I3.some hs;have hgs:(yC w D l)[s]?=some (yC w D l)[s]:=List.getElem?_eq_getElem hs;generalize (yC w D l)[s]=i at hgs;have ld1:zB Pg y3 3 (zN qa (Int.toNat (s:Int)*1))=some (iV (i:Int)):=I3.at rfl (by simp [zNH,hgs]);have ld2:zB Pg y3 4 ⟨z5.y,7,none⟩=some (.bool e.can):=J3.en.rw.ld xFF rfl;have hi:i<l:=(zBU.1 (List.mem_of_getElem? hgs)).1;have etk:(yC w D l).take (s+1)=(yC w D l).take s++[i]:=by rw [List.take_add_one,hgs];rfl
   have hlenL:(xB w D 0++(yC w D l).take (s+1)).length=(xB w D 0++(yC w D l).take s).length+1:=by rw [etk];simp;omega
   have hfl:xB w n 0=(xB w D 0++(yC w D l).take s)++(i::((yC w D l).drop (s+1)++xB w (n-D-1) (D+1))):=by
    rw [hfd,hln.1];conv=>lhs;rw [← List.take_append_drop (s+1) (yC w D l),etk]
    simp
   have hni:i ∉ xB w D 0++(yC w D l).take s:=fun hm=>by
    rw [hfl] at hnd;exact (List.nodup_append.1 hnd).2.2 i hm i List.mem_cons_self rfl
   have hll:=congrArg List.length hfl;rw [List.length_append,List.length_cons] at hll;have hat:=J3.atb;cases hc:e.can with
   | false =>
    rw [hc] at ld2;have hn:∀ who u,¬ o=some (who,u):=fun who u ho=>by
     have:=(hol who u ho).1;rw [hc] at this;cases this
    exact xPA ld1 ld2 ⟨k2-1,by omega,s+1,rs3,by omega,by omega,I3,J3.nw,J3.wk,J3.wo,J3.en,J3.ro,J3.len,J3.ep,⟨hat.1,by rw [hlenL];omega⟩,fun who u ho=>absurd ho (hn who u)⟩ (by omega) ⟨by omega,by omega⟩ ⟨by omega,by have:=sn.l12;omega⟩
   | true =>
    rw [hc] at ld2;obtain ⟨who,u,ho⟩:∃ who u,o=some (who,u):=by
     cases o with
     | none=>have ht:e.can=false:=E5.tell;rw [hc] at ht;cases ht
     | some r=>exact ⟨r.1,r.2,rfl⟩
    obtain ⟨hat2,hmp⟩:=J3.is who u ho;have hwl:=(hol who u ho).2.2;have ht:e.can=true∧e.v=u∧yF y3 e.p e.l who:=by have:=J3.ep.tell;rw [ho] at this;exact this
    have Iw:=ht.2.2;have ewl:=Iw.len;subst hat2;generalize hLn:(xB w D 0++(yC w D l).take s).length=N at *;have hNw:N<who.length:=by omega
    obtain ⟨ra,hra,_⟩:=Iw.some (by omega:N<e.l);have ld3:zB Pg y3 29 ⟨z5.y,6,none⟩=some (.slice (some ra) e.l e.c):=by rw [← hra];exact J3.en.rw.ld yV rfl
    have hgw:who[N]?=some who[N]:=List.getElem?_eq_getElem hNw;generalize who[N]=x at hgw;have ld4:zB Pg y3 3 (zN ra (Int.toNat ((N:Nat):Int)*1))=some (iV x):=Iw.at hra (by simp [hgw]);have hir:i<rs3.length:=by rw [J3.len];exact hi
    have st5:=xQB (x:=x) J3.ro hir;have kS:Only (·=t6.y) y3 (y3.own t6.y ((rs3.set i x).map zZ) 1):=Only.own (.inr rfl);have hz6:z.y+2≤z5.y:=by omega
    refine xPB ld1 ld2 ld3 ld4 st5 ⟨k2-1,by omega,s+1,rs3.set i x,by omega,by omega,kS.slv' I3 (fun a ea hh=>?_),J3.nw.own (by omega),kS.rw' J3.wk (fun hh=>by have hh:z.y=t6.y:=hh;omega),kS.own' J3.wo (fun hh=>by have hh:z.y+1=t6.y:=hh;omega),kS.own' J3.en (fun hh=>by have hh:z5.y=t6.y:=hh;omega),J3.ro.put,by simp [J3.len],J3.ep.only kS (fun b hb hh=>by have:=hx b hb;omega),⟨by omega,by omega⟩,fun who' u' ho'=>?_⟩ (by omega) ⟨by omega,by omega⟩ ⟨by omega,by omega⟩ ⟨by omega,by omega⟩ ⟨by omega,by omega⟩ ⟨by omega,by have:=sn.l12;omega⟩
    ·cases ea
     have:=f2 qa.block ⟨qa,rfl,rfl⟩;have hyz:=J.ro.lt;omega
    ·rw [ho] at ho';cases ho'
     refine ⟨by omega, ?_⟩
     rw [hlenL,etk,← List.append_assoc,List.map_append,xGW hir hni,hmp,List.map_cons,List.map_nil,yKE hir,if_pos rfl,List.take_add_one,hgw];rfl
  ·rintro a2 y3 ⟨rs3,J3⟩;refine xAG ⟨k-1,by omega,D+1,rs3,by omega,by omega, ?_⟩ ?_
   ·rw [yUB,hln.1];exact J3
   ·have:=J3.atb;have hll:(xB w D 0++yC w D l).length≤100:=by
     have:=congrArg List.length hfd;rw [hln.1] at this;simp only [List.length_append] at this hflen ⊢;omega
    exact ⟨by omega,by omega⟩
 have k0:∀ y,P0 y→zWO z.y (some ⟨t6.y,0,none⟩) l l (z.y+1) z5.y w.M y (fun vv s=>New z.re s∧∃ (v:List Int) (can:Bool) (o:yPF) (rs:List Int) (br:Nat),vv=.tuple ⟨[.slice (some ⟨br,0,none⟩) l l,.agg ⟨six v⟩,.bool can]⟩∧yF s (some ⟨br,0,none⟩) l rs∧z.y≤br∧v.length=6∧Bd 100 v∧xU 6 (Ch w leaves wf n 0 (st0 w m)) o∧(match o with
   | none=>can=false
   | some (who,u)=>can=true∧v=u∧(xB w n 0).map (zY rs)=who)):=by
  rintro y ⟨a,rs,J⟩
  have g1:zB Pg y 73 ⟨z5.y,0,none⟩=some (.agg ⟨zJ (e.v.getD 0 0) (e.v.getD 1 0) (e.v.getD 2 0) (e.v.getD 3 0) (e.v.getD 4 0) (e.v.getD 5 0)⟩):=J.en.rw.ldN zCW xZ (k:=0) rfl rfl (nle rfl)
  have g2:zB Pg y 4 ⟨z5.y,7,none⟩=some (.bool e.can):=J.en.rw.ld xFF rfl
  have g3:=J.wo.store (P:=Pg) (k:=0) (t:=73) (v:=.agg ⟨zJ (e.v.getD 0 0) (e.v.getD 1 0) (e.v.getD 2 0) (e.v.getD 3 0) (e.v.getD 4 0) (e.v.getD 5 0)⟩) (vs:=zJ (e.v.getD 0 0) (e.v.getD 1 0) (e.v.getD 2 0) (e.v.getD 3 0) (e.v.getD 4 0) (e.v.getD 5 0)) (ds:=zJ (e.v.getD 0 0) (e.v.getD 1 0) (e.v.getD 2 0) (e.v.getD 3 0) (e.v.getD 4 0) (e.v.getD 5 0)) rfl xZ rfl (nle rfl) rfl
  have kS:Only (·=z.y+1) y (y.own (z.y+1) (zJ (e.v.getD 0 0) (e.v.getD 1 0) (e.v.getD 2 0) (e.v.getD 3 0) (e.v.getD 4 0) (e.v.getD 5 0)) 1):=Only.own (.inr rfl)
  have e2:=kS.own' J.en (fun hh=>by have hh:z5.y=z.y+1:=hh;omega)
  have r2:=kS.own' J.ro (fun hh=>by have hh:t6.y=z.y+1:=hh;omega)
  have g4:(z5.y<(y.own (z.y+1) (zJ (e.v.getD 0 0) (e.v.getD 1 0) (e.v.getD 2 0) (e.v.getD 3 0) (e.v.getD 4 0) (e.v.getD 5 0)) 1).y∧zL RD (.bool e.can)=true)∧zB Pg (y.own (z.y+1) (zJ (e.v.getD 0 0) (e.v.getD 1 0) (e.v.getD 2 0) (e.v.getD 3 0) (e.v.getD 4 0) (e.v.getD 5 0)) 1) 4 ⟨z5.y,7,none⟩=some (.bool e.can):=⟨⟨e2.lt,rfl⟩,e2.rw.ld xFF rfl⟩
  have g5:zB Pg (y.own (z.y+1) (zJ (e.v.getD 0 0) (e.v.getD 1 0) (e.v.getD 2 0) (e.v.getD 3 0) (e.v.getD 4 0) (e.v.getD 5 0)) 1) 73 ⟨z.y+1,0,none⟩=some (.agg ⟨zJ (e.v.getD 0 0) (e.v.getD 1 0) (e.v.getD 2 0) (e.v.getD 3 0) (e.v.getD 4 0) (e.v.getD 5 0)⟩):=J.wo.put.rw.ldN zCW xZ (k:=0) rfl rfl (nle rfl)
  refine xAH g1 g2 g3 g4 g5 ⟨J.nw.own (by omega),e.v,e.can,o,rs,t6.y,by rw [zAJ],xIR r2 J.len,by omega,E5.len,E5.bd,bo, ?_⟩ J.en.lt J.wo.lt
  cases ho:o with
  | none =>
   have ht:=E5.tell;rw [ho] at ht;exact ht
  | some r =>
   obtain ⟨h1,h2,h3⟩:=hol r.1 r.2 ho;refine ⟨h1,h2, ?_⟩
   have h4:=(J.is r.1 r.2 ho).2;rw [h4,← h3,List.take_length]
 subst ht7 ht6 ht4 ht3 ht2 ht1
 exact xUN c1 c2 h3 h4 h5 hL k0
end
section
variable {z:St} {w:Wk} {p q:Option Addr} {l m c d:Nat}
theorem xOU {σ:St} {b m:Nat} {v:List Int} (hm:m≤6) (o:Own σ b (six v) 1):∃ c,yI Pg σ 73 (.pointer (some ⟨b,0,none⟩)) none (some (iV (m:Int))) none=some (.slice (some ⟨b,0,none⟩) m c):=by
 have hu:Pg.underlying 73=some (.array 6 3):=by kernel_rfl
 have ha:zUF σ ⟨b,0,none⟩ (6*1) 1=true:=by unfold zUF;simp only [o.get];rfl
 unfold yI;simp only [hu,wZ,ha,cond_true];match m,hm with
 | 0,_=>exact ⟨_,rfl⟩
 | 1,_=>exact ⟨_,rfl⟩
 | 2,_=>exact ⟨_,rfl⟩
 | 3,_=>exact ⟨_,rfl⟩
 | 4,_=>exact ⟨_,rfl⟩
 | 5,_=>exact ⟨_,rfl⟩
 | 6,_=>exact ⟨_,rfl⟩
theorem xQK {a:Addr} {l c:Nat}:uH Pg .eql 29 (.tmp 3) (.const (.slice none 0 0)) (.slice (some a) l c) (.slice none 0 0)=some (.bool false):=by kernel_rfl
theorem xRZ {σ:St} {rs:List Int} {a:Addr} (h:yF σ (some a) l rs) (hl:l≤1073741824):∃ p' c' σ',zD Pg 32 [.slice (some a) l c] σ (.slice p' l c') σ'∧New σ σ'∧yF σ' p' l rs∧∀ b,AtP p' b→σ.y≤b:=by
 have hc:(xF (rs.map zZ)).all cellB=true:=by rw [vC rs .i64];simp [List.all_eq_true];intro a _;rfl
 have N1:New σ.re (σ.re.row [] 1):=New.row _ _ _;obtain ⟨p6,c6,s5,ap1,A6,O6,b6⟩:=Ax.append (P:=Pg) (k:=c) (n0:=σ.re.y) zAU (Ax.lit (len:=0) (zC σ.re [] 1) rfl ((yQ 0).2 wW) (Nat.le_refl _)) (SlV.le h ((le0 σ).trans N1.le)).1 (by omega) hc N1.nx;rw [Nat.zero_add] at ap1 A6;have N5:New σ.re s5:=N1.of_only O6 (by rintro b ⟨a,e,rfl⟩;cases e;exact Nat.le_refl _);exact zP.newSl (xMH xQK ap1 ⟨N5,p6,c6,rfl,Ax.slv (by simpa using A6) (by simpa using h.2.1) h.2.2,fun b hb=>(A6.bd b hb).1⟩)
theorem xGQ {σ:St} {b m:Nat} {v:List Int} (hv:v.length=6) (hm:m≤6) (o:Own σ b (six v) 1):yF σ (some ⟨b,0,none⟩) m (v.take m):=by
 have e:six v=v.map zZ:=by
  apply List.ext_getElem (by rw [six,zAW,List.length_map,hv]);intro i g1 g2;have g3:i<v.length:=by simpa using g2
  simp [six,wT,g3]
 refine ⟨?_,by simp;omega,fun x hx=>?_⟩
 ·rw [vC _ .i64];refine ⟨by simp;omega, ?_⟩
  have h1:=o.rw.part (k:=0) (m:=m) (by rw [e,List.length_map,hv];omega);rw [e,List.drop_zero,← List.map_take] at h1;simpa [zN] using h1
 ·obtain ⟨x,_,rfl⟩:=List.mem_map.1 hx;exact uN x
structure BestL (w:Wk) (rs gs:List Int):Prop where
 ros:Ros w (zY rs)
 legal:wC w (zY rs) (late w)
 full:yAM w (zY rs)
 gs:gs=(grV w (zY rs)).take w.L.length
 best:∀ ros',Ros w ros'→wC w ros' (late w)→yAM w ros'→wK (grV w ros') (grV w (zY rs))=false
structure MostL (w:Wk) (rs:List Int):Prop where
 ros:Ros w (zY rs)
 legal:wC w (zY rs) (late w)
 most:∀ ros',Ros w ros'→wC w ros' (late w)→wX w ros'≤wX w (zY rs)
def xOG (w:Wk) (l m:Nat) (v:Value) (s:St):Prop :=
 (yM w≠0∧v=.tuple ⟨[.slice none 0 0,.slice none 0 0,iV (yM w)]⟩) ∨
 (yM w=0∧(∀ ros,Ros w ros→wC w ros (late w)→¬ yAM w ros)∧v=.tuple ⟨[.slice none 0 0,.slice none 0 0,iV 9]⟩) ∨
 (yM w=0∧∃ rs gs pr cr pg cg,v=.tuple ⟨[.slice pr l cr,.slice pg m cg,iV 0]⟩∧yF s pr l rs∧yF s pg m gs∧BestL w rs gs)
def xOF (n0:Nat) (w:Wk) (l m:Nat) (v:Value) (s:St):Prop :=
 (yM w≠0∧v=.tuple ⟨[.slice none 0 0,.slice none 0 0,iV (yM w)]⟩) ∨
 (yM w=0∧(∀ ros,Ros w ros→wC w ros (late w)→¬ yAM w ros)∧v=.tuple ⟨[.slice none 0 0,.slice none 0 0,iV 9]⟩) ∨
 (yM w=0∧∃ rs gs pr cr pg cg,v=.tuple ⟨[.slice pr l cr,.slice pg m cg,iV 0]⟩∧yF s pr l rs∧yF s pg m gs∧BestL w rs gs∧∀ b,AtP pr b→n0≤b)
def xNZ (w:Wk) (l:Nat) (v:Value) (s:St):Prop :=
 (yM w≠0∧v=.tuple ⟨[.slice none 0 0,iV 0,iV (yM w)]⟩) ∨
 (yM w=0∧∃ rs pr cr,v=.tuple ⟨[.slice pr l cr,iV (wX w (zY rs)),iV 0]⟩∧yF s pr l rs∧MostL w rs)
theorem xLN (D:Nat) (a:List Int):Bd 12 (uG w D a):=by
 intro x hx;unfold uG at hx;obtain ⟨k,_,rfl⟩:=List.mem_map.1 hx;split <;> omega
theorem xDY (D:Nat) (a:List Int) (h:a.length≤12):Bd 12 (zDZ D a):=by
 intro x hx;have:=List.length_filter_le (fun r:Int=>decide (r≠-1)) a;unfold zDZ zEY at hx;simp only [List.mem_cons,List.not_mem_nil,or_false] at hx;rcases hx with rfl | rfl | rfl | rfl | rfl | rfl <;> omega
theorem xWQ (h:WkP z 69 61 w p l q m) (hsh:uX w):∃ v z',zD Pg 21 [.agg ⟨wkc w.M p l c q m d w.rest w.run w.j⟩] z v z'∧New z z'∧xOF z.y w l m v z':=by
 have hln:=h.len;suffices hmain:zP Pg 21 [.agg ⟨wkc w.M p l c q m d w.rest w.run w.j⟩] z.re fun v s=>New z.re s∧xOF z.y w l m v s by
  obtain ⟨v,s,h1,h2,h3⟩:=zP.new hmain (by
   rintro v s s' (h | h | ⟨h0,rs,gs,pr,cr,pg,cg,h1,h2,h3,h4⟩) hl
   ·exact .inl h
   ·exact .inr (.inl h)
   ·exact .inr (.inr ⟨h0,rs,gs,pr,cr,pg,cg,h1,SlV.le h2 hl,SlV.le h3 hl,h4⟩)) (by
   rintro v s hr (h | h | ⟨h0,rs,gs,pr,cr,pg,cg,rfl,h2,h3,h4⟩)
   ·exact .inl h
   ·exact .inr (.inl h)
   ·cases pr with
    | some a=>exact Bool.noConfusion (show false=true from hr)
    | none=>cases pg with
     | some a=>exact Bool.noConfusion (show false=true from hr)
     | none=>exact .inr (.inr ⟨h0,rs,gs,none,cr,none,cg,rfl,zFE h2,zFE h3,h4⟩))
  exact ⟨v,s,h1,h2,h3⟩
 obtain ⟨t1,ht1⟩:∃ t1,t1=z.re.row (wkc w.M p l c q m d w.rest w.run w.j) 6:=⟨_,rfl⟩;have n1:t1.y=z.y+1:=by rw [ht1];rfl
 have M1:New z.re t1:=by rw [ht1];exact New.row _ _ _
 have w1:Row t1 ⟨z.y,0,none⟩ (wkc w.M p l c q m d w.rest w.run w.j):=by rw [ht1];exact xQ z.re _ _
 have h1:=h.le ((le0 z).trans M1.le);have k1:=zKM (c:=c) (d:=d) h1 hsh;by_cases hf:yM w=0;rotate_left
 ·subst ht1;exact xTD k1 ⟨New.row _ _ _,.inl ⟨hf,rfl⟩⟩ hf
 have hs:=Sane.of hf hsh hln.1 hln.2;obtain ⟨n,hn,hn1,hn7,hv⟩:=yHT hf;have hw:=yZP hf hn;obtain ⟨v,can,o,rs,p2,c2,z2,k2,N2,I2,f2,v6,vb,bo,ho⟩:=xTI (c:=c) (d:=d) (leaves:=false) (fw:=36) (fc:=[.pointer (some ⟨z.y,0,none⟩)]) (wf:=uG w) h1 hsh hs hn hn7 hv.toDays
  (fun z' hz D pw lw cw who hi hlw=>xTE (w1.le hz) (h1.le hz) hs.m6 hsh hi (by omega)) (fun D a=>xDQ) (fun D a _=>xLN D a)
  (fun k hk=>by
   show (true && (Nat.blt z.y k && true))=true;rw [(xY _ _).2 (by omega:z.y<k)];rfl) rfl
 have hst:∀ k,k<w.L.length→st0 w m k=before (drQ w k):=fun k hk=>by unfold st0;rw [if_pos (by omega)]
 have br:=xWC hv hw hst bo;rw [zAJ] at k2;cases o with
 | none =>
  have ho:can=false:=ho;rw [ho] at k2;subst ht1;exact xTB k1 k2 ⟨((New.row _ _ _).trans N2).trans ((New.row _ _ _).own (Nat.le_refl _)),.inr (.inl ⟨hf,br,rfl⟩)⟩ hf
 | some r =>
  obtain ⟨who,u⟩:=r;obtain ⟨hc,hvu,hmp⟩:can=true∧v=u∧(xB w n 0).map (zY rs)=who:=ho;rw [hc] at k2;subst hvu;obtain ⟨b1,b2⟩:=br;obtain ⟨r1,r2,r3,r4,r5⟩:=b2 _ hmp;obtain ⟨t3,ht3⟩:∃ t3,t3=(z2.row (zJ 0 0 0 0 0 0) 1).own z2.y (zJ (v.getD 0 0) (v.getD 1 0) (v.getD 2 0) (v.getD 3 0) (v.getD 4 0) (v.getD 5 0)) 1:=⟨_,rfl⟩;have M3:New z2 t3:=by rw [ht3];exact (New.row _ _ _).own (Nat.le_refl _)
  have o3:Own t3 z2.y (six v) 1:=by rw [ht3,zAJ];exact (zC _ _ _).put
  have h3:zB Pg t3 41 ⟨z.y,2,none⟩=some (.slice q m d):=((w1.le N2.le).le M3.le).ld zAE rfl;obtain ⟨c4,h4⟩:=xOU hs.m6 o3;obtain ⟨p5,c5,z5,k5,N5,I5,f5⟩:=xRZ (c:=c4) (xGQ v6 hs.m6 o3) (by have:=hs.m6;omega);have nx:New z.re z5∧xOF z.y w l m (.tuple ⟨[.slice p2 l c2,.slice p5 m c5,iV 0]⟩) z5:=⟨((M1.trans N2).trans M3).trans N5,.inr (.inr ⟨hf,rs,_,p2,c2,p5,c5,rfl,SlV.le (SlV.le I2 M3.le) N5.le,I5,⟨r1,r2,r3,by rw [r4,hln.2],fun ros' g1 g2 g3=>by rw [← r4];exact r5 ros' g1 g2 g3⟩,fun b hb=>by have:=f2 b hb;omega⟩)⟩;subst ht3 ht1;exact xTC k1 k2 h3 h4 k5 nx hf
theorem xOE (h:WkP z 69 61 w p l q m) (hsh:uX w):∃ v z',zD Pg 21 [.agg ⟨wkc w.M p l c q m d w.rest w.run w.j⟩] z v z'∧New z z'∧xOG w l m v z':=by
 obtain ⟨v,s,h1,h2,h3⟩:=xWQ (c:=c) (d:=d) h hsh;refine ⟨v,s,h1,h2, ?_⟩
 rcases h3 with h | h | ⟨h0,rs,gs,pr,cr,pg,cg,e,g1,g2,g3,_⟩
 ·exact .inl h
 ·exact .inr (.inl h)
 ·exact .inr (.inr ⟨h0,rs,gs,pr,cr,pg,cg,e,g1,g2,g3⟩)
theorem xNY (h:WkP z 69 61 w p l q m) (hsh:uX w):∃ v z',zD Pg 18 [.agg ⟨wkc w.M p l c q m d w.rest w.run w.j⟩] z v z'∧New z z'∧xNZ w l v z':=by
 have hln:=h.len;suffices hmain:zP Pg 18 [.agg ⟨wkc w.M p l c q m d w.rest w.run w.j⟩] z.re fun v s=>New z.re s∧xNZ w l v s by
  obtain ⟨v,s,h1,h2,h3⟩:=zP.new hmain (by
   rintro v s s' (h | ⟨h0,rs,pr,cr,h1,h2,h3⟩) hl
   ·exact .inl h
   ·exact .inr ⟨h0,rs,pr,cr,h1,SlV.le h2 hl,h3⟩) (by
   rintro v s hr (h | ⟨h0,rs,pr,cr,rfl,h2,h3⟩)
   ·exact .inl h
   ·cases pr with
    | some a=>exact Bool.noConfusion (show false=true from hr)
    | none=>exact .inr ⟨h0,rs,none,cr,rfl,zFE h2,h3⟩)
  exact ⟨v,s,h1,h2,h3⟩
 obtain ⟨t1,ht1⟩:∃ t1,t1=z.re.row (wkc w.M p l c q m d w.rest w.run w.j) 6:=⟨_,rfl⟩;have M1:New z.re t1:=by rw [ht1];exact New.row _ _ _
 have h1:=h.le ((le0 z).trans M1.le);have k1:=zKM (c:=c) (d:=d) h1 hsh;by_cases hf:yM w=0;rotate_left
 ·subst ht1;exact xSX k1 ⟨New.row _ _ _,.inl ⟨hf,rfl⟩⟩ hf
 have hs:=Sane.of hf hsh hln.1 hln.2;obtain ⟨n,hn,hn1,hn7,hv⟩:=yHT hf;obtain ⟨v,can,o,rs,p2,c2,z2,k2,N2,I2,f2,v6,vb,bo,ho⟩:=xTI (c:=c) (d:=d) (leaves:=true) (fw:=33) (fc:=[]) (wf:=zDZ) h1 hsh hs hn hn7 hv.toDays
  (fun z' hz D pw lw cw who hi hlw=>xSY hi (by omega)) (fun D a=>rfl) xDY (fun k hk=>rfl) rfl
 have hst:∀ k,k<w.L.length→st0 w m k=before (drQ w k):=fun k hk=>by unfold st0;rw [if_pos (by omega)]
 have br:=xVF hv hst bo;rw [zAJ] at k2;cases o with
 | none=>exact br.elim
 | some r =>
  obtain ⟨who,u⟩:=r;obtain ⟨hc,hvu,hmp⟩:can=true∧v=u∧(xB w n 0).map (zY rs)=who:=ho;subst hvu;obtain ⟨b1,b2⟩:=br;obtain ⟨r1,r2,r3,r4⟩:=b2 _ hmp;have hv0:v.getD 0 0=wX w (zY rs):=by rw [r3];rfl
  have M3:New z2 ((z2.row (zJ 0 0 0 0 0 0) 1).own z2.y (zJ (v.getD 0 0) (v.getD 1 0) (v.getD 2 0) (v.getD 3 0) (v.getD 4 0) (v.getD 5 0)) 1):=(New.row _ _ _).own (Nat.le_refl _);have nx:New z.re ((z2.row (zJ 0 0 0 0 0 0) 1).own z2.y (zJ (v.getD 0 0) (v.getD 1 0) (v.getD 2 0) (v.getD 3 0) (v.getD 4 0) (v.getD 5 0)) 1)∧xNZ w l (.tuple ⟨[.slice p2 l c2,iV (v.getD 0 0),iV 0]⟩) ((z2.row (zJ 0 0 0 0 0 0) 1).own z2.y (zJ (v.getD 0 0) (v.getD 1 0) (v.getD 2 0) (v.getD 3 0) (v.getD 4 0) (v.getD 5 0)) 1):=⟨(M1.trans N2).trans M3,.inr ⟨hf,rs,p2,c2,by rw [hv0],SlV.le I2 M3.le,⟨r1,r2,r4⟩⟩⟩;subst ht1;exact xSW k1 k2 nx hf
end
theorem xFD:AppT Pg 40 40 69 5:=zLR (by kernel_rfl)
theorem xFE:AppT Pg 41 41 61 6:=zLR (by kernel_rfl)
theorem xLY (x:Dty):zBT Pg 69 5 (uO x):=.inr ⟨zMO,uE,_,rfl,rfl⟩
theorem xLZ (p q r:Option Addr) (l c m d n e:Nat) (x y z:Int):zBT Pg 61 6 (.agg ⟨zM p l c q m d r n e x y z⟩):=.inr ⟨yFB,zES,_,rfl,rfl⟩
section
variable {σ:St} {w:Wk} {p q r t:Option Addr} {l m c d rl rc tl tc:Nat} {rs ts:List Int}
def yAO (τ:St) (S:Nat→Prop) (v:Value) (x:Drv):Prop:=∃ p l c q m d r n e,v=.agg ⟨zM p l c q m d r n e x.off x.row x.used⟩∧yF τ p l x.J∧yF τ q m x.qa∧yF τ r n x.qb∧∀ b,AtP p b∨AtP q b∨AtP r b→¬ S b
theorem yAO.v {τ:St} {S:Nat→Prop} {v:Value} {x:Drv} (h:yAO τ S v x):zUO τ v x:=by
 obtain ⟨p,l,c,q,m,d,r,n,e,h1,h2,h3,h4,_⟩:=h;exact ⟨p,l,c,q,m,d,r,n,e,h1,h2,h3,h4⟩
theorem yAO.only {τ τ':St} {S T:Nat→Prop} {v:Value} {x:Drv} (h:yAO τ S v x) (k:Only S τ τ') (hT:∀ b,b<τ.y→T b→S b):yAO τ' T v x:=by
 obtain ⟨p,l,c,q,m,d,r,n,e,h1,h2,h3,h4,h5⟩:=h;refine ⟨p,l,c,q,m,d,r,n,e,h1,k.slv' h2 (fun a e=>h5 _ (.inl ⟨a,e,rfl⟩)),k.slv' h3 (fun a e=>h5 _ (.inr (.inl ⟨a,e,rfl⟩))),k.slv' h4 (fun a e=>h5 _ (.inr (.inr ⟨a,e,rfl⟩))), ?_⟩
 intro b hb ht;have hlt:b<τ.y:=by
  rcases hb with ⟨a,e,rfl⟩ | ⟨a,e,rfl⟩ | ⟨a,e,rfl⟩
  ·exact xK h2 a e
  ·exact xK h3 a e
  ·exact xK h4 a e
 exact h5 b hb (hT b hlt ht)
theorem zSG (h:WkP σ 35 70 w p l q m) (hl:l≤1000) (hm:m≤1000) (hsh:uX w):∃ p' c' q' d' σ',zD Pg 12 [.agg ⟨wkc w.M p l c q m d w.rest w.run w.j⟩] σ (.agg ⟨wkc w.M p' l c' q' m d' w.rest w.run w.j⟩) σ'∧New σ σ'∧WkP σ' 69 61 w p' l q' m:=by
 have hl1:=h.len.1;have hl2:=h.len.2;obtain ⟨B,hB⟩:∃ B,B=σ.re.y:=⟨_,rfl⟩;obtain ⟨τ0,hτ0⟩:∃ τ0,τ0=((((σ.re.row (wkc w.M p l c q m d w.rest w.run w.j) 6).row (wkc 0 none 0 0 none 0 0 0 0 0) 6).row (wkc 0 none 0 0 none 0 0 0 0 0) 6).own (σ.re.y+2) (wkc w.M none 0 0 none 0 0 w.rest w.run w.j) 6):=⟨_,rfl⟩;have o1:Own τ0 B (wkc w.M p l c q m d w.rest w.run w.j) 6:=by rw [hτ0,hB];exact (zC σ.re _ _).row.row.own (by show σ.y≠σ.y+2;omega)
 have o2:Own τ0 (B+1) (wkc 0 none 0 0 none 0 0 0 0 0) 6:=by rw [hτ0,hB];exact (zC (σ.re.row (wkc w.M p l c q m d w.rest w.run w.j) 6) _ _).row.own (by show σ.y+1≠σ.y+2;omega)
 have o3:Own τ0 (B+2) (wkc w.M none 0 0 none 0 0 w.rest w.run w.j) 6:=by rw [hτ0,hB];exact (zC ((σ.re.row (wkc w.M p l c q m d w.rest w.run w.j) 6).row (wkc 0 none 0 0 none 0 0 0 0 0) 6) (wkc 0 none 0 0 none 0 0 0 0 0) 6).put
 have hN0:New σ.re τ0:=by rw [hτ0];exact ((New.row _ _ _).row'.row').own (by show σ.y≤σ.y+2;omega)
 have hn0:τ0.y=B+3:=by rw [hτ0,hB];rfl
 have key:zP Pg 12 [.agg ⟨wkc w.M p l c q m d w.rest w.run w.j⟩] σ.re fun v s=>New σ.re s∧∃ p' c' q' d',v=.agg ⟨wkc w.M p' l c' q' m d' w.rest w.run w.j⟩∧WkP s 69 61 w p' l q' m:=by
  refine xSU (P0:=fun τ=>New σ.re τ∧∃ ps cs,Own τ B (wkc w.M p l c q m d w.rest w.run w.j) 6∧Own τ (B+1) (wkc 0 none 0 0 none 0 0 0 0 0) 6∧Own τ (B+2) (wkc w.M ps l cs none 0 0 w.rest w.run w.j) 6∧SlV Pg τ 69 5 ps l (w.N.map uO)∧(∀ b,AtP ps b→B+3≤b∧b<τ.y)) ?_ ?_
  ·rw [← hτ0];have:=yWG (BA:=B) (BB:=B+1) (BC:=B+2) (Inv:=fun k i4 τ=>New σ.re τ∧∃ i:Nat,i4=i∧i+k=l∧∃ ps cs,Own τ B (wkc w.M p l c q m d w.rest w.run w.j) 6∧Own τ (B+1) (wkc 0 none 0 0 none 0 0 0 0 0) 6∧Own τ (B+2) (wkc w.M ps i cs none 0 0 w.rest w.run w.j) 6∧Gr Pg τ (B+3) 69 5 ps i cs ((w.N.take i).map uO)∧B+3≤τ.y)
    (Q0:=fun τ=>New σ.re τ∧∃ ps cs,Own τ B (wkc w.M p l c q m d w.rest w.run w.j) 6∧Own τ (B+1) (wkc 0 none 0 0 none 0 0 0 0 0) 6∧Own τ (B+2) (wkc w.M ps l cs none 0 0 w.rest w.run w.j) 6∧SlV Pg τ 69 5 ps l (w.N.map uO)∧(∀ b,AtP ps b→B+3≤b∧b<τ.y)) ?_ l 0 τ0
    ⟨hN0,0,rfl,by omega,none,0,o1,o2,o3,by simpa using Gr.nil,by omega⟩
   ·subst hB;exact this
   rintro k i4 τ ⟨hN,i,rfl,hk,ps,cs,w1,w2,w3,hg,hnx⟩;by_cases hi:i<l
   ·obtain ⟨a,rfl,x,hx,ld⟩:=vQ (SlV.le h.dty ((le0 σ).trans hN.le)) hi;have hcp:New τ ((τ.row (zF 0 0 0 0 0) 5).own τ.y (zF x.day x.on x.lo x.hi x.route) 5):=(New.row _ _ _).own (Nat.le_refl _);have k3:=(w3.row (ds:=zF 0 0 0 0 0) (m:=5)).own (ds:=zF x.day x.on x.lo x.hi x.route) (m:=5) (show B+2≠τ.y by have:=w3.lt;omega);obtain ⟨p4,c4,τ2,g1,g2,g3,g4⟩:=yMV (uO x) (τ:=(τ.row (zF 0 0 0 0 0) 5).own τ.y (zF x.day x.on x.lo x.hi x.route) 5) xFD hg hcp.le (xLY x) (by omega) hnx;have hS:∀ b,AtP ps b→B+3≤b:=fun b hb=>(hg.bd hb).1
    have hO:Only (AtP ps) τ τ2:=((hcp.row').only (S:=AtP ps)).trans g3 (fun _ _ x=>x) (by intro m' h1 h2 b h3 h4;have:=hg.bd h4;exact h2 b this.2 h4);have v1:=hO.own' w1 (fun x=>by have:=hS _ x;omega);have v2:=hO.own' w2 (fun x=>by have:=hS _ x;omega);have v3:=hO.own' w3 (fun x=>by have:=hS _ x;omega);have e5:∀ b,AtP p4 b→B+3≤b:=fun b hb=>(g2.bd hb).1
    have hN2:New σ.re (τ2.own (B+2) (wkc w.M p4 (i+1) c4 none 0 0 w.rest w.run w.j) 6):=(hN.of_only hO (fun b hb=>by have:=hS b hb;omega)).own (by omega);have hn2:τ.y≤τ2.y:=hO.y;refine xNO (w1.ld rfl vI (k:=1) rfl) ld (k3.ld rfl zBD (k:=1) rfl) g1 (v3.store (k:=1) (vs:=[.slice p4 (i+1) c4]) (ds:=wkc w.M p4 (i+1) c4 none 0 0 w.rest w.run w.j) rfl xUJ rfl (by simp) rfl)
     ⟨k-1,by omega,hN2,i+1,by omega,by omega,p4,c4,v1.own (by omega),v2.own (by omega),v3.put, ?_,by show B+3≤τ2.y;omega⟩ (by omega) (by omega) (by omega)
    rw [wU hx,List.map_append];exact g2.only (S:=(·=B+2)) (Only.own (.inr rfl)) (by rintro b hb rfl;have:=e5 _ hb;omega)
   ·have:i=l:=by omega
    subst this;rw [List.take_of_length_le (by omega)] at hg;exact xNN (w1.ld rfl vI (k:=1) rfl) ⟨hN,ps,cs,w1,w2,w3,hg.slv,fun b hb=>hg.bd hb⟩ (by omega)
  ·rintro τ1 ⟨hN1,ps,cs,x1,x2,x3,hs1,hsb⟩;have hz:σ.re.y=B:=hB.symm;rw [hz];refine yWE (P2:=fun τ=>New σ.re τ∧∃ qs ds,Own τ (B+1) (wkc 0 none 0 0 none 0 0 0 0 0) 6∧Own τ (B+2) (wkc w.M ps l cs qs m ds w.rest w.run w.j) 6∧SlV Pg τ 69 5 ps l (w.N.map uO)∧(∀ b,AtP ps b→B+3≤b)∧(∃ vs,SlV Pg τ 61 6 qs m vs∧∀ (i:Nat) (x:Drv),w.L[i]?=some x→∃ v,vs[i]?=some v∧yAO τ (·≤B+2) v x)∧(∀ b,AtP qs b→B+3≤b))
    (yWF (Inv:=fun k i6 τ=>New σ.re τ∧∃ i:Nat,i6=i∧i+k=m∧∃ qs ds vs,Own τ B (wkc w.M p l c q m d w.rest w.run w.j) 6∧Own τ (B+1) (wkc 0 none 0 0 none 0 0 0 0 0) 6∧Own τ (B+2) (wkc w.M ps l cs qs i ds w.rest w.run w.j) 6∧SlV Pg τ 69 5 ps l (w.N.map uO)∧(∀ b,AtP ps b→¬ AtP qs b∧b<τ.y) ∧
     Gr Pg τ (B+3) 61 6 qs i ds vs∧(∀ (j:Nat) (x:Drv),j<i→w.L[j]?=some x→∃ v,vs[j]?=some v∧yAO τ (fun b=>AtP qs b∨b≤B+2) v x)) ?_ m 0 τ1 ⟨hN1,0,rfl,by omega,none,0,[],x1,x2,x3,hs1,fun b hb=>⟨AtP.none,(hsb b hb).2⟩,Gr.nil,fun j x hj=>by omega⟩) ?_
   ·rintro k i6 τ ⟨hN,i,rfl,hk,qs,ds,vs,w1,w2,w3,hs,hd,hg,hrow⟩;have hnx:B+3≤τ.y:=w3.lt;have hvl:=hg.len_eq;by_cases hi:i<m
    ·obtain ⟨a,rfl,p',l',c',r',n',d',s',j',e',ld,hkn,hlv,hws,_⟩:=(h.le ((le0 σ).trans hN.le)).vld xNI zAI hi;have hx:w.L[i]?=some (drQ w i):=by
      unfold drQ;rw [List.getD_eq_getElem?_getD,List.getElem?_eq_getElem (by omega)];rfl
     obtain ⟨t1,ht1⟩:∃ t1,t1=(τ.row (zM none 0 0 none 0 0 none 0 0 0 0 0) 6).own τ.y (zM p' l' c' r' n' d' s' j' e' (drQ w i).off (drQ w i).row (drQ w i).used) 6:=⟨_,rfl⟩;have hcp:New τ t1:=by rw [ht1];exact (New.row _ _ _).own (Nat.le_refl _)
     have nx1:t1.y=τ.y+1:=by rw [ht1];rfl
     have oD:Own t1 τ.y (zM p' l' c' r' n' d' s' j' e' (drQ w i).off (drQ w i).row (drQ w i).used) 6:=by rw [ht1];exact (zC τ (zM none 0 0 none 0 0 none 0 0 0 0 0) 6).put
     have k3:=w3.le hcp.le;have hsx:=hsh _ (zLJ (by omega:i<w.L.length));have en1:=hkn.len;have en2:=hlv.len;have en3:=hws.len;obtain ⟨q1,d1,t2,c2,n2,i2,f2⟩:=yTF (c:=c') (SlV.le hkn hcp.le) (by omega);obtain ⟨q3,d3,t4,c4,n4,i4,f4⟩:=yTF (c:=d') (SlV.le (SlV.le hlv hcp.le) n2.le) (by omega);obtain ⟨q5,d5,t6,c6,n6,i6,f6⟩:=yTF (c:=e') (SlV.le (SlV.le (SlV.le hws hcp.le) n2.le) n4.le) (by omega);have n16:New τ t6:=((hcp.trans n2).trans n4).trans n6;have oD2:=oD.le n2.le;have oD4:=oD2.le n4.le;have oD6:=oD4.le n6.le;have k32:=k3.le n2.le;have k34:=k32.le n4.le;have k36:=k34.le n6.le;have J2:=SlV.le (SlV.le i2 n4.le) n6.le;have J4:=SlV.le i4 n6.le;obtain ⟨p8,c8,t8,g1,g2,g3,g4⟩:=yMV (.agg ⟨zM q1 l' d1 q3 n' d3 q5 j' d5 (drQ w i).off (drQ w i).row (drQ w i).used⟩) (τ:=t6) xFE hg n16.le (xLZ _ _ _ _ _ _ _ _ _ _ _ _) (by omega) hnx;have hS:∀ b,AtP qs b→B+3≤b:=fun b hb=>(hg.bd hb).1
     have hO:Only (AtP qs) τ t8:=((n16.row').only (S:=AtP qs)).trans g3 (fun _ _ x=>x) (by intro m' h1 h2 b h3 h4;have:=hg.bd h4;exact h2 b this.2 h4);have hOx:Only (fun b=>AtP qs b∨b≤B+2) τ t8:=hO.mono (fun _ _ x=>.inl x);have v1:=hO.own' w1 (fun x=>by have:=hS _ x;omega);have v2:=hO.own' w2 (fun x=>by have:=hS _ x;omega);have v3:=hO.own' w3 (fun x=>by have:=hS _ x;omega);have e5:∀ b,AtP p8 b→B+3≤b:=fun b hb=>(g2.bd hb).1
     obtain ⟨t9,ht9⟩:∃ t9,t9=t8.own (B+2) (wkc w.M ps l cs p8 (i+1) c8 w.rest w.run w.j) 6:=⟨_,rfl⟩;have k9:Only (·=B+2) t8 t9:=by rw [ht9];exact Only.own (.inr rfl)
     have hN9:New σ.re t9:=(hN.of_only hO (fun b hb=>by have:=hS b hb;omega)).of_only k9 (by rintro b rfl;omega);have n2x:=n2.nx;have n4x:=n4.nx;have n6x:=n6.nx;have hn8:=hO.y;have g3n:=g3.y;have g3n':t6.y+1≤t8.y:=g3n;have st:=v3.store (P:=Pg) (k:=2) (t:=41) (v:=.slice p8 (i+1) c8) (vs:=[.slice p8 (i+1) c8]) (ds:=wkc w.M ps l cs p8 (i+1) c8 w.rest w.run w.j) rfl xUI rfl (by simp) rfl;have bqs:∀ {n:Nat},τ.y≤n→yX RD n (.slice qs i ds)=true:=fun hn=>yH (fun a e=>by have:=(hg.bd ⟨a,e,rfl⟩).2;omega)
     have lk:∀ {z:St},Own z τ.y (zM p' l' c' r' n' d' s' j' e' (drQ w i).off (drQ w i).row (drQ w i).used) 6→zB Pg z 29 ⟨τ.y,1,none⟩=some (.slice r' n' d'):=fun o=>o.rw.ld yV rfl
     have lk2:∀ {z:St},Own z τ.y (zM p' l' c' r' n' d' s' j' e' (drQ w i).off (drQ w i).row (drQ w i).used) 6→zB Pg z 29 ⟨τ.y,2,none⟩=some (.slice s' j' e'):=fun o=>o.rw.ld yV rfl
     have lk3:∀ {z:St},Own z τ.y (zM p' l' c' r' n' d' s' j' e' (drQ w i).off (drQ w i).row (drQ w i).used) 6→zB Pg z 3 ⟨τ.y,3,none⟩=some (iV (drQ w i).off):=fun o=>o.rw.ld zS rfl
     have lk4:∀ {z:St},Own z τ.y (zM p' l' c' r' n' d' s' j' e' (drQ w i).off (drQ w i).row (drQ w i).used) 6→zB Pg z 3 ⟨τ.y,4,none⟩=some (iV (drQ w i).row):=fun o=>o.rw.ld zS rfl
     have lk5:∀ {z:St},Own z τ.y (zM p' l' c' r' n' d' s' j' e' (drQ w i).off (drQ w i).row (drQ w i).used) 6→zB Pg z 3 ⟨τ.y,5,none⟩=some (iV (drQ w i).used):=fun o=>o.rw.ld zS rfl
     have lw:∀ {z:St},Own z (B+2) (wkc w.M ps l cs qs i ds w.rest w.run w.j) 6→zB Pg z 41 ⟨B+2,2,none⟩=some (.slice qs i ds):=fun o=>o.rw.ld zAE rfl
     have hlv':∀ a,r'=some a→a.block<τ.y:=xK hlv;have hws':∀ a,s'=some a→a.block<τ.y:=xK hws;have fin:zVM B (B+1) (B+2) (i:Int) τ (fun i6' σ'=>∃ k',k' < k∧(New σ.re σ'∧∃ i:Nat,i6'=i∧i+k'=m∧∃ qs ds vs,Own σ' B (wkc w.M p l c (some a) m d w.rest w.run w.j) 6∧Own σ' (B+1) (wkc 0 none 0 0 none 0 0 0 0 0) 6∧Own σ' (B+2) (wkc w.M ps l cs qs i ds w.rest w.run w.j) 6∧SlV Pg σ' 69 5 ps l (w.N.map uO)∧(∀ b,AtP ps b→¬ AtP qs b∧b<σ'.y) ∧
     Gr Pg σ' (B+3) 61 6 qs i ds vs∧(∀ (j:Nat) (x:Drv),j<i→w.L[j]?=some x→∃ v,vs[j]?=some v∧yAO σ' (fun b=>AtP qs b∨b≤B+2) v x))) (fun τ=>New σ.re τ∧∃ qs ds,Own τ (B+1) (wkc 0 none 0 0 none 0 0 0 0 0) 6∧Own τ (B+2) (wkc w.M ps l cs qs m ds w.rest w.run w.j) 6∧SlV Pg τ 69 5 ps l (w.N.map uO)∧(∀ b,AtP ps b→B+3≤b)∧(∃ vs,SlV Pg τ 61 6 qs m vs∧∀ (i:Nat) (x:Drv),w.L[i]?=some x→∃ v,vs[i]?=some v∧yAO τ (·≤B+2) v x)∧(∀ b,AtP qs b→B+3≤b)):=by
      rw [ht1] at c2 oD;refine xNM (w1.ld rfl zGA (k:=2) rfl) ld (by rw [← ht1];exact lw k3) c2 (lk oD2) c4 (lk2 oD4) c6 (lk3 oD6) (lk4 oD6) (lk5 oD6) g1 st
       (zE (zO oD2.lt) zH) (zE (yH fun a e=>by have:=hlv' a e;omega) zH) (zE (zO oD4.lt) zH) (zE (yH fun a e=>by have:=hws' a e;omega) zH)
       (zE (zO oD6.lt) zH) (zE (zO oD6.lt) zH) (zE (zO oD6.lt) zH)
       (zE (yVV (xK J2) (xK J4) (xK i6)) zH)
       (zE (bqs (by show τ.y≤t6.y+1;omega)) (zE (zEF (by show t6.y<t6.y+1;omega)) zH))
       (zE (zO (by show B+2<t8.y;omega)) (zE (yH fun a e=>(g2.bd ⟨a,e,rfl⟩).2) zH))
       ⟨⟨k32.lt,rfl⟩,lw k32⟩ ⟨⟨k34.lt,rfl⟩,lw k34⟩ ⟨⟨k36.lt,rfl⟩,lw k36⟩ ⟨⟨(k36.row (ds:=zM q1 l' d1 q3 n' d3 q5 j' d5 (drQ w i).off (drQ w i).row (drQ w i).used) (m:=6)).lt,rfl⟩,lw k36.row⟩
       (lk oD) ⟨⟨oD2.lt,rfl⟩,lk oD2⟩ (lk2 oD) ⟨⟨oD2.lt,rfl⟩,lk2 oD2⟩ ⟨⟨oD4.lt,rfl⟩,lk2 oD4⟩
       (lk3 oD) ⟨⟨oD2.lt,rfl⟩,lk3 oD2⟩ ⟨⟨oD4.lt,rfl⟩,lk3 oD4⟩ ⟨⟨oD6.lt,rfl⟩,lk3 oD6⟩
       (lk4 oD) ⟨⟨oD2.lt,rfl⟩,lk4 oD2⟩ ⟨⟨oD4.lt,rfl⟩,lk4 oD4⟩ ⟨⟨oD6.lt,rfl⟩,lk4 oD6⟩
       (lk5 oD) ⟨⟨oD2.lt,rfl⟩,lk5 oD2⟩ ⟨⟨oD4.lt,rfl⟩,lk5 oD4⟩ ⟨⟨oD6.lt,rfl⟩,lk5 oD6⟩
       (xK hkn)
       ⟨k-1,by omega,by rw [← ht9];exact hN9,i+1,by omega,by omega,p8,c8,_, ?_, ?_, ?_, ?_, ?_,by rw [← ht9];exact g2.only k9 (by rintro b hb rfl;have:=e5 _ hb;omega), ?_⟩ (by omega) (by omega) (by omega) (by omega)
      ·exact v1.own (by omega)
      ·exact v2.own (by omega)
      ·exact v3.put
      ·refine (hO.slv' hs (fun a e hb=>(hd a.block ⟨a,e,rfl⟩).1 hb)).own (.inr fun a e hb=>?_);have:=(hsb a.block ⟨a,e,rfl⟩).1;omega
      ·intro b hb;refine ⟨fun h4=>?_,by have:=(hd b hb).2;show b<t8.y;omega⟩
       rcases g4 b h4 with h5 | h5
       ·exact (hd b hb).1 h5
       ·have:=(hd b hb).2;have:=n16.nx;omega
      ·intro j x hj hxj;rw [← ht9];have fromOld:∀ b,b<τ.y→(AtP p8 b∨b≤B+2)→(AtP qs b∨b≤B+2):=by
        rintro b hb (h4 | h4)
        ·rcases g4 b h4 with h5 | h5
         ·exact .inl h5
         ·have:=n16.nx;omega
        ·exact .inr h4
       have k9':Only (fun b=>AtP p8 b∨b≤B+2) t8 t9:=k9.mono (fun _ _ e=>.inr (by omega));by_cases hji:j<i
       ·obtain ⟨v,hv,hdo⟩:=hrow j x hji hxj;refine ⟨v,by rw [List.getElem?_append_left (by omega)];exact hv, ?_⟩
        have h8:yAO t8 (fun b=>AtP p8 b∨b≤B+2) v x:=hdo.only hOx fromOld;exact h8.only k9' (fun _ _ e=>e)
       ·have:j=i:=by omega
        subst this;rw [hx] at hxj;cases hxj
        refine ⟨_,by rw [List.getElem?_append_right (by omega),hvl,Nat.sub_self];rfl, ?_⟩
        have hnew:∀ b,τ.y≤b→b<t6.y→¬ (AtP p8 b∨b≤B+2):=by
         rintro b h1 h2 (h4 | h4)
         ·rcases g4 b h4 with h5 | h5
          ·have:=(hg.bd h5).2;omega
          ·omega
         ·omega
        have hqs:∀ b,τ.y≤b→¬ AtP qs b:=fun b h1 h5=>by have:=(hg.bd h5).2;omega
        have tr:Only (AtP qs) t6 t8:=(Only.row t6 _ 6:Only (AtP qs) t6 _).trans g3 (fun _ _ x=>x) (by intro m' h1 h2 b h3 h4;have:=hg.bd h4;exact h2 b (by have:=n16.nx;omega) h4);have b1:∀ b,AtP q1 b→τ.y≤b∧b<t6.y:=fun b hb=>⟨by have:=f2 b hb;omega,by obtain ⟨a,e,rfl⟩:=hb;exact xK J2 a e⟩
        have b3:∀ b,AtP q3 b→τ.y≤b∧b<t6.y:=fun b hb=>⟨by have:=f4 b hb;omega,by obtain ⟨a,e,rfl⟩:=hb;exact xK J4 a e⟩
        have b5:∀ b,AtP q5 b→τ.y≤b∧b<t6.y:=fun b hb=>⟨by have:=f6 b hb;omega,by obtain ⟨a,e,rfl⟩:=hb;exact xK i6 a e⟩
        have h8:yAO t8 (fun b=>AtP p8 b∨b≤B+2) (.agg ⟨zM q1 l' d1 q3 n' d3 q5 j' d5 (drQ w j).off (drQ w j).row (drQ w j).used⟩) (drQ w j):=by
         refine ⟨q1,l',d1,q3,n',d3,q5,j',d5,rfl,tr.slv' J2 (fun a e=>hqs _ (b1 _ ⟨a,e,rfl⟩).1),tr.slv' J4 (fun a e=>hqs _ (b3 _ ⟨a,e,rfl⟩).1),tr.slv' i6 (fun a e=>hqs _ (b5 _ ⟨a,e,rfl⟩).1), ?_⟩
         rintro b (hb | hb | hb)
         ·exact hnew b (b1 b hb).1 (b1 b hb).2
         ·exact hnew b (b3 b hb).1 (b3 b hb).2
         ·exact hnew b (b5 b hb).1 (b5 b hb).2
        exact h8.only k9' (fun _ _ e=>e)
     exact fin
    ·have:i=m:=by omega
     subst this;exact xNL (w1.ld rfl zGA (k:=2) rfl) ⟨hN,qs,ds,w2,w3,hs,fun b hb=>(hsb b hb).1,⟨vs,hg.slv,fun j x hx=>by
      obtain ⟨v,h1,h2⟩:=hrow j x (by have:=(List.getElem?_eq_some_iff.1 hx).1;omega) hx;exact ⟨v,h1,h2.only (Only.refl _ _) (fun b _ e=>.inr e)⟩⟩,fun b hb=>(hg.bd hb).1⟩ (by omega)
   ·rintro τ ⟨hN,qs,ds,w2,w3,hs,e1,⟨vs,hv,hrow⟩,e2⟩;have hlt3:=w3.lt;have k9:Only (fun b=>b=B+1) τ (τ.own (B+1) (wkc w.M ps l cs qs m ds w.rest w.run w.j) 6):=Only.own (.inr rfl);refine yWD (w3.ldN xS yW (k:=0) rfl rfl (by simp)) (w2.store (vs:=wkc w.M ps l cs qs m ds w.rest w.run w.j) (ds:=wkc w.M ps l cs qs m ds w.rest w.run w.j) rfl yW rfl (by simp) rfl) (w2.put.rw.ldN xS yW (k:=0) rfl rfl (by simp)) ⟨hN.own (by omega),ps,cs,qs,ds,rfl, ?_, ?_⟩
    ·exact hs.own (.inr fun a e hb=>by have:=e1 a.block ⟨a,e,rfl⟩;omega)
    ·refine ⟨vs,hv.own (.inr fun a e hb=>by have:=e2 a.block ⟨a,e,rfl⟩;omega),by omega,fun i x hx=>?_⟩
     obtain ⟨v,h1,h2⟩:=hrow i x hx;exact ⟨v,h1,(h2.only (k9.mono (T:=(·≤B+2)) (fun _ _ e=>by omega)) (fun _ _ e=>e)).v⟩
 obtain ⟨v,σ',h1,h2,p',c',q',d',rfl,h3⟩:=zP.new (Q:=fun v s=>∃ p' c' q' d',v=.agg ⟨wkc w.M p' l c' q' m d' w.rest w.run w.j⟩∧WkP s 69 61 w p' l q' m) key (by rintro v s s' ⟨p',c',q',d',rfl,g⟩ hle;exact ⟨p',c',q',d',rfl,g.le hle⟩) (by
  rintro v s hv ⟨p',c',q',d',rfl,g⟩;cases p' with
  | some a=>exact Bool.noConfusion (show false=true from hv)
  | none=>cases q' with
   | some a=>exact Bool.noConfusion (show false=true from hv)
   | none =>
    obtain ⟨vs,g1,g2,g3⟩:=g.drv;have hm0:m=0:=by
     have:=g1.1.2;have h2:=g1.1.1;by_cases e:m=0
     ·exact e
     ·obtain ⟨a,ea,_⟩:=g1.some (show 0<m by omega);cases ea
    refine ⟨none,c',none,d',rfl,zFE g.dty,vs,zFE g1,g2,fun i x hx=>?_⟩
    have:=(List.getElem?_eq_some_iff.1 hx).1;omega)
 exact ⟨p',c',q',d',σ',h1,h2,h3⟩
end
section
variable {σ:St} {w:Wk} {p q:Option Addr} {l m c d:Nat}
theorem xQS:zY (zBF w)=late w:=by
 funext i;unfold zY zBF late dty;rw [List.getD_eq_getElem?_getD,List.getD_eq_getElem?_getD,List.getElem?_map];cases w.N[i]? <;> rfl
theorem xJG (rs:List Int):(List.range rs.length).map (zY rs)=rs:=by
 apply List.ext_getElem (by simp);intro i h1 h2;simp [zY,h2]
theorem xME {rs:List Int} (hl:rs.length=w.N.length) (h:∀ y∈rs, -1≤y):(((rs.filter fun x=>decide (0≤x)).length:Nat):Int)=wX w (zY rs):=by
 have e:(rs.filter fun x=>decide (0≤x))=rs.filter fun x=>decide (x≠-1):=by
  apply List.filter_congr;intro x hx;have:=h x hx;by_cases g:x=-1
  ·subst g;rfl
  ·rw [decide_eq_true (by omega),decide_eq_true g]
 rw [e];unfold wX;rw [← hl];conv=>lhs;rw [← xJG rs,List.filter_map,List.length_map]
 rfl
theorem yXC {x:List Int} (hl:x.length=w.N.length):Ros w (zY x)↔∀ y∈x, -1≤y∧y<(w.L.length:Int):=by
 constructor
 ·intro h y hy;obtain ⟨i,hi,rfl⟩:=List.getElem_of_mem hy;have:=h.ros i (by omega);unfold zY at this;rw [List.getD_eq_getElem?_getD,List.getElem?_eq_getElem hi] at this;exact this
 ·intro h;refine ⟨fun i hi=>?_⟩
  unfold zY;rw [List.getD_eq_getElem?_getD,List.getElem?_eq_getElem (by omega:i<x.length)];exact h _ (List.getElem_mem _)
end
section
variable {σ z:St} {w:Wk} {p q r:Option Addr} {l m c d rl rc:Nat} {xs:List Int}
def zWV (w:Wk):Bool:=zIH w && decide (yM w=0)
def zYC (w:Wk):Bool:=zWV w && (decide (w.N.length≤8) && decide (w.L.length≤4))
theorem xPJ (h:WkP z 35 70 w p l q m):zD Try.prog 6 [.agg ⟨wkc w.M p l c q m d w.rest w.run w.j⟩] z (.bool (zWV w)) z:=by
 have L1:=(le0 z).trans (Le.row z.re (wkc w.M p l c q m d w.rest w.run w.j) 6);have k1:=xWM (c:=c) (d:=d) (h.le L1);unfold zWV;cases b0:zIH w with
 | false =>
  rw [b0] at k1;exact (xHD k1 ⟨rfl,Nat.le_refl _⟩).pure
 | true =>
 rw [b0] at k1;have k2:=xHH (c:=c) (d:=d) (h.le L1) (zWC b0).1;by_cases hf:yM w=0
 ·exact (xHF k1 k2 ⟨by rw [decide_eq_true hf];rfl,Nat.le_refl _⟩ hf).pure
 ·exact (xHE k1 k2 ⟨by rw [decide_eq_false hf];rfl,Nat.le_refl _⟩ hf).pure
theorem xQQ (h:WkP z 35 70 w p l q m):zD Try.prog 23 [.agg ⟨wkc w.M p l c q m d w.rest w.run w.j⟩] z (.bool (zYC w)) z:=by
 have hln:=h.len.1;have hm:=h.len.2;have L1:=(le0 z).trans (Le.row z.re (wkc w.M p l c q m d w.rest w.run w.j) 6);have k1:=xPJ (c:=c) (d:=d) (h.le L1);unfold zYC;cases b0:zWV w with
 | false =>
  rw [b0] at k1;exact (xJM k1 ⟨rfl,Nat.le_refl _⟩).pure
 | true =>
 rw [b0] at k1;by_cases g5:l≤8
 ·by_cases g3:m≤4
  ·exact (xJP k1 ⟨by simp [hln,hm,g5,g3],Nat.le_refl _⟩ (by omega) (by omega)).pure
  ·exact (xJO k1 ⟨by simp [hln,hm,g3],Nat.le_refl _⟩ (by omega) (by omega)).pure
 ·exact (xJN k1 ⟨by simp [hln,hm,g5],Nat.le_refl _⟩ (by omega)).pure
theorem yMC (h:zYC w=true):uX w∧yM w=0∧w.N.length≤8∧w.L.length≤4:=by
 unfold zYC zWV at h;rw [Bool.and_eq_true,Bool.and_eq_true,Bool.and_eq_true,decide_eq_true_iff,decide_eq_true_iff,decide_eq_true_iff] at h;exact ⟨(zWC h.1.1).1,h.1.2,h.2.1,h.2.2⟩
theorem yCE {eI:Int} (hf:yM w=0):zAY w xs eI=true↔(xs.length=w.N.length∧Ros w (zY xs))∧wC w (zY xs) (late w)∧eI≤wX w (zY xs):=by
 unfold zAY;rw [Bool.and_eq_true,Bool.and_eq_true,Bool.and_eq_true,decide_eq_true_iff,decide_eq_true_iff,decide_eq_true_iff,yDF,xQS,xCS];constructor
 ·rintro ⟨_,⟨h1,h2⟩,h3,h4⟩;have hr:Ros w (zY xs):=⟨fun i hi=>h2 i (by omega)⟩;refine ⟨⟨h1,hr⟩,h3, ?_⟩
  have e:((zZE xs:Nat):Int)=wX w (zY xs):=xME h1 fun y hy=>((yXC h1).1 hr y hy).1
  omega
 ·rintro ⟨⟨h1,h2⟩,h3,h4⟩;refine ⟨hf,⟨h1,fun i hi=>h2.ros i (by omega)⟩,h3, ?_⟩
  have e:((zZE xs:Nat):Int)=wX w (zY xs):=xME h1 fun y hy=>((yXC h1).1 h2 y hy).1
  omega
end
end Go.Proofs.Ytgfiniccfpfplaa
