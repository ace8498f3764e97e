
import Derived.Test.YtgfiniccfpfplaaGreatSJ
namespace Go.Proofs.YtgfiniccfpfplaaGreat
open Go Go.Lay
set_option linter.unusedVariables false
set_option linter.unusedSimpArgs false
set_option maxRecDepth 20000
section
variable {w:Wk} {leaves:Bool} {wf:Nat→List Int→List Int}
theorem zMG:∀ {l:List Nat} {who:List Int} {st st' u:Nat→Std},(∀ k,k<w.drivers.length→st k=st' k)→zCE w leaves l who st=some u→∃ u',zCE w leaves l who st'=some u'∧∀ k,k<w.drivers.length→u k=u' k
 | [],[],st,st',u,h,e=>by
  have e:some st=some u:=e
  cases e
  exact ⟨st',rfl,h⟩
 | [],_::_,_,_,_,_,e=>by cases e
 | _::_,[],_,_,_,_,e=>by cases e
 | i::l,r::who,st,st',u,h,e=>by
  unfold zCE at e ⊢
  split at e
  ·rename_i e1
   split at e
   ·rename_i hl
    rw [if_pos e1,if_pos hl]
    exact zMG h e
   ·cases e
  ·rename_i e1
   split at e
   ·rename_i g
    obtain ⟨g1,g2,g3⟩:=g
    have hk:r.toNat<w.drivers.length:=by omega
    rw [if_neg e1,if_pos ⟨g1,g2,by rw [← h _ hk];exact g3⟩]
    refine zMG (fun k hk2=>?_) e
    unfold zVE upd
    by_cases e2:k=r.toNat
    ·rw [if_pos e2,if_pos e2,h _ hk]
    ·rw [if_neg e2,if_neg e2];exact h k hk2
   ·cases e
theorem zYM:∀ {r D:Nat} {st st':Nat→Std} {c v:List Int},(∀ k,k<w.drivers.length→st k=st' k)→Ch w leaves wf r D st c v→Ch w leaves wf r D st' c v
 | 0,_,_,_,_,_,_,h=>h
 | r+1,D,st,st',c,v,hs,h=>by
  obtain ⟨a,b,u,x,h1,h2,h3,h4⟩:=h
  obtain ⟨u',g1,g2⟩:=zMG hs h1
  refine ⟨a,b,u',x,g1,zYM (fun k hk=>?_) h2,h3,h4⟩
  unfold zFA
  rw [if_pos hk,if_pos hk,g2 k hk]
theorem yGL {r D:Nat} {st st':Nat→Std} {o:Option (List Int × List Int)} (h:∀ k,k<w.drivers.length→st k=st' k) (hb:xY 6 (Ch w leaves wf r D st) o):xY 6 (Ch w leaves wf r D st') o :=
 hb.iff fun a v=>⟨zYM h,zYM fun k hk=>(h k hk).symm⟩
theorem Bd.plus {m n:Int}:∀ {a b:List Int},Bd m a→Bd n b→Bd (m+n) (zAI a b)
 | [],_,_,_=>fun x hx=>by simp [zAI] at hx
 | _::_,[],_,_=>fun x hx=>by simp [zAI] at hx
 | a::l,b::o,h1,h2=>by
  intro x hx
  have hx:x∈(a+b)::zAI l o:=hx
  rcases List.mem_cons.1 hx with rfl | hx
  ·have:=h1 a List.mem_cons_self
   have:=h2 b List.mem_cons_self
   omega
  ·exact Bd.plus (fun y hy=>h1 y (List.mem_cons_of_mem _ hy)) (fun y hy=>h2 y (List.mem_cons_of_mem _ hy)) x hx
theorem Bd.mono {m n:Int} {a:List Int} (h:Bd m a) (k:m≤n):Bd n a:=fun x hx=>by have:=h x hx;omega
theorem zFX {D j:Nat}:(yE w D j).length≤j:=by
 unfold yE
 have:=List.length_filter_le (fun i=>decide ((dty w i).day=(D:Int))) (List.range j)
 simpa using this
theorem Ch_bd (hw:∀ D a,a.length≤12→Bd 12 (wf D a)) (hl:w.duties.length≤12):∀ {r D:Nat} {st:Nat→Std} {c v:List Int},Ch w leaves wf r D st c v→Bd (12*(r:Int)) v
 | 0,_,_,_,_,h=>by
  rw [h.2]
  intro x hx
  simp [zFG] at hx
  omega
 | r+1,D,st,c,v,h=>by
  obtain ⟨a,b,u,x,h1,h2,h3,h4⟩:=h
  have:=(zFY h1).1
  have hd:=zFX (w:=w) (D:=D) (j:=w.duties.length)
  rw [h4]
  exact (Bd.plus (Ch_bd hw hl h2) (hw D a (by omega))).mono (by omega)
theorem yCH:∀ {r D:Nat},(xG w r D).length≤r*w.duties.length
 | 0,_=>by simp [xG]
 | r+1,D=>by
  have:=zFX (w:=w) (D:=D) (j:=w.duties.length)
  have:=yCH (r:=r) (D:=D+1)
  unfold xG
  rw [List.length_append,Nat.add_mul,Nat.one_mul];omega
structure StG (s:Std):Prop where
 free:-20000≤s.free∧s.free≤20000
 row:0≤s.row∧s.row≤15+s.day
 used:0≤s.used∧s.used≤20000
 day:-1≤s.day∧s.day≤6
theorem StG.ok {s:Std} (h:StG s):StOk s:=by
 have h1:=h.free;have h2:=h.row;have h3:=h.used;have h4:=h.day
 exact ⟨by omega,by omega,by omega,by omega⟩
theorem StG.past {s:Std} (h:StG s) {D:Nat} (hD:D≤6) (hr:0≤w.rest∧w.rest≤3000):StG (zQW w D s):=by
 have h1:=h.free;have h2:=h.row;have h3:=h.used;have h4:=h.day
 unfold zQW
 split
 ·exact h
 ·refine ⟨?_, ?_,h3,h4⟩
  ·simp only;omega
  ·simp only;omega
theorem StG.take {s:Std} (h:StG s) {d:Dty} (hd:0≤d.day∧d.day≤6) (ho:0≤d.on∧d.on≤1439) (he:d.on≤d.hi∧d.hi≤d.on+1440) (hu:(YtgfiniccfpfplaaGreat.take s d d.hi).used≤20000):StG (YtgfiniccfpfplaaGreat.take s d d.hi):=by
 have h1:=h.free;have h2:=h.row;have h3:=h.used;have h4:=h.day
 have hu':(YtgfiniccfpfplaaGreat.take s d d.hi).used=s.used+(d.hi-d.on):=by unfold YtgfiniccfpfplaaGreat.take;split <;> rfl
 rw [hu'] at hu
 unfold YtgfiniccfpfplaaGreat.take
 split
 ·exact ⟨h1,h2,by simp only;omega,h4⟩
 ·refine ⟨by simp only;omega, ?_,by simp only;omega,by simp only;omega⟩
  simp only
  split <;> omega
theorem StG.before {d:Drv} (ho:-10080≤d.off∧d.off≤1440) (hr:0≤d.row∧d.row≤14) (hu:0≤d.used∧d.used≤20000):StG (YtgfiniccfpfplaaGreat.before d) :=
 ⟨by unfold YtgfiniccfpfplaaGreat.before;simp only;omega,by unfold YtgfiniccfpfplaaGreat.before;simp only;omega,by unfold YtgfiniccfpfplaaGreat.before;simp only;omega,by unfold YtgfiniccfpfplaaGreat.before;simp only;omega⟩
end
structure EndR where
 v:List Int
 p:Option Addr
 l:Nat
 c:Nat
 can:Bool
@[reducible] def endC (a0 a1 a2 a3 a4 a5:Int) (p:Option Addr) (l c:Nat) (b:Bool):List Value:=[iV a0,iV a1,iV a2,iV a3,iV a4,iV a5,.slice p l c,.bool b]
@[reducible] def zGZ (e:EndR):List Value:=endC (e.v.getD 0 0) (e.v.getD 1 0) (e.v.getD 2 0) (e.v.getD 3 0) (e.v.getD 4 0) (e.v.getD 5 0) e.p e.l e.c e.can
def zFK (e:EndR):Value:=.agg ⟨zGZ e⟩
structure EndP (z:St) (X:Nat→Prop) (e:EndR) (o:Option (List Int × List Int)):Prop where
 len:e.v.length=6
 bd:Bd 100 e.v
 bl:∀ b,AtP e.p b→X b
 tell:match o with
  | none=>e.can=false
  | some (who,v)=>e.can=true∧e.v=v∧yG z e.p e.l who
theorem EndP.only {z z':St} {X:Nat→Prop} {S:Nat→Prop} {e:EndR} {o:Option (List Int × List Int)} (h:EndP z X e o) (k:Only S z z') (hX:∀ b,X b→¬ S b):EndP z' X e o:=by
 refine ⟨h.len,h.bd,h.bl, ?_⟩
 have ht:=h.tell
 cases o with
 | none=>exact ht
 | some p =>
  obtain ⟨who,v⟩:=p
  exact ⟨ht.1,ht.2.1,k.slv' ht.2.2 (fun a e=>hX _ (h.bl _ ⟨a,e,rfl⟩))⟩
theorem EndP.le {z z':St} {X:Nat→Prop} {e:EndR} {o:Option (List Int × List Int)} (h:EndP z X e o) (k:Le z z'):EndP z' X e o:=by
 refine ⟨h.len,h.bd,h.bl, ?_⟩
 have ht:=h.tell
 cases o with
 | none=>exact ht
 | some p =>
  obtain ⟨who,v⟩:=p
  exact ⟨ht.1,ht.2.1,SlV.le ht.2.2 k⟩
theorem EndP.mono {z:St} {X Y:Nat→Prop} {e:EndR} {o:Option (List Int × List Int)} (h:EndP z X e o) (k:∀ b,X b→Y b):EndP z Y e o:=⟨h.len,h.bd,fun b hb=>k b (h.bl b hb),h.tell⟩
structure PlK where
 σf:St
 Bp:Nat
 bm:Nat
 w:Wk
 p:Option Addr
 l:Nat
 c:Nat
 q:Option Addr
 m:Nat
 d:Nat
 leaves:Bool
 fw:FuncId
 fa:List Value
 fc:List Value
 wf:Nat→List Int→List Int
 n:Nat
abbrev PlK.wfv (K:PlK):Value:=.func (.func K.fw) ⟨K.fa⟩ ⟨K.fc⟩
abbrev PlK.row (K:PlK):List Value:=zTO K.w K.p K.l K.c K.q K.m K.d K.leaves K.wfv K.bm
structure PlK.Ok (K:PlK):Prop where
 wk:WkP K.σf 85 88 K.w K.p K.l K.q K.m
 sh:zKT K.w
 sn:Sane K.w K.l K.m
 dn:K.w.days=(K.n:Int)
 n7:K.n≤7
 vd:Days K.w K.n
 b1:K.σf.next≤K.bm
 b2:K.bm≠K.Bp
 wfc:∀ z,Le K.σf z→∀ (D:Nat) (pw:Option Addr) (lw cw:Nat) (who:List Int),yG z pw lw who→lw≤12→zE Tryz.prog K.fw (K.fa++(iV (D:Int)::.slice pw lw cw::K.fc)) z (.agg ⟨six (K.wf D who)⟩) z
 wfl:∀ D a,(K.wf D a).length=6
 wfb:∀ D a,a.length≤12→Bd 12 (K.wf D a)
 dl:K.w.duties.length≤12
 bel:∀ n,K.σf.next≤n→yU RD n K.wfv=true
 good:zK RD K.wfv=true
abbrev PlK.ch (K:PlK) (r D:Nat) (st:Nat→Std):zKV:=Ch K.w K.leaves K.wf r D st
structure PlW (K:PlK) (z:St) (F:Key→Option EndR) (X:Nat→Prop):Prop where
 fl:Le K.σf z
 pr:Row z ⟨K.Bp,0,none⟩ K.row
 mp:zIV Tryz.prog z K.bm yJZ zFK F
 xb:∀ b,X b→b<z.next∧b≠K.bm
 kn:∀ (D:Nat) st e,F (zLX D st)=some e→∀ r,D+r=K.n→∃ o,EndP z X e o∧xY 6 (K.ch r D st) o
section
variable {K:PlK} {z z':St} {F:Key→Option EndR} {X:Nat→Prop}
theorem PlW.le (h:PlW K z F X) (k:Le z z'):PlW K z' F X :=
 ⟨h.fl.trans k,h.pr.le k,h.mp.le k,fun b hb=>⟨Nat.lt_of_lt_of_le (h.xb b hb).1 k.next,(h.xb b hb).2⟩,fun D st e he r hr=>by
  obtain ⟨o,h1,h2⟩:=h.kn D st e he r hr
  exact ⟨o,h1.le k,h2⟩⟩
theorem PlW.only {S:Nat→Prop} (h:PlW K z F X) (k:Only S z z') (h0:∀ b,S b→K.σf.next≤b) (h1:¬ S K.Bp) (h2:¬ S K.bm) (h3:∀ b,X b→¬ S b):PlW K z' F X :=
 ⟨⟨Nat.le_trans h.fl.next k.next,fun b hb=>(k.get b (Nat.lt_of_lt_of_le hb h.fl.next) (fun e=>by have:=h0 b e;omega)).trans (h.fl.get b hb)⟩,k.rw' h.pr h1,h.mp.at_ (k.get _ h.mp.1 h2) k.next,fun b hb=>⟨Nat.lt_of_lt_of_le (h.xb b hb).1 k.next,(h.xb b hb).2⟩,fun D st e he r hr=>by
  obtain ⟨o,g1,g2⟩:=h.kn D st e he r hr
  exact ⟨o,g1.only k h3,g2⟩⟩
theorem PlW.mono {Y:Nat→Prop} (h:PlW K z F X) (k:∀ b,X b→Y b) (hy:∀ b,Y b→b<z.next∧b≠K.bm):PlW K z F Y :=
 ⟨h.fl,h.pr,h.mp,hy,fun D st e he r hr=>by
  obtain ⟨o,g1,g2⟩:=h.kn D st e he r hr
  exact ⟨o,g1.mono k,g2⟩⟩
theorem PlW.set (ok:K.Ok) (h:PlW K z F X) {D:Nat} {st:Nat→Std} {e:EndR} {r:Nat} {o:Option (List Int × List Int)} (hr:D+r=K.n) (he:EndP z X e o) (hb:xY 6 (K.ch r D st) o) :
  ∃ z',zS Tryz.prog (evL [.map (some K.bm),.agg ⟨iV (D:Int)::stL st⟩,zFK e]) z (.mapUpdate 126 (.tmp 0) (.tmp 1) (.tmp 2))=some (undef,z')∧Only (·=K.bm) z z'∧z'.low≤K.bm∧z'.low≤z.low∧PlW K z' (fun k=>if k=zLX D st then some e else F k) X:=by
 obtain ⟨es,e1,e2⟩:=h.mp.put zGP mapE (zLX D st) e
 rw [yFD] at e1
 have kk:Only (·=K.bm) z (z.put K.bm (.map es)):=Only.put (.inr rfl)
 have hm6:=ok.sn.m6
 have hm:=ok.wk.len.2
 refine ⟨_,e1,kk,by simp;omega,by simp;omega,⟨⟨Nat.le_trans h.fl.next kk.next,fun b hb=>(kk.get b (Nat.lt_of_lt_of_le hb h.fl.next) (by have:=ok.b1;show b≠K.bm;omega)).trans (h.fl.get b hb)⟩,kk.rw' h.pr (fun e=>ok.b2 e.symm),e2,fun b hb=>⟨Nat.lt_of_lt_of_le (h.xb b hb).1 kk.next,(h.xb b hb).2⟩,fun D' st' e' he' r' hr'=>?_⟩⟩
 have hXm:∀ b,X b→¬ b=K.bm:=fun b hb=>(h.xb b hb).2
 by_cases ek:zLX (D':Int) st'=zLX (D:Int) st
 ·rw [if_pos ek] at he'
  cases he'
  obtain ⟨k1,k2⟩:=keyOf_eq.1 ek
  have:D'=D:=by omega
  subst this
  have:r'=r:=by omega
  subst this
  exact ⟨o,he.only kk hXm,yGL (fun k hk=>(k2 k (by omega)).symm) hb⟩
 ·rw [if_neg ek] at he'
  obtain ⟨o',g1,g2⟩:=h.kn D' st' e' he' r' hr'
  exact ⟨o',g1.only kk hXm,g2⟩
end
theorem mut6 {σ:St} {f:FuncId} {args:List Value} {S:Nat→Prop} {Q:Value→St→Prop} (h:zQ Tryz.prog f args σ.re fun v s=>Only S σ.re s∧(s.low<σ.next∨zV RD v=false∨Q v σ)∧Q v s) (hQ:∀ v s m,m≤s.low→Q v s→Q v ⟨s.heap,s.next,m⟩):∃ v σ',zE Tryz.prog f args σ v σ'∧Only S σ σ'∧Q v σ':=by
 obtain ⟨v,s,hN,h1,h2,h3⟩:=h
 by_cases hr:zV RD v=true∧¬ s.low<σ.next
 ·rcases h2 with h2 | h2 | h2
  ·exact absurd h2 hr.2
  ·rw [hr.1] at h2;cases h2
  ·exact ⟨v,σ,zQ.pure ⟨v,s,hN,rfl,by omega⟩ hr.1,Only.refl _ _,h2⟩
 ·obtain ⟨N0,hN⟩:=hN
  refine ⟨v,⟨s.heap,s.next,min σ.low s.low⟩,⟨N0,fun N hl=>?_⟩,h1.lower (m:=0),hQ _ _ _ (Nat.min_le_right _ _) h3⟩
  unfold zBE
  rw [show (⟨σ.heap,σ.next,σ.next⟩:St)=σ.re from rfl,hN N hl]
  show zCF σ v s=_
  unfold zCF
  have e1:(Nat.ble σ.next s.low && zV RD v)=false:=by
   rw [Bool.and_eq_false_iff]
   by_cases hlow:s.low<σ.next
   ·left
    rw [Bool.eq_false_iff];intro e;have:=(zW _ _).1 e;omega
   ·right
    rw [← Bool.not_eq_true];exact fun e=>hr ⟨e,hlow⟩
  have e2:Nat.ble σ.next s.next=true:=(zW _ _).2 h1.next
  rw [e1,cond_false,e2,cond_true,vQ,zFC]
end Go.Proofs.YtgfiniccfpfplaaGreat
