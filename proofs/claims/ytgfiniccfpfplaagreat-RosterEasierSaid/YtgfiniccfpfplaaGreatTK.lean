import Derived.Test.YtgfiniccfpfplaaGreatXQ
import Derived.Test.YtgfiniccfpfplaaGreatRY
import Derived.Test.YtgfiniccfpfplaaGreatTy
import Derived.Test.YtgfiniccfpfplaaGreatLayD
import Derived.Test.YtgfiniccfpfplaaGreatRN
import Derived.Test.YtgfiniccfpfplaaGreatXE
import Derived.Test.YtgfiniccfpfplaaGreatPF
set_option linter.unusedVariables false
set_option linter.unusedSimpArgs false
set_option maxRecDepth 20000
namespace Go.Proofs.YtgfiniccfpfplaaGreat
open Go Go.Lay
open Tryz renaming prog -> Pg
section
variable {Z:St} {w:Wk} {p q pw:Option Addr} {l m c d D Bw lw cw:Nat} {who:List Int}
theorem xVI (hi:yG Z pw lw who) (hl:lw<=1073741824):zD Tryz.prog 65 [iV (D:Int),.slice pw lw cw] Z (.agg ⟨six (zED D who)⟩) Z:=by
 have L0:Le Z (Z.re.row (zK 0 0 0 0 0 0) 1):=(le0 Z).trans (Le.row _ _ _);have cc:=yPY (c:=cw) (SlV.le hi L0) hl;have e:six (zED D who)=zK (((who.filter fun x=>decide (x≠-1)).length:Nat):Int) 0 0 0 0 0:=by rw [zGO];rfl
 rw [e];exact (xQM cc ⟨rfl,((New.row Z.re (zK 0 0 0 0 0 0) 1).own (b:=Z.y) (n:=1) (by show Z.y<=Z.y;omega)).lw⟩).pure
end
section
variable {w:Wk} {leaves:Bool} {wf:Nat->List Int->List Int}
theorem zKE:∀ {l:List Nat} {who:List Int} {st st' u:Nat->Std},(∀ k,k<w.drivers.length->st k=st' k)->zAH w leaves l who st=some u->∃ u',zAH w leaves l who st'=some u'/\∀ k,k<w.drivers.length->u k=u' k
 | [],[],st,st',u,h,e=>by
  have e:some st=some u:=e;cases e
  exact ⟨st',rfl,h⟩
 | [],_::_,_,_,_,_,e=>by cases e
 | _::_,[],_,_,_,_,e=>by cases e
 | i::l,r::who,st,st',u,h,e=>by
  unfold zAH at e ⊢;split at e
  ·rename_i e1;split at e
   ·rename_i hl;rw [if_pos e1,if_pos hl];exact zKE h e
   ·cases e
  ·rename_i e1;split at e
   ·rename_i g;obtain ⟨g1,g2,g3⟩:=g;have hk:r.toNat<w.drivers.length:=by omega
    rw [if_neg e1,if_pos ⟨g1,g2,by rw [<- h _ hk];exact g3⟩];refine zKE (fun k hk2=>?_) e;unfold zXD upd;by_cases e2:k=r.toNat
    ·rw [if_pos e2,if_pos e2,h _ hk]
    ·rw [if_neg e2,if_neg e2];exact h k hk2
   ·cases e
theorem yBZ:∀ {r D:Nat} {st st':Nat->Std} {c v:List Int},(∀ k,k<w.drivers.length->st k=st' k)->Ch w leaves wf r D st c v->Ch w leaves wf r D st' c v
 | 0,_,_,_,_,_,_,h=>h
 | r+1,D,st,st',c,v,hs,h=>by
  obtain ⟨a,b,u,x,h1,h2,h3,h4⟩:=h;obtain ⟨u',g1,g2⟩:=zKE hs h1;refine ⟨a,b,u',x,g1,yBZ (fun k hk=>?_) h2,h3,h4⟩
  unfold zCG;rw [if_pos hk,if_pos hk,g2 k hk]
theorem yKV {r D:Nat} {st st':Nat->Std} {o:Option (List Int × List Int)} (h:∀ k,k<w.drivers.length->st k=st' k) (hb:xU 6 (Ch w leaves wf r D st) o):xU 6 (Ch w leaves wf r D st') o :=
 hb.iff fun a v=>⟨yBZ h,yBZ fun k hk=>(h k hk).symm⟩
theorem Bd.plus {m n:Int}:∀ {a b:List Int},Bd m a->Bd n b->Bd (m+n) (uB a b)
 | [],_,_,_=>fun x hx=>by simp [uB] at hx
 | _::_,[],_,_=>fun x hx=>by simp [uB] at hx
 | a::l,b::o,h1,h2=>by
  intro x hx;have hx:x∈(a+b)::uB l o:=hx;rcases List.mem_cons.1 hx with rfl | hx
  ·have:=h1 a List.mem_cons_self;have:=h2 b List.mem_cons_self;omega
  ·exact Bd.plus (fun y hy=>h1 y (List.mem_cons_of_mem _ hy)) (fun y hy=>h2 y (List.mem_cons_of_mem _ hy)) x hx
theorem Bd.mono {m n:Int} {a:List Int} (h:Bd m a) (k:m<=n):Bd n a:=fun x hx=>by have:=h x hx;omega
theorem zDG {D j:Nat}:(yF w D j).length<=j:=by
 unfold yF;have:=List.length_filter_le (fun i=>decide ((dtQ w i).day=(D:Int))) (List.range j);simpa using this
theorem xWB (hw:∀ D a,a.length<=12->Bd 12 (wf D a)) (hl:w.duties.length<=12):∀ {r D:Nat} {st:Nat->Std} {c v:List Int},Ch w leaves wf r D st c v->Bd (12*(r:Int)) v
 | 0,_,_,_,_,h=>by
  rw [h.2];intro x hx;simp [zDK] at hx;omega
 | r+1,D,st,c,v,h=>by
  obtain ⟨a,b,u,x,h1,h2,h3,h4⟩:=h;have:=(zDH h1).1;have hd:=zDG (w:=w) (D:=D) (j:=w.duties.length);rw [h4];exact (Bd.plus (xWB hw hl h2) (hw D a (by omega))).mono (by omega)
theorem yFY:∀ {r D:Nat},(xE w r D).length<=r*w.duties.length
 | 0,_=>by simp [xE]
 | r+1,D=>by
  have:=zDG (w:=w) (D:=D) (j:=w.duties.length);have:=yFY (r:=r) (D:=D+1);unfold xE;rw [List.length_append,Nat.add_mul,Nat.one_mul];omega
structure StG (s:Std):Prop where
 free:-20000<=s.free/\s.free<=20000
 row:0<=s.row/\s.row<=15+s.day
 used:0<=s.used/\s.used<=20000
 day:-1<=s.day/\s.day<=6
theorem StG.ok {s:Std} (h:StG s):StOk s:=by
 have h1:=h.free;have h2:=h.row;have h3:=h.used;have h4:=h.day;exact ⟨by omega,by omega,by omega,by omega⟩
theorem StG.past {s:Std} (h:StG s) {D:Nat} (hD:D<=6) (hr:0<=w.rest/\w.rest<=3000):StG (zPK w D s):=by
 have h1:=h.free;have h2:=h.row;have h3:=h.used;have h4:=h.day;unfold zPK;split
 ·exact h
 ·refine ⟨?_, ?_,h3,h4⟩
  ·simp only;omega
  ·simp only;omega
theorem StG.take {s:Std} (h:StG s) {d:Dty} (hd:0<=d.day/\d.day<=6) (ho:0<=d.on/\d.on<=1439) (he:d.on<=d.hi/\d.hi<=d.on+1440) (hu:(YtgfiniccfpfplaaGreat.take s d d.hi).used<=20000):StG (YtgfiniccfpfplaaGreat.take s d d.hi):=by
 have h1:=h.free;have h2:=h.row;have h3:=h.used;have h4:=h.day;have hu':(YtgfiniccfpfplaaGreat.take s d d.hi).used=s.used+(d.hi-d.on):=by unfold YtgfiniccfpfplaaGreat.take;split <;> rfl
 rw [hu'] at hu;unfold YtgfiniccfpfplaaGreat.take;split
 ·exact ⟨h1,h2,by simp only;omega,h4⟩
 ·refine ⟨by simp only;omega, ?_,by simp only;omega,by simp only;omega⟩
  simp only;split <;> omega
theorem StG.before {d:Drv} (ho:-10080<=d.off/\d.off<=1440) (hr:0<=d.row/\d.row<=14) (hu:0<=d.used/\d.used<=20000):StG (YtgfiniccfpfplaaGreat.before d) :=
 ⟨by unfold YtgfiniccfpfplaaGreat.before;simp only;omega,by unfold YtgfiniccfpfplaaGreat.before;simp only;omega,by unfold YtgfiniccfpfplaaGreat.before;simp only;omega,by unfold YtgfiniccfpfplaaGreat.before;simp only;omega⟩
end
structure EndR where
 v:List Int
 p:Option Addr
 l:Nat
 c:Nat
 can:Bool
@[reducible] def xTS (a0 a1 a2 a3 a4 a5:Int) (p:Option Addr) (l c:Nat) (b:Bool):List Value:=[iV a0,iV a1,iV a2,iV a3,iV a4,iV a5,.slice p l c,.bool b]
@[reducible] def zEM (e:EndR):List Value:=xTS (e.v.getD 0 0) (e.v.getD 1 0) (e.v.getD 2 0) (e.v.getD 3 0) (e.v.getD 4 0) (e.v.getD 5 0) e.p e.l e.c e.can
def zDB (e:EndR):Value:=.agg ⟨zEM e⟩
structure EndP (z:St) (X:Nat->Prop) (e:EndR) (o:Option (List Int × List Int)):Prop where
 len:e.v.length=6
 bd:Bd 100 e.v
 bl:∀ b,AtP e.p b->X b
 tell:match o with
  | none=>e.can=false
  | some (who,v)=>e.can=true/\e.v=v/\yG z e.p e.l who
theorem EndP.only {z z':St} {X:Nat->Prop} {S:Nat->Prop} {e:EndR} {o:Option (List Int × List Int)} (h:EndP z X e o) (k:Only S z z') (hX:∀ b,X b->¬ S b):EndP z' X e o:=by
 refine ⟨h.len,h.bd,h.bl, ?_⟩
 have ht:=h.tell;cases o with
 | none=>exact ht
 | some p =>
  obtain ⟨who,v⟩:=p;exact ⟨ht.1,ht.2.1,k.slv' ht.2.2 (fun a e=>hX _ (h.bl _ ⟨a,e,rfl⟩))⟩
theorem EndP.le {z z':St} {X:Nat->Prop} {e:EndR} {o:Option (List Int × List Int)} (h:EndP z X e o) (k:Le z z'):EndP z' X e o:=by
 refine ⟨h.len,h.bd,h.bl, ?_⟩
 have ht:=h.tell;cases o with
 | none=>exact ht
 | some p =>
  obtain ⟨who,v⟩:=p;exact ⟨ht.1,ht.2.1,SlV.le ht.2.2 k⟩
theorem EndP.mono {z:St} {X Y:Nat->Prop} {e:EndR} {o:Option (List Int × List Int)} (h:EndP z X e o) (k:∀ b,X b->Y b):EndP z Y e o:=⟨h.len,h.bd,fun b hb=>k b (h.bl b hb),h.tell⟩
structure PlK where
 Zf:St
 Bp:Nat
 bm:Nat
 w:Wk
 p:Option Addr
 l:Nat
 c:Nat
 q:Option Addr
 m:Nat
 d:Nat
 leaves:Bool
 fw:FuncId
 fa:List Value
 fc:List Value
 wf:Nat->List Int->List Int
 n:Nat
abbrev PlK.wfv (K:PlK):Value:=.func (.func K.fw) ⟨K.fa⟩ ⟨K.fc⟩
abbrev PlK.row (K:PlK):List Value:=zUH K.w K.p K.l K.c K.q K.m K.d K.leaves K.wfv K.bm
structure PlK.Ok (K:PlK):Prop where
 wk:WkP K.Zf 85 88 K.w K.p K.l K.q K.m
 sh:zBC K.w
 sn:Sane K.w K.l K.m
 dn:K.w.days=(K.n:Int)
 n7:K.n<=7
 vd:Days K.w K.n
 b1:K.Zf.y<=K.bm
 b2:K.bm≠K.Bp
 wfc:∀ z,Le K.Zf z->∀ (D:Nat) (pw:Option Addr) (lw cw:Nat) (who:List Int),yG z pw lw who->lw<=12->zD Tryz.prog K.fw (K.fa++(iV (D:Int)::.slice pw lw cw::K.fc)) z (.agg ⟨six (K.wf D who)⟩) z
 wfl:∀ D a,(K.wf D a).length=6
 wfb:∀ D a,a.length<=12->Bd 12 (K.wf D a)
 dl:K.w.duties.length<=12
 bel:∀ n,K.Zf.y<=n->yX RD n K.wfv=true
 good:zM RD K.wfv=true
abbrev PlK.ch (K:PlK) (r D:Nat) (st:Nat->Std):zIJ:=Ch K.w K.leaves K.wf r D st
structure PlW (K:PlK) (z:St) (F:Key->Option EndR) (X:Nat->Prop):Prop where
 fl:Le K.Zf z
 pr:Row z ⟨K.Bp,0,none⟩ K.row
 mp:zGE Tryz.prog z K.bm yON zDB F
 xb:∀ b,X b->b<z.y/\b≠K.bm
 kn:∀ (D:Nat) st e,F (zJV D st)=some e->∀ r,D+r=K.n->∃ o,EndP z X e o/\xU 6 (K.ch r D st) o
section
variable {K:PlK} {z z':St} {F:Key->Option EndR} {X:Nat->Prop}
theorem PlW.le (h:PlW K z F X) (k:Le z z'):PlW K z' F X :=
 ⟨h.fl.trans k,h.pr.le k,h.mp.le k,fun b hb=>⟨Nat.lt_of_lt_of_le (h.xb b hb).1 k.y,(h.xb b hb).2⟩,fun D st e he r hr=>by
  obtain ⟨o,h1,h2⟩:=h.kn D st e he r hr;exact ⟨o,h1.le k,h2⟩⟩
theorem PlW.only {S:Nat->Prop} (h:PlW K z F X) (k:Only S z z') (h0:∀ b,S b->K.Zf.y<=b) (h1:¬ S K.Bp) (h2:¬ S K.bm) (h3:∀ b,X b->¬ S b):PlW K z' F X :=
 ⟨⟨Nat.le_trans h.fl.y k.y,fun b hb=>(k.get b (Nat.lt_of_lt_of_le hb h.fl.y) (fun e=>by have:=h0 b e;omega)).trans (h.fl.get b hb)⟩,k.rw' h.pr h1,h.mp.at_ (k.get _ h.mp.1 h2) k.y,fun b hb=>⟨Nat.lt_of_lt_of_le (h.xb b hb).1 k.y,(h.xb b hb).2⟩,fun D st e he r hr=>by
  obtain ⟨o,g1,g2⟩:=h.kn D st e he r hr;exact ⟨o,g1.only k h3,g2⟩⟩
theorem PlW.mono {Y:Nat->Prop} (h:PlW K z F X) (k:∀ b,X b->Y b) (hy:∀ b,Y b->b<z.y/\b≠K.bm):PlW K z F Y :=
 ⟨h.fl,h.pr,h.mp,hy,fun D st e he r hr=>by
  obtain ⟨o,g1,g2⟩:=h.kn D st e he r hr;exact ⟨o,g1.mono k,g2⟩⟩
theorem PlW.set (ok:K.Ok) (h:PlW K z F X) {D:Nat} {st:Nat->Std} {e:EndR} {r:Nat} {o:Option (List Int × List Int)} (hr:D+r=K.n) (he:EndP z X e o) (hb:xU 6 (K.ch r D st) o) :
  ∃ z',zQ Tryz.prog (evL [.map (some K.bm),.agg ⟨iV (D:Int)::stL st⟩,zDB e]) z (.mapUpdate 126 (.tmp 0) (.tmp 1) (.tmp 2))=some (undef,z')/\Only (·=K.bm) z z'/\z'.low<=K.bm/\z'.low<=z.low/\PlW K z' (fun k=>if k=zJV D st then some e else F k) X:=by
 obtain ⟨es,e1,e2⟩:=h.mp.put zDY xLW (zJV D st) e;rw [yIW] at e1;have kk:Only (·=K.bm) z (z.put K.bm (.map es)):=Only.put (.inr rfl);have hm6:=ok.sn.m6;have hm:=ok.wk.len.2;refine ⟨_,e1,kk,by simp;omega,by simp;omega,⟨⟨Nat.le_trans h.fl.y kk.y,fun b hb=>(kk.get b (Nat.lt_of_lt_of_le hb h.fl.y) (by have:=ok.b1;show b≠K.bm;omega)).trans (h.fl.get b hb)⟩,kk.rw' h.pr (fun e=>ok.b2 e.symm),e2,fun b hb=>⟨Nat.lt_of_lt_of_le (h.xb b hb).1 kk.y,(h.xb b hb).2⟩,fun D' st' e' he' r' hr'=>?_⟩⟩
 have hXm:∀ b,X b->¬ b=K.bm:=fun b hb=>(h.xb b hb).2
 by_cases ek:zJV (D':Int) st'=zJV (D:Int) st
 ·rw [if_pos ek] at he';cases he'
  obtain ⟨k1,k2⟩:=xMK.1 ek;have:D'=D:=by omega
  subst this;have:r'=r:=by omega
  subst this;exact ⟨o,he.only kk hXm,yKV (fun k hk=>(k2 k (by omega)).symm) hb⟩
 ·rw [if_neg ek] at he';obtain ⟨o',g1,g2⟩:=h.kn D' st' e' he' r' hr';exact ⟨o',g1.only kk hXm,g2⟩
end
theorem xXK {Z:St} {f:FuncId} {args:List Value} {S:Nat->Prop} {Q:Value->St->Prop} (h:zP Tryz.prog f args Z.re fun v s=>Only S Z.re s/\(s.low<Z.y\/zW RD v=false\/Q v Z)/\Q v s) (hQ:∀ v s m,m<=s.low->Q v s->Q v ⟨s.heap,s.y,m⟩):∃ v Z',zD Tryz.prog f args Z v Z'/\Only S Z Z'/\Q v Z':=by
 obtain ⟨v,s,hN,h1,h2,h3⟩:=h;by_cases hr:zW RD v=true/\¬ s.low<Z.y
 ·rcases h2 with h2 | h2 | h2
  ·exact absurd h2 hr.2
  ·rw [hr.1] at h2;cases h2
  ·exact ⟨v,Z,zP.pure ⟨v,s,hN,rfl,by omega⟩ hr.1,Only.refl _ _,h2⟩
 ·obtain ⟨N0,hN⟩:=hN;refine ⟨v,⟨s.heap,s.y,min Z.low s.low⟩,⟨N0,fun N hl=>?_⟩,h1.lower (m:=0),hQ _ _ _ (Nat.min_le_right _ _) h3⟩
  unfold uG;rw [show (⟨Z.heap,Z.y,Z.y⟩:St)=Z.re from rfl,hN N hl];show uH Z v s=_;unfold uH;have e1:(Nat.ble Z.y s.low && zW RD v)=false:=by
   rw [Bool.and_eq_false_iff];by_cases hlow:s.low<Z.y
   ·left;rw [Bool.eq_false_iff];intro e;have:=(zV _ _).1 e;omega
   ·right;rw [<- Bool.not_eq_true];exact fun e=>hr ⟨e,hlow⟩
  have e2:Nat.ble Z.y s.y=true:=(zV _ _).2 h1.y;rw [e1,cond_false,e2,cond_true,wI,zAI]
section
noncomputable section
variable (who:oAa) (bk bJ:Nat) (v0 v4 v5:Addr) (BA l9:Nat) (Q:Int->St->Prop) (bU:Int) (q0:St->Prop) (Z:St) (q2:vPa) (Nx:Int->St->Prop) (Q0:St->Prop)
def yQZ:Code:=(Code.part [1,0,1,1,1,1,0,0] (qj 100))
def zEG:lNa:=[(0,.slice who bk bJ),(2,pz v0),(6,pz v4),(7,pz v5),(9,pq BA 0),(78,iV (l9:Int)),(79,iV bU)]
def xHM:Alt:=⟨Int,.normal,fun t=>zEG who bk bJ v0 v4 v5 BA l9 t,fun t=>[],fun t Z=>Q t Z⟩
def yBI (who:oAa) (bk bJ:Nat) (v0 v4 v5:Addr) (BA l9:Nat):lNa:=[]
def zHT:Alt:=⟨Unit,(.exit 0),fun t=>yBI who bk bJ v0 v4 v5 BA l9,fun t=>[],fun t Z=>q0 Z⟩
def zQY:Prop:=qk ql none yQZ 110 (zEG who bk bJ v0 v4 v5 BA l9 bU) [] [xHM who bk bJ v0 v4 v5 BA l9 Nx,zHT who bk bJ v0 v4 v5 BA l9 Q0] Z
def zQX:Prop:=qm ql none yQZ 110 (zEG who bk bJ v0 v4 v5 BA l9 bU) [] [zHT who bk bJ v0 v4 v5 BA l9 Q0] Z
def zHU:Prop:=kZ ql (qj 100) [1,0,1,1,1,1,0] (qn 100 q2) (.exit 0) 110 (yBI who bk bJ v0 v4 v5 BA l9) Z
end
variable {who q1 q11 q39 q40 q32 q33 qIB q6 q9 q4:oAa} {bk bJ l1 c1 l11 c11 l39 c39 l40 c40 l32 c32 l33 c33 BA l9 lG cG lMB cJB l6 c6 c9 l4 c4:Nat} {now fJ fH:Nat->Std} {v0 v1 v2 v3 v4 v5 a2 a14 fp a8:Addr} {n3 n5 n6 n7 n8 n9 n10 n16 n17 n18 n19 n20 n21 n22 n24 n25 n26 n27 n28 n29 n32 n33 n34 n35 n36 n37 bU nF nG nE nI nM nR nS nT nY:Int} {b12:Bool} {Z13 Z23 Z41 Z42 Z Z34 Z35 ZA ZBB ZJ ZW ZBI Z5 Z7:St} {f15 fE fF:FuncId} {dJ dK f9 gi fF_c fF_a f4_c f4_a:lVa} {Q:vPa} {Inv:Nat->Int->St->Prop} {Q0 P0:St->Prop} {Nx:Int->St->Prop}
@[reducible] def Ha9 (Z Z13 Z23:St) (now f4:Nat->Std) (v0 v1 a2 v2 a14:Addr) (q1 q11 who:oAa) (l1 c1 l11 c11 bk bJ:Nat) (n3 n5 n6 n7 n8 n9 n10 n16 n17 n18 n19 n20 n21 n22 n24 n25 n26 n27 n28 n29:Int) (b12:Bool) (f15:FuncId) (dK dJ:lVa):Prop:=qp (Z.row (stL now) 4) 26 v0=some (.slice q1 l1 c1)/\qp (Z.row (stL now) 4) 125 v1=some (.pointer (some a2))/\qp (Z.row (stL now) 4) 3 v2=some (iV n3)/\qp (Z.row (stL now) 4) 109 ⟨Z.y,0,none⟩=some (.agg ⟨(stL now)⟩)/\(qo 101 [.pointer (some a2),iV n3,.agg ⟨(stL now)⟩] (Z.row (stL now) 4) (.agg ⟨(stL f4)⟩) (Z.row (stL now) 4))/\(qo 84 [.pointer (some a2),.agg ⟨(iV (n3+1)::(stL f4))⟩] (Z.row (stL now) 4) (.agg ⟨[iV n5,iV n6,iV n7,iV n8,iV n9,iV n10,.slice q11 l11 c11,.bool b12]⟩) Z13)/\(zH (Z.row (stL now) 4).y [.pointer (some a2),iV n3,.agg ⟨(stL now)⟩])/\(zH (Z.row (stL now) 4).y [.pointer (some a2),.agg ⟨(iV (n3+1)::(stL f4))⟩])/\(zH (Z13.row [iV 0,iV 0,iV 0,iV 0,iV 0,iV 0,.slice none 0 0,.bool false] 8).y [.pointer (some ⟨Z13.y,0,none⟩),.agg ⟨[iV n5,iV n6,iV n7,iV n8,iV n9,iV n10,.slice q11 l11 c11,.bool b12]⟩])/\((zLq Z13 125 v1 (.pointer (some a2))))/\((zLq (Z13.row [iV 0,iV 0,iV 0,iV 0,iV 0,iV 0,.slice none 0 0,.bool false] 8) 125 v1 (.pointer (some a2))))/\((zLq Z13 3 v2 (iV n3)))/\((zLq (Z13.row [iV 0,iV 0,iV 0,iV 0,iV 0,iV 0,.slice none 0 0,.bool false] 8) 3 v2 (iV n3)))/\((zLq Z13 109 ⟨Z.y,0,none⟩ (.agg ⟨(stL now)⟩)))/\((zLq (Z13.row [iV 0,iV 0,iV 0,iV 0,iV 0,iV 0,.slice none 0 0,.bool false] 8) 109 ⟨Z.y,0,none⟩ (.agg ⟨(stL now)⟩)))/\qp ((Z13.row [iV 0,iV 0,iV 0,iV 0,iV 0,iV 0,.slice none 0 0,.bool false] 8).own Z13.y [iV n5,iV n6,iV n7,iV n8,iV n9,iV n10,.slice q11 l11 c11,.bool b12] 8) 125 v1=some (.pointer (some a14))/\qp ((Z13.row [iV 0,iV 0,iV 0,iV 0,iV 0,iV 0,.slice none 0 0,.bool false] 8).own Z13.y [iV n5,iV n6,iV n7,iV n8,iV n9,iV n10,.slice q11 l11 c11,.bool b12] 8) 99 (zJ a14 7)=some (.func (.func f15) ⟨dK⟩ ⟨dJ⟩)/\qp ((Z13.row [iV 0,iV 0,iV 0,iV 0,iV 0,iV 0,.slice none 0 0,.bool false] 8).own Z13.y [iV n5,iV n6,iV n7,iV n8,iV n9,iV n10,.slice q11 l11 c11,.bool b12] 8) 3 v2=some (iV n16)/\qo f15 (dK ++ (iV n16::.slice who bk bJ::dJ)) ((Z13.row [iV 0,iV 0,iV 0,iV 0,iV 0,iV 0,.slice none 0 0,.bool false] 8).own Z13.y [iV n5,iV n6,iV n7,iV n8,iV n9,iV n10,.slice q11 l11 c11,.bool b12] 8) (.agg ⟨zK n17 n18 n19 n20 n21 n22⟩) Z23/\(qo 102 [.agg ⟨zK n5 n6 n7 n8 n9 n10⟩,.agg ⟨zK n17 n18 n19 n20 n21 n22⟩] Z23 (.agg ⟨zK n24 n25 n26 n27 n28 n29⟩) Z23)/\zH ((Z13.row [iV 0,iV 0,iV 0,iV 0,iV 0,iV 0,.slice none 0 0,.bool false] 8).own Z13.y [iV n5,iV n6,iV n7,iV n8,iV n9,iV n10,.slice q11 l11 c11,.bool b12] 8).y [.pointer (some ⟨Z13.y,0,none⟩)]/\zH ((Z13.row [iV 0,iV 0,iV 0,iV 0,iV 0,iV 0,.slice none 0 0,.bool false] 8).own Z13.y [iV n5,iV n6,iV n7,iV n8,iV n9,iV n10,.slice q11 l11 c11,.bool b12] 8).y [.pointer (some v1)]/\zH ((Z13.row [iV 0,iV 0,iV 0,iV 0,iV 0,iV 0,.slice none 0 0,.bool false] 8).own Z13.y [iV n5,iV n6,iV n7,iV n8,iV n9,iV n10,.slice q11 l11 c11,.bool b12] 8).y [.pointer (some (zJ a14 7))]/\zH ((Z13.row [iV 0,iV 0,iV 0,iV 0,iV 0,iV 0,.slice none 0 0,.bool false] 8).own Z13.y [iV n5,iV n6,iV n7,iV n8,iV n9,iV n10,.slice q11 l11 c11,.bool b12] 8).y [.pointer (some v2)]/\(zH ((Z13.row [iV 0,iV 0,iV 0,iV 0,iV 0,iV 0,.slice none 0 0,.bool false] 8).own Z13.y [iV n5,iV n6,iV n7,iV n8,iV n9,iV n10,.slice q11 l11 c11,.bool b12] 8).y [.func (.func f15) ⟨dK⟩ ⟨dJ⟩,iV n16,.slice who bk bJ])/\(zH (Z23.row (zK 0 0 0 0 0 0) 1).y [.pointer (some ⟨Z23.y,0,none⟩),.agg ⟨zK n24 n25 n26 n27 n28 n29⟩])/\((zLq ((Z13.row [iV 0,iV 0,iV 0,iV 0,iV 0,iV 0,.slice none 0 0,.bool false] 8).own Z13.y [iV n5,iV n6,iV n7,iV n8,iV n9,iV n10,.slice q11 l11 c11,.bool b12] 8) 98 ⟨Z13.y,0,none⟩ (.agg ⟨zK n5 n6 n7 n8 n9 n10⟩)))/\((zLq Z23 98 ⟨Z13.y,0,none⟩ (.agg ⟨zK n5 n6 n7 n8 n9 n10⟩)))/\((zLq (Z23.row (zK 0 0 0 0 0 0) 1) 98 ⟨Z13.y,0,none⟩ (.agg ⟨zK n5 n6 n7 n8 n9 n10⟩)))/\((zLq Z23 125 v1 (.pointer (some a14))))/\((zLq (Z23.row (zK 0 0 0 0 0 0) 1) 125 v1 (.pointer (some a14))))/\((zLq Z23 99 (zJ a14 7) (.func (.func f15) ⟨dK⟩ ⟨dJ⟩)))/\((zLq (Z23.row (zK 0 0 0 0 0 0) 1) 99 (zJ a14 7) (.func (.func f15) ⟨dK⟩ ⟨dJ⟩)))/\((zLq Z23 3 v2 (iV n16)))/\((zLq (Z23.row (zK 0 0 0 0 0 0) 1) 3 v2 (iV n16)))
theorem xPF {f4:Nat->Std}:let Y1:=Z23.row (zK 0 0 0 0 0 0) 1;let Y2:=Y1.own Z23.y (zK n24 n25 n26 n27 n28 n29) 1;let Y3:=Y2.row [.slice who bk bJ,.slice q39 l39 c39] 1;let y0:=zK n24 n25 n26 n27 n28 n29;let y1:=qg Z23.y 0;let y2:=some ⟨(Z23.y+1),0,none⟩;let y3:Value:=.bool true;let y4:=zK n32 n33 n34 n35 n36 n37;∀ (H:Ha9 Z Z13 Z23 now f4 v0 v1 a2 v2 a14 q1 q11 who l1 c1 l11 c11 bk bJ n3 n5 n6 n7 n8 n9 n10 n16 n17 n18 n19 n20 n21 n22 n24 n25 n26 n27 n28 n29 b12 f15 dK dJ) (h36:lz Y2 4 (qg Z13.y 7) y3) (h37:lz Y2 4 (zJ v3 7) y3) (h38:lz Y2 98 v3 (qh y4)) (h39:qo 103 [qh y0,qh y4] Y2 y3 Y2) (h40:lz Y2 26 (qg Z13.y 6) (.slice q39 l39 c39)) (h41:qo 104 [.slice y2 2 2] Y3 (.slice q40 l40 c40) Z41) (h42:qq (evL [pz v3,qh [iV n24,iV n25,iV n26,iV n27,iV n28,iV n29,.slice q40 l40 c40,.bool true]]) Z41 (.store 130 (.tmp 0) (.tmp 1))=some (undef,Z42)) (h43:zH Y2.y [pq Z23.y 0]) (h44:zH Y2.y [pq Z13.y 6]) (h45:zH Y2.y [.slice who bk bJ,.slice q39 l39 c39]) (h46:zH Y3.y [.slice y2 2 2]) (h47:zH Z41.y [pz v3,qh [iV n24,iV n25,iV n26,iV n27,iV n28,iV n29,.slice q40 l40 c40,.bool true]]) (h48:(zLq Y2 98 y1 (qh y0))) (h49:(zLq Y3 98 y1 (qh y0))) (h50:(zLq Z41 98 y1 (qh y0))) (nx:Q (.tuple ⟨[]⟩) Z42) (u1:(bk:Int)=(l1:Int):=by omega) (u2:I6 (n3+1):=by omega) (bS:v1.block<Z.y:=by omega) (bQ:v2.block<Z.y:=by omega),qi 100 [.slice who bk bJ,qh (stL now),pz v0,pz v1,pz v2,pz v3,pz v4,pz v5] Z Q:=
 let y0:=zK n24 n25 n26 n27 n28 n29;let y1:=qg Z23.y 0;let y3:Value:=.bool true;let y4:=zK n32 n33 n34 n35 n36 n37;fun H h36 h37 h38 h39 h40 h41 h42 h43 h44 h45 h46 h47 h48 h49 h50 nx u1 u2 bS bQ=>match H with|⟨h1,h2,h3,h4,h5,h6,h7,h8,h9,h10,h11,h12,h13,h14,h15,h16,h17,h18,h19,h20,h21,h22,h23,h24,h25,h26,h27,h28,h29,h30,h31,h32,h33,h34,h35⟩=>let s1:=Z.row (stL now) 4;let s2:=Z13.row [iV 0,iV 0,iV 0,iV 0,iV 0,iV 0,.slice none 0 0,.bool false] 8;let s3:=s2.own Z13.y [iV n5,iV n6,iV n7,iV n8,iV n9,iV n10,.slice q11 l11 c11,.bool b12] 8;let s4:=Z23.row (zK 0 0 0 0 0 0) 1;let s5:=s4.own Z23.y y0 1;zG [.g,.g,.g,.l (.slice q1 l1 c1),.g,.b true,.l (pz a2),.g,.l (iV n3),.n (n3+1),.l (pz a2),.g,.l (iV n3),.l (qh (stL now)),.c (qh (stL f4)) s1,.g,.c (qh [iV n5,iV n6,iV n7,iV n8,iV n9,iV n10,.slice q11 l11 c11,.bool b12]) Z13,.g,.e undef s3,.g,.l (qh (zK n5 n6 n7 n8 n9 n10)),.l (pz a14),.g,.g,.l (.func (.func f15) ⟨dK⟩ ⟨dJ⟩),.g,.l (iV n16),.g,.c (qh (zK n17 n18 n19 n20 n21 n22)) Z23,.c (qh y0) Z23,.g,.e undef s5,.g,.l y3,.g,.g,.l y3,.g,.g,.l (qh y0),.g,.l (qh y4),.c y3 s5,.g,.g,.l (qh y0),.g,.g,.l (.slice q39 l39 c39),.g,.c (.slice q40 l40 c40) Z41,.g,.e undef Z42] (kd (an3 h1 (xH u1) h2 (an6 h3 (w64 u2) h2 h3 h4 h5 (an6 h6 ((zC _ _ _).store (vs:=[iV n5,iV n6,iV n7,iV n8,iV n9,iV n10,.slice q11 l11 c11,.bool b12]) rfl uD rfl (nle rfl) rfl:qq (evL [pq Z13.y 0,qh [iV n5,iV n6,iV n7,iV n8,iV n9,iV n10,.slice q11 l11 c11,.bool b12]]) s2 (.store 130 (.tmp 0) (.tmp 1))=some (undef,s3)) ((zE (zO (vN bS 1)) zI):zH s1.y [pz v1]) ((zE (zO (vN bQ 1)) zI):zH s1.y [pz v2]) ((zE (zO (vN bS 1)) zI):zH s1.y [pz v1]) ((zE (zO (vN bQ 1)) zI):zH s1.y [pz v2]) (an6 ((zE (zO (nlt Z.y 0 1 rfl)) zI):zH s1.y [pq Z.y 0]) h7 h8 h9 (⟨⟨(vN bS 1),rfl⟩,h2⟩:(zLq s1 125 v1 (pz a2))) (⟨⟨(vN bS 1),rfl⟩,h2⟩:(zLq s1 125 v1 (pz a2))) (an6 h10 h11 (⟨⟨(vN bQ 1),rfl⟩,h3⟩:(zLq s1 3 v2 (iV n3))) (⟨⟨(vN bQ 1),rfl⟩,h3⟩:(zLq s1 3 v2 (iV n3))) h12 h13 (an6 h10 h11 h12 h13 h14 h15 (an6 ((zC _ _ _).put.rw.ldN zCT wQ (k:=0) rfl rfl (nle rfl):lz s3 98 (qg Z13.y 0) (qh (zK n5 n6 n7 n8 n9 n10))) h16 h17 h18 h19 h20 (an6 ((zC _ _ _).store (vs:=y0) rfl wQ rfl (nle rfl) rfl:qq (evL [pq Z23.y 0,qh y0]) s4 (.store 98 (.tmp 0) (.tmp 1))=some (undef,s5)) h21 h22 h23 h24 h25 (an6 ((zE (yK rfl) (zE (yK rfl) zI)):zH Z23.y [qh (zK n5 n6 n7 n8 n9 n10),qh (zK n17 n18 n19 n20 n21 n22)]) h26 h27 h28 h28 h29 (an6 h30 h31 h32 h33 h34 h35 (an6 h36 h37 ((zC _ _ _).put.rw.ldN zCT wQ (k:=0) rfl rfl (nle rfl):lz s5 98 y1 (qh y0)) h38 h39 ((zC _ _ _).put.rw.ldN zCT wQ (k:=0) rfl rfl (nle rfl):lz s5 98 y1 (qh y0)) (an6 h40 h41 h42 h43 h44 h45 (an6 h46 h47 h48 h49 h49 h50 nx))))))))))))))
theorem xPE {f4:Nat->Std}:let Y1:=Z23.row (zK 0 0 0 0 0 0) 1;let Y2:=Y1.own Z23.y (zK n24 n25 n26 n27 n28 n29) 1;let y0:=zK n24 n25 n26 n27 n28 n29;let y1:=zK n32 n33 n34 n35 n36 n37;∀ (H:Ha9 Z Z13 Z23 now f4 v0 v1 a2 v2 a14 q1 q11 who l1 c1 l11 c11 bk bJ n3 n5 n6 n7 n8 n9 n10 n16 n17 n18 n19 n20 n21 n22 n24 n25 n26 n27 n28 n29 b12 f15 dK dJ) (h36:lz Y2 4 (qg Z13.y 7) (.bool true)) (h37:lz Y2 4 (zJ v3 7) (.bool true)) (h38:lz Y2 98 v3 (qh y1)) (h39:qo 103 [qh y0,qh y1] Y2 (.bool false) Y2) (nx:Q (.tuple ⟨[]⟩) Y2) (u1:(bk:Int)=(l1:Int):=by omega) (u2:I6 (n3+1):=by omega) (bS:v1.block<Z.y:=by omega) (bQ:v2.block<Z.y:=by omega),qi 100 [.slice who bk bJ,qh (stL now),pz v0,pz v1,pz v2,pz v3,pz v4,pz v5] Z Q:=
 let y0:=zK n24 n25 n26 n27 n28 n29;let y1:=zK n32 n33 n34 n35 n36 n37;fun H h36 h37 h38 h39 nx u1 u2 bS bQ=>match H with|⟨h1,h2,h3,h4,h5,h6,h7,h8,h9,h10,h11,h12,h13,h14,h15,h16,h17,h18,h19,h20,h21,h22,h23,h24,h25,h26,h27,h28,h29,h30,h31,h32,h33,h34,h35⟩=>let s1:=Z.row (stL now) 4;let s2:=Z13.row [iV 0,iV 0,iV 0,iV 0,iV 0,iV 0,.slice none 0 0,.bool false] 8;let s3:=s2.own Z13.y [iV n5,iV n6,iV n7,iV n8,iV n9,iV n10,.slice q11 l11 c11,.bool b12] 8;let s4:=Z23.row (zK 0 0 0 0 0 0) 1;let s5:=s4.own Z23.y y0 1;zG [.g,.g,.g,.l (.slice q1 l1 c1),.g,.b true,.l (pz a2),.g,.l (iV n3),.n (n3+1),.l (pz a2),.g,.l (iV n3),.l (qh (stL now)),.c (qh (stL f4)) s1,.g,.c (qh [iV n5,iV n6,iV n7,iV n8,iV n9,iV n10,.slice q11 l11 c11,.bool b12]) Z13,.g,.e undef s3,.g,.l (qh (zK n5 n6 n7 n8 n9 n10)),.l (pz a14),.g,.g,.l (.func (.func f15) ⟨dK⟩ ⟨dJ⟩),.g,.l (iV n16),.g,.c (qh (zK n17 n18 n19 n20 n21 n22)) Z23,.c (qh y0) Z23,.g,.e undef s5,.g,.l (.bool true),.g,.g,.l (.bool true),.g,.g,.l (qh y0),.g,.l (qh y1),.c (.bool false) s5,.g,.g] (kd (an2 h1 (xH u1) (an6 h2 h3 (w64 u2) h2 h3 h4 (an6 h5 h6 ((zC _ _ _).store (vs:=[iV n5,iV n6,iV n7,iV n8,iV n9,iV n10,.slice q11 l11 c11,.bool b12]) rfl uD rfl (nle rfl) rfl:qq (evL [pq Z13.y 0,qh [iV n5,iV n6,iV n7,iV n8,iV n9,iV n10,.slice q11 l11 c11,.bool b12]]) s2 (.store 130 (.tmp 0) (.tmp 1))=some (undef,s3)) ((zE (zO (vN bS 1)) zI):zH s1.y [pz v1]) ((zE (zO (vN bQ 1)) zI):zH s1.y [pz v2]) ((zE (zO (vN bS 1)) zI):zH s1.y [pz v1]) (an6 ((zE (zO (vN bQ 1)) zI):zH s1.y [pz v2]) ((zE (zO (nlt Z.y 0 1 rfl)) zI):zH s1.y [pq Z.y 0]) h7 h8 h9 (⟨⟨(vN bS 1),rfl⟩,h2⟩:(zLq s1 125 v1 (pz a2))) (an6 (⟨⟨(vN bS 1),rfl⟩,h2⟩:(zLq s1 125 v1 (pz a2))) h10 h11 (⟨⟨(vN bQ 1),rfl⟩,h3⟩:(zLq s1 3 v2 (iV n3))) (⟨⟨(vN bQ 1),rfl⟩,h3⟩:(zLq s1 3 v2 (iV n3))) h12 (an6 h13 h10 h11 h12 h13 h14 (an6 h15 ((zC _ _ _).put.rw.ldN zCT wQ (k:=0) rfl rfl (nle rfl):lz s3 98 (qg Z13.y 0) (qh (zK n5 n6 n7 n8 n9 n10))) h16 h17 h18 h19 (an6 h20 ((zC _ _ _).store (vs:=y0) rfl wQ rfl (nle rfl) rfl:qq (evL [pq Z23.y 0,qh y0]) s4 (.store 98 (.tmp 0) (.tmp 1))=some (undef,s5)) h21 h22 h23 h24 (an6 h25 ((zE (yK rfl) (zE (yK rfl) zI)):zH Z23.y [qh (zK n5 n6 n7 n8 n9 n10),qh (zK n17 n18 n19 n20 n21 n22)]) h26 h27 h28 h28 (an6 h29 h30 h31 h32 h33 h34 (an6 h35 h36 h37 ((zC _ _ _).put.rw.ldN zCT wQ (k:=0) rfl rfl (nle rfl):lz s5 98 (qg Z23.y 0) (qh y0)) h38 h39 nx))))))))))))
theorem xPD {f4:Nat->Std}:let Y1:=Z23.row (zK 0 0 0 0 0 0) 1;let Y2:=Y1.own Z23.y (zK n24 n25 n26 n27 n28 n29) 1;let Y3:=Y2.row [.slice who bk bJ,.slice q32 l32 c32] 1;let y0:=zK n24 n25 n26 n27 n28 n29;let y1:=some ⟨(Z23.y+1),0,none⟩;let y2:=qg Z23.y 0;∀ (H:Ha9 Z Z13 Z23 now f4 v0 v1 a2 v2 a14 q1 q11 who l1 c1 l11 c11 bk bJ n3 n5 n6 n7 n8 n9 n10 n16 n17 n18 n19 n20 n21 n22 n24 n25 n26 n27 n28 n29 b12 f15 dK dJ) (h36:lz Y2 4 (qg Z13.y 7) (.bool true)) (h37:lz Y2 4 (zJ v3 7) (.bool false)) (h38:lz Y2 26 (qg Z13.y 6) (.slice q32 l32 c32)) (h39:qo 104 [.slice y1 2 2] Y3 (.slice q33 l33 c33) Z34) (h40:qq (evL [pz v3,qh [iV n24,iV n25,iV n26,iV n27,iV n28,iV n29,.slice q33 l33 c33,.bool true]]) Z34 (.store 130 (.tmp 0) (.tmp 1))=some (undef,Z35)) (h41:zH Y2.y [pq Z23.y 0]) (h42:zH Y2.y [pq Z13.y 6]) (h43:zH Y2.y [.slice who bk bJ,.slice q32 l32 c32]) (h44:zH Y3.y [.slice y1 2 2]) (h45:zH Z34.y [pz v3,qh [iV n24,iV n25,iV n26,iV n27,iV n28,iV n29,.slice q33 l33 c33,.bool true]]) (h46:(zLq Y2 98 y2 (qh y0))) (h47:(zLq Y3 98 y2 (qh y0))) (h48:(zLq Z34 98 y2 (qh y0))) (nx:Q (.tuple ⟨[]⟩) Z35) (u1:(bk:Int)=(l1:Int):=by omega) (u2:I6 (n3+1):=by omega) (bS:v1.block<Z.y:=by omega) (bQ:v2.block<Z.y:=by omega),qi 100 [.slice who bk bJ,qh (stL now),pz v0,pz v1,pz v2,pz v3,pz v4,pz v5] Z Q:=
 let y0:=zK n24 n25 n26 n27 n28 n29;let y2:=qg Z23.y 0;fun H h36 h37 h38 h39 h40 h41 h42 h43 h44 h45 h46 h47 h48 nx u1 u2 bS bQ=>match H with|⟨h1,h2,h3,h4,h5,h6,h7,h8,h9,h10,h11,h12,h13,h14,h15,h16,h17,h18,h19,h20,h21,h22,h23,h24,h25,h26,h27,h28,h29,h30,h31,h32,h33,h34,h35⟩=>let s1:=Z.row (stL now) 4;let s2:=Z13.row [iV 0,iV 0,iV 0,iV 0,iV 0,iV 0,.slice none 0 0,.bool false] 8;let s3:=s2.own Z13.y [iV n5,iV n6,iV n7,iV n8,iV n9,iV n10,.slice q11 l11 c11,.bool b12] 8;let s4:=Z23.row (zK 0 0 0 0 0 0) 1;let s5:=s4.own Z23.y y0 1;zG [.g,.g,.g,.l (.slice q1 l1 c1),.g,.b true,.l (pz a2),.g,.l (iV n3),.n (n3+1),.l (pz a2),.g,.l (iV n3),.l (qh (stL now)),.c (qh (stL f4)) s1,.g,.c (qh [iV n5,iV n6,iV n7,iV n8,iV n9,iV n10,.slice q11 l11 c11,.bool b12]) Z13,.g,.e undef s3,.g,.l (qh (zK n5 n6 n7 n8 n9 n10)),.l (pz a14),.g,.g,.l (.func (.func f15) ⟨dK⟩ ⟨dJ⟩),.g,.l (iV n16),.g,.c (qh (zK n17 n18 n19 n20 n21 n22)) Z23,.c (qh y0) Z23,.g,.e undef s5,.g,.l (.bool true),.g,.g,.l (.bool false),.g,.g,.g,.g,.l (qh y0),.g,.g,.l (.slice q32 l32 c32),.g,.c (.slice q33 l33 c33) Z34,.g,.e undef Z35] (kd (an6 h1 (xH u1) h2 h3 (w64 u2) h2 (an6 h3 h4 h5 h6 ((zC _ _ _).store (vs:=[iV n5,iV n6,iV n7,iV n8,iV n9,iV n10,.slice q11 l11 c11,.bool b12]) rfl uD rfl (nle rfl) rfl:qq (evL [pq Z13.y 0,qh [iV n5,iV n6,iV n7,iV n8,iV n9,iV n10,.slice q11 l11 c11,.bool b12]]) s2 (.store 130 (.tmp 0) (.tmp 1))=some (undef,s3)) ((zE (zO (vN bS 1)) zI):zH s1.y [pz v1]) (an6 ((zE (zO (vN bQ 1)) zI):zH s1.y [pz v2]) ((zE (zO (vN bS 1)) zI):zH s1.y [pz v1]) ((zE (zO (vN bQ 1)) zI):zH s1.y [pz v2]) ((zE (zO (nlt Z.y 0 1 rfl)) zI):zH s1.y [pq Z.y 0]) h7 h8 (an6 h9 (⟨⟨(vN bS 1),rfl⟩,h2⟩:(zLq s1 125 v1 (pz a2))) (⟨⟨(vN bS 1),rfl⟩,h2⟩:(zLq s1 125 v1 (pz a2))) h10 h11 (⟨⟨(vN bQ 1),rfl⟩,h3⟩:(zLq s1 3 v2 (iV n3))) (an6 (⟨⟨(vN bQ 1),rfl⟩,h3⟩:(zLq s1 3 v2 (iV n3))) h12 h13 h10 h11 h12 (an6 h13 h14 h15 ((zC _ _ _).put.rw.ldN zCT wQ (k:=0) rfl rfl (nle rfl):lz s3 98 (qg Z13.y 0) (qh (zK n5 n6 n7 n8 n9 n10))) h16 h17 (an6 h18 h19 h20 ((zC _ _ _).store (vs:=y0) rfl wQ rfl (nle rfl) rfl:qq (evL [pq Z23.y 0,qh y0]) s4 (.store 98 (.tmp 0) (.tmp 1))=some (undef,s5)) h21 h22 (an6 h23 h24 h25 ((zE (yK rfl) (zE (yK rfl) zI)):zH Z23.y [qh (zK n5 n6 n7 n8 n9 n10),qh (zK n17 n18 n19 n20 n21 n22)]) h26 h27 (an6 h28 h28 h29 h30 h31 h32 (an6 h33 h34 h35 h36 h37 ((zC _ _ _).put.rw.ldN zCT wQ (k:=0) rfl rfl (nle rfl):lz s5 98 y2 (qh y0)) (an6 h38 h39 h40 h41 h42 h43 (an6 h44 h45 h46 h47 h47 h48 nx)))))))))))))
theorem xPC {f4:Nat->Std}:let y0:=zK n24 n25 n26 n27 n28 n29;let y1:=(Z23.row (zK 0 0 0 0 0 0) 1).own Z23.y y0 1;∀ (H:Ha9 Z Z13 Z23 now f4 v0 v1 a2 v2 a14 q1 q11 who l1 c1 l11 c11 bk bJ n3 n5 n6 n7 n8 n9 n10 n16 n17 n18 n19 n20 n21 n22 n24 n25 n26 n27 n28 n29 b12 f15 dK dJ) (h36:lz y1 4 (qg Z13.y 7) (.bool false)) (nx:Q (.tuple ⟨[]⟩) y1) (u1:(bk:Int)=(l1:Int):=by omega) (u2:I6 (n3+1):=by omega) (bS:v1.block<Z.y:=by omega) (bQ:v2.block<Z.y:=by omega),qi 100 [.slice who bk bJ,qh (stL now),pz v0,pz v1,pz v2,pz v3,pz v4,pz v5] Z Q :=
 let y0:=zK n24 n25 n26 n27 n28 n29;fun H h36 nx u1 u2 bS bQ=>match H with|⟨h1,h2,h3,h4,h5,h6,h7,h8,h9,h10,h11,h12,h13,h14,h15,h16,h17,h18,h19,h20,h21,h22,h23,h24,h25,h26,h27,h28,h29,h30,h31,h32,h33,h34,h35⟩=>let s1:=Z.row (stL now) 4;let s2:=Z13.row [iV 0,iV 0,iV 0,iV 0,iV 0,iV 0,.slice none 0 0,.bool false] 8;let s3:=s2.own Z13.y [iV n5,iV n6,iV n7,iV n8,iV n9,iV n10,.slice q11 l11 c11,.bool b12] 8;let s4:=Z23.row (zK 0 0 0 0 0 0) 1;let s5:=s4.own Z23.y y0 1;zG [.g,.g,.g,.l (.slice q1 l1 c1),.g,.b true,.l (pz a2),.g,.l (iV n3),.n (n3+1),.l (pz a2),.g,.l (iV n3),.l (qh (stL now)),.c (qh (stL f4)) s1,.g,.c (qh [iV n5,iV n6,iV n7,iV n8,iV n9,iV n10,.slice q11 l11 c11,.bool b12]) Z13,.g,.e undef s3,.g,.l (qh (zK n5 n6 n7 n8 n9 n10)),.l (pz a14),.g,.g,.l (.func (.func f15) ⟨dK⟩ ⟨dJ⟩),.g,.l (iV n16),.g,.c (qh (zK n17 n18 n19 n20 n21 n22)) Z23,.c (qh y0) Z23,.g,.e undef s5,.g,.l (.bool false),.g,.g] (kd (an4 h1 (xH u1) h2 h3 (an6 (w64 u2) h2 h3 h4 h5 h6 (an6 ((zC _ _ _).store (vs:=[iV n5,iV n6,iV n7,iV n8,iV n9,iV n10,.slice q11 l11 c11,.bool b12]) rfl uD rfl (nle rfl) rfl:qq (evL [pq Z13.y 0,qh [iV n5,iV n6,iV n7,iV n8,iV n9,iV n10,.slice q11 l11 c11,.bool b12]]) s2 (.store 130 (.tmp 0) (.tmp 1))=some (undef,s3)) ((zE (zO (vN bS 1)) zI):zH s1.y [pz v1]) ((zE (zO (vN bQ 1)) zI):zH s1.y [pz v2]) ((zE (zO (vN bS 1)) zI):zH s1.y [pz v1]) ((zE (zO (vN bQ 1)) zI):zH s1.y [pz v2]) ((zE (zO (nlt Z.y 0 1 rfl)) zI):zH s1.y [pq Z.y 0]) (an6 h7 h8 h9 (⟨⟨(vN bS 1),rfl⟩,h2⟩:(zLq s1 125 v1 (pz a2))) (⟨⟨(vN bS 1),rfl⟩,h2⟩:(zLq s1 125 v1 (pz a2))) h10 (an6 h11 (⟨⟨(vN bQ 1),rfl⟩,h3⟩:(zLq s1 3 v2 (iV n3))) (⟨⟨(vN bQ 1),rfl⟩,h3⟩:(zLq s1 3 v2 (iV n3))) h12 h13 h10 (an6 h11 h12 h13 h14 h15 ((zC _ _ _).put.rw.ldN zCT wQ (k:=0) rfl rfl (nle rfl):lz s3 98 (qg Z13.y 0) (qh (zK n5 n6 n7 n8 n9 n10))) (an6 h16 h17 h18 h19 h20 ((zC _ _ _).store (vs:=y0) rfl wQ rfl (nle rfl) rfl:qq (evL [pq Z23.y 0,qh y0]) s4 (.store 98 (.tmp 0) (.tmp 1))=some (undef,s5)) (an6 h21 h22 h23 h24 h25 ((zE (yK rfl) (zE (yK rfl) zI)):zH Z23.y [qh (zK n5 n6 n7 n8 n9 n10),qh (zK n17 n18 n19 n20 n21 n22)]) (an6 h26 h27 h28 h28 h29 h30 (an6 h31 h32 h33 h34 h35 h36 nx)))))))))))
theorem yQY (hb:∀ k bU Z,Inv k bU Z->zQY who bk bJ v0 v4 v5 BA l9 bU Z (NX1 Inv k) Q0):∀ k bU Z,Inv k bU Z->zQX who bk bJ v0 v4 v5 BA l9 bU Z Q0 :=
 xL (ai (xZ 0) trivial) hb
theorem xHL:let s1:=ZA.row (zL 0 0 0 0) 4;let s2:=s1.own ZA.y (zL nR nS nT nY) 4;let Y1:=ZJ.row [iV bU] 1;∀ (h1:lz Z 143 v5 (.func (.func fE) ⟨gi⟩ ⟨f9⟩)) (h2:lz Z 26 v0 (.slice (some fp) lG cG)) (h3:lz Z 3 (zJ fp (Int.toNat (bk:Int)*1)) (iV nF)) (h4:lz Z 107 ⟨BA,0+Int.toNat bU*4,none⟩ (qh (zL nG nE nI nM))) (h5:qo fE (gi ++ (iV bU::iV nF::(qh (zL nG nE nI nM))::f9)) Z (.tuple ⟨[qh (zL nR nS nT nY),.bool true]⟩) ZA) (h6:zH Z.y [.func (.func fE) ⟨gi⟩ ⟨f9⟩,iV bU,iV nF,qh (zL nG nE nI nM)]) (h7:zH s1.y [pq ZA.y 0,qh (zL nR nS nT nY)]) (h8:(zLq ZA 143 v5 (.func (.func fE) ⟨gi⟩ ⟨f9⟩))) (h9:(zLq s1 143 v5 (.func (.func fE) ⟨gi⟩ ⟨f9⟩))) (h10:(zLq ZA 26 v0 (.slice (some fp) lG cG))) (h11:(zLq s1 26 v0 (.slice (some fp) lG cG))) (h12:((zH ZA.y [.slice who bk bJ]/\zM RD (iV (bk:Int))=true)/\Callee.builtin .len=Callee.builtin .len/\yR Pg (evL [.slice who bk bJ]) ZA (.call { callee:=.builtin .len,args:=⟨xJ 1⟩,argTypes:=⟨[26]⟩ })=some (iV (bk:Int)))) (h13:((zH s1.y [.slice who bk bJ]/\zM RD (iV (bk:Int))=true)/\Callee.builtin .len=Callee.builtin .len/\yR Pg (evL [.slice who bk bJ]) s1 (.call { callee:=.builtin .len,args:=⟨xJ 1⟩,argTypes:=⟨[26]⟩ })=some (iV (bk:Int)))) (h14:(zLq ZA 3 (zJ fp (Int.toNat (bk:Int)*1)) (iV nF))) (h15:(zLq s1 3 (zJ fp (Int.toNat (bk:Int)*1)) (iV nF))) (h16:(zLq ZA 107 ⟨BA,0+Int.toNat bU*4,none⟩ (qh (zL nG nE nI nM)))) (h17:(zLq s1 107 ⟨BA,0+Int.toNat bU*4,none⟩ (qh (zL nG nE nI nM)))) (h18:lz s2 109 (qg BA 0) (qh (stL fJ))) (h19:qq (evL [pq ((ZA.y+1)) 0,qh (stL fJ)]) (s2.row [iV 0,iV 0,iV 0,iV 0,iV 0,iV 0,iV 0,iV 0,iV 0,iV 0,iV 0,iV 0,iV 0,iV 0,iV 0,iV 0,iV 0,iV 0,iV 0,iV 0,iV 0,iV 0,iV 0,iV 0] 4) (.store 109 (.tmp 0) (.tmp 1))=some (undef,ZBB)) (h20:lz ZBB 107 (qg ZA.y 0) (qh (zL nR nS nT nY))) (h21:qq (evL [pq ((ZA.y+1)) (0+Int.toNat bU*4),qh (zL nR nS nT nY)]) ZBB (.store 107 (.tmp 0) (.tmp 1))=some (undef,ZJ)) (h22:lz ZJ 144 v4 (.func (.func fF) ⟨fF_a⟩ ⟨fF_c⟩)) (h23:yC Pg 26 26 (.slice who bk bJ) (.slice (some (qg ZJ.y 0)) 1 1) Y1=some (.slice qIB lMB cJB,ZW)) (h24:lz ZW 109 ⟨(ZA.y+1),0,none⟩ (qh (stL fH))) (h25:qo fF (fF_a ++ (.slice qIB lMB cJB::(qh (stL fH))::fF_c)) ZW (.tuple ⟨[]⟩) ZBI) (h26:zH ZJ.y [pz v4]) (h27:zH Y1.y [.slice who bk bJ,.slice (some (qg ZJ.y 0)) 1 1]) (h28:zH ZW.y [pq ((ZA.y+1)) 0]) (h29:zH ZW.y [.func (.func fF) ⟨fF_a⟩ ⟨fF_c⟩,.slice qIB lMB cJB,qh (stL fH)]) (h30:(zLq ZJ 144 v4 (.func (.func fF) ⟨fF_a⟩ ⟨fF_c⟩))) (h31:(zLq Y1 144 v4 (.func (.func fF) ⟨fF_a⟩ ⟨fF_c⟩))) (h32:(zLq ZW 144 v4 (.func (.func fF) ⟨fF_a⟩ ⟨fF_c⟩))) (h33:(zLq ZJ 109 ⟨(ZA.y+1),0,none⟩ (qh (stL fH)))) (h34:(zLq Y1 109 ⟨(ZA.y+1),0,none⟩ (qh (stL fH)))) (h35:(zLq ZW 109 ⟨(ZA.y+1),0,none⟩ (qh (stL fH)))) (b_who:∀ a,who=some a->a.block<Z.y) (nx:Nx (bU+1) ZBI) (u1:bU<(l9:Int):=by omega) (u2:Ix (bk:Int) lG:=by omega) (u3:Ix bU 6:=by omega) (u4:I6 (bU+1):=by omega) (gm:v5.block<Z.y:=by omega) (gn:v0.block<Z.y:=by omega) (fY:fp.block<Z.y:=by omega) (b_BA:BA<Z.y:=by omega),zQY who bk bJ v0 v4 v5 BA l9 bU Z Nx Q0:=
 let s1:=ZA.row (zL 0 0 0 0) 4;let s2:=s1.own ZA.y (zL nR nS nT nY) 4;fun h1 h2 h3 h4 h5 h6 h7 h8 h9 h10 h11 h12 h13 h14 h15 h16 h17 h18 h19 h20 h21 h22 h23 h24 h25 h26 h27 h28 h29 h30 h31 h32 h33 h34 h35 b_who nx u1 u2 u3 u4 gm gn fY b_BA=>kO 0 (bU+1) [.b true,.g,.g,.l (.func (.func fE) ⟨gi⟩ ⟨f9⟩),.g,.l (.slice (some fp) lG cG),.g,.g,.i,.l (iV nF),.g,.i,.l (qh (zL nG nE nI nM)),.c (.tuple ⟨[qh (zL nR nS nT nY),.bool true]⟩) ZA,.g,.g,.g,.g,.e undef s2,.g,.g,.g,.l (qh (stL fJ)),.g,.e undef ZBB,.g,.l (qh (zL nR nS nT nY)),.i,.e undef ZJ,.l (.func (.func fF) ⟨fF_a⟩ ⟨fF_c⟩),.g,.g,.g,.e (.slice qIB lMB cJB) ZW,.l (qh (stL fH)),.c (.tuple ⟨[]⟩) ZBI,.n (bU+1),.g] (fun _ f=>an6 (zR u1) h1 h2 u2 h3 u3 (an6 h4 h5 ((zC _ _ _).store (vs:=(zL nR nS nT nY)) rfl xG rfl (nle rfl) rfl:qq (evL [pq ZA.y 0,qh (zL nR nS nT nY)]) s1 (.store 107 (.tmp 0) (.tmp 1))=some (undef,s2)) ((zE (zO gm) zI):zH Z.y [pz v5]) ((zE (zO gn) zI):zH Z.y [pz v0]) ((zE (yQ b_who) zI):zH Z.y [.slice who bk bJ]) (an6 ((zE (zO fY) zI):zH Z.y [pz (zJ fp (Int.toNat (bk:Int)*1))]) ((zE (zO b_BA) zI):zH Z.y [pq BA (0+Int.toNat bU*4)]) h6 h7 h8 h9 (an6 h10 h11 h12 h13 h14 h15 (an6 h16 h17 h18 h19 h20 u3 (an6 h21 h22 h23 h24 h25 h26 (an6 h27 h28 h29 h30 h31 h31 (an6 h32 h33 h34 h34 h35 (w64 u4) f)))))))) nx
theorem xHK:let s1:=ZA.row (zL 0 0 0 0) 4;let s2:=s1.own ZA.y (zL nR nS nT nY) 4;∀ (h1:lz Z 143 v5 (.func (.func fE) ⟨gi⟩ ⟨f9⟩)) (h2:lz Z 26 v0 (.slice (some fp) lG cG)) (h3:lz Z 3 (zJ fp (Int.toNat (bk:Int)*1)) (iV nF)) (h4:lz Z 107 ⟨BA,0+Int.toNat bU*4,none⟩ (qh (zL nG nE nI nM))) (h5:qo fE (gi ++ (iV bU::iV nF::(qh (zL nG nE nI nM))::f9)) Z (.tuple ⟨[qh (zL nR nS nT nY),.bool false]⟩) ZA) (h6:zH Z.y [.func (.func fE) ⟨gi⟩ ⟨f9⟩,iV bU,iV nF,qh (zL nG nE nI nM)]) (h7:zH s1.y [pq ZA.y 0,qh (zL nR nS nT nY)]) (h8:(zLq ZA 143 v5 (.func (.func fE) ⟨gi⟩ ⟨f9⟩))) (h9:(zLq s1 143 v5 (.func (.func fE) ⟨gi⟩ ⟨f9⟩))) (h10:(zLq ZA 26 v0 (.slice (some fp) lG cG))) (h11:(zLq s1 26 v0 (.slice (some fp) lG cG))) (h12:((zH ZA.y [.slice who bk bJ]/\zM RD (iV (bk:Int))=true)/\Callee.builtin .len=Callee.builtin .len/\yR Pg (evL [.slice who bk bJ]) ZA (.call { callee:=.builtin .len,args:=⟨xJ 1⟩,argTypes:=⟨[26]⟩ })=some (iV (bk:Int)))) (h13:((zH s1.y [.slice who bk bJ]/\zM RD (iV (bk:Int))=true)/\Callee.builtin .len=Callee.builtin .len/\yR Pg (evL [.slice who bk bJ]) s1 (.call { callee:=.builtin .len,args:=⟨xJ 1⟩,argTypes:=⟨[26]⟩ })=some (iV (bk:Int)))) (h14:(zLq ZA 3 (zJ fp (Int.toNat (bk:Int)*1)) (iV nF))) (h15:(zLq s1 3 (zJ fp (Int.toNat (bk:Int)*1)) (iV nF))) (h16:(zLq ZA 107 ⟨BA,0+Int.toNat bU*4,none⟩ (qh (zL nG nE nI nM)))) (h17:(zLq s1 107 ⟨BA,0+Int.toNat bU*4,none⟩ (qh (zL nG nE nI nM)))) (b_who:∀ a,who=some a->a.block<Z.y) (nx:Nx (bU+1) s2) (u1:bU<(l9:Int):=by omega) (u2:Ix (bk:Int) lG:=by omega) (u3:Ix bU 6:=by omega) (u4:I6 (bU+1):=by omega) (gm:v5.block<Z.y:=by omega) (gn:v0.block<Z.y:=by omega) (fY:fp.block<Z.y:=by omega) (b_BA:BA<Z.y:=by omega),zQY who bk bJ v0 v4 v5 BA l9 bU Z Nx Q0:=
 let s1:=ZA.row (zL 0 0 0 0) 4;let s2:=s1.own ZA.y (zL nR nS nT nY) 4;fun h1 h2 h3 h4 h5 h6 h7 h8 h9 h10 h11 h12 h13 h14 h15 h16 h17 b_who nx u1 u2 u3 u4 gm gn fY b_BA=>kO 0 (bU+1) [.b true,.g,.g,.l (.func (.func fE) ⟨gi⟩ ⟨f9⟩),.g,.l (.slice (some fp) lG cG),.g,.g,.i,.l (iV nF),.g,.i,.l (qh (zL nG nE nI nM)),.c (.tuple ⟨[qh (zL nR nS nT nY),.bool false]⟩) ZA,.g,.g,.g,.g,.e undef s2,.g,.g,.g,.n (bU+1),.g] (fun _ f=>an3 (zR u1) h1 h2 (an6 u2 h3 u3 h4 h5 ((zC _ _ _).store (vs:=(zL nR nS nT nY)) rfl xG rfl (nle rfl) rfl:qq (evL [pq ZA.y 0,qh (zL nR nS nT nY)]) s1 (.store 107 (.tmp 0) (.tmp 1))=some (undef,s2)) (an6 ((zE (zO gm) zI):zH Z.y [pz v5]) ((zE (zO gn) zI):zH Z.y [pz v0]) ((zE (yQ b_who) zI):zH Z.y [.slice who bk bJ]) ((zE (zO fY) zI):zH Z.y [pz (zJ fp (Int.toNat (bk:Int)*1))]) ((zE (zO b_BA) zI):zH Z.y [pq BA (0+Int.toNat bU*4)]) h6 (an6 h7 h8 h9 h10 h11 h12 (an6 h13 h14 h15 h16 h17 (w64 u4) f))))) nx
theorem xHJ (nx:Q0 Z) (u1:¬ bU<(l9:Int):=by omega):zQY who bk bJ v0 v4 v5 BA l9 bU Z Nx Q0 :=
 kO 1 () [.b false] (fun _ f=>ai (zS u1) f) nx
theorem xPB {f4:FuncId}:let s1:=Z.row (stL now) 4;let s2:=s1.row [iV (-1)] 1;let y0:=qh (stL now);let y1:=qg Z.y 0;∀ (h1:lz s1 26 v0 (.slice q1 l1 c1)) (h2:lz s1 125 v1 (pz a2)) (h3:lz s1 4 (zJ a2 6) (.bool true)) (h4:lz s1 144 v4 (.func (.func f4) ⟨f4_a⟩ ⟨f4_c⟩)) (h5:yC Pg 26 26 (.slice who bk bJ) (.slice (some ⟨(Z.y+1),0,none⟩) 1 1) s2=some (.slice q6 l6 c6,Z5)) (h6:lz Z5 109 y1 y0) (h7:qo f4 (f4_a ++ (.slice q6 l6 c6::y0::f4_c)) Z5 (.tuple ⟨[]⟩) Z7) (h8:zH Z5.y [pq Z.y 0]) (h9:zH Z5.y [.func (.func f4) ⟨f4_a⟩ ⟨f4_c⟩,.slice q6 l6 c6,qh (stL now)]) (h10:(zLq s1 144 v4 (.func (.func f4) ⟨f4_a⟩ ⟨f4_c⟩))) (h11:(zLq s2 144 v4 (.func (.func f4) ⟨f4_a⟩ ⟨f4_c⟩))) (h12:(zLq Z5 144 v4 (.func (.func f4) ⟨f4_a⟩ ⟨f4_c⟩))) (h13:lz s1 109 y1 y0) (h14:lz s2 109 y1 y0) (h15:(zLq Z5 109 y1 y0)) (h16:lz Z7 125 v1 (pz a8)) (h17:lz Z7 32 (zJ a8 2) (.slice q9 l9 c9)) (b_who:∀ a,who=some a->a.block<Z.y) (hL:zQX who bk bJ v0 v4 v5 Z.y l9 0 Z7 P0) (k0:∀ Z',P0 Z'->zHU who bk bJ v0 v4 v5 Z.y l9 Z' Q) (u1:¬ (bk:Int)=(l1:Int):=by omega) (b_v4_block:v4.block<Z.y:=by omega),qi 100 [.slice who bk bJ,qh (stL now),pz v0,pz v1,pz v2,pz v3,pz v4,pz v5] Z Q:=
 let s1:=Z.row (stL now) 4;let s2:=s1.row [iV (-1)] 1;let y0:=qh (stL now);let y1:=qg Z.y 0;fun h1 h2 h3 h4 h5 h6 h7 h8 h9 h10 h11 h12 h13 h14 h15 h16 h17 b_who hL k0 u1 b_v4_block=>zG [.g,.g,.g,.l (.slice q1 l1 c1),.g,.b false,.l (pz a2),.g,.g,.l (.bool true),.l (.func (.func f4) ⟨f4_a⟩ ⟨f4_c⟩),.g,.g,.e (.slice q6 l6 c6) Z5,.l y0,.c (.tuple ⟨[]⟩) Z7,.l (pz a8),.g,.g,.g,.l (.slice q9 l9 c9),.g,.g,.lf 110 (zEG who bk bJ v0 v4 v5 Z.y l9 0) [zHT who bk bJ v0 v4 v5 Z.y l9 P0]] (kd (an4 h1 (yD u1) h2 h3 (an6 h4 h5 h6 h7 ((zE (zO (vN b_v4_block 1)) zI):zH s1.y [pz v4]) ((zE (yBK b_who 2) (zE (zON (nlt Z.y 1 2 rfl)) zI)):zH s2.y [.slice who bk bJ,.slice (some ⟨(Z.y+1),0,none⟩) 1 1]) (an6 h8 h9 h10 h11 h11 h12 (an6 (⟨⟨(nlt Z.y 0 1 rfl),rfl⟩,h13⟩:(zLq s1 109 y1 y0)) (⟨⟨(nlt Z.y 0 2 rfl),rfl⟩,h14⟩:(zLq s2 109 y1 y0)) (⟨⟨(nlt Z.y 0 2 rfl),rfl⟩,h14⟩:(zLq s2 109 y1 y0)) h15 h16 h17 (ai (ai tt (ai (arf (zEG who bk bJ v0 v4 v5 Z.y l9 0)) hL)) (ai (kz0 k0) trivial)))))))
theorem xPA:let Y1:=Z.row (stL now) 4;∀ (h1:lz Y1 26 v0 (.slice q1 l1 c1)) (h2:lz Y1 125 v1 (pz a2)) (h3:lz Y1 4 (zJ a2 6) (.bool false)) (h4:lz Y1 32 (zJ a2 2) (.slice q4 l4 c4)) (hL:zQX who bk bJ v0 v4 v5 Z.y l4 0 Y1 P0) (k0:∀ Z',P0 Z'->zHU who bk bJ v0 v4 v5 Z.y l4 Z' Q) (u1:¬ (bk:Int)=(l1:Int):=by omega),qi 100 [.slice who bk bJ,qh (stL now),pz v0,pz v1,pz v2,pz v3,pz v4,pz v5] Z Q:=
 fun h1 h2 h3 h4 hL k0 u1=>zG [.g,.g,.g,.l (.slice q1 l1 c1),.g,.b false,.l (pz a2),.g,.g,.l (.bool false),.l (pz a2),.g,.g,.g,.l (.slice q4 l4 c4),.g,.g,.lf 110 (zEG who bk bJ v0 v4 v5 Z.y l4 0) [zHT who bk bJ v0 v4 v5 Z.y l4 P0]] (kd (an6 h1 (yD u1) h2 h3 h2 h4 (ai (ai tt (ai (arf (zEG who bk bJ v0 v4 v5 Z.y l4 0)) hL)) (ai (kz0 k0) trivial))))
theorem yQX (nx:Q (.tuple ⟨[]⟩) Z):zHU who bk bJ v0 v4 v5 BA l9 Z Q :=
 sK [] nx
end
structure GvK where
 K:PlK
 D:Nat
 r:Nat
 st0:Nat->Std
 pu:Option Addr
 cu:Nat
 Bu:Nat
 Bq:Nat
 Bs:Nat
 Bo:Nat
 Bg:Nat
 By:Nat
 n1:Nat
abbrev GvK.du (G:GvK):List Nat:=yF G.K.w G.D G.K.l
abbrev GvK.args (G:GvK):List Value:=[.pointer (some ⟨G.Bu,0,none⟩),.pointer (some ⟨G.Bq,0,none⟩),.pointer (some ⟨G.Bs,0,none⟩),.pointer (some ⟨G.Bo,0,none⟩),.pointer (some ⟨G.Bg,0,none⟩),.pointer (some ⟨G.By,0,none⟩)]
structure GvK.Ok (G:GvK):Prop where
 ok:G.K.Ok
 dr:G.D+(G.r+1)=G.K.n
 f0:G.K.Zf.y<=G.Bo
 f1:G.K.Zf.y<=G.n1
 lt:G.Bu<G.n1/\G.Bq<G.n1/\G.Bs<G.n1/\G.Bo<G.n1/\G.Bg<G.n1/\G.By<G.n1/\G.K.Bp<G.n1/\G.K.bm<G.n1
 no:G.Bo≠G.Bu/\G.Bo≠G.Bq/\G.Bo≠G.Bs/\G.Bo≠G.Bg/\G.Bo≠G.By/\G.Bo≠G.K.Bp/\G.Bo≠G.K.bm
 nm:G.K.bm≠G.Bu/\G.K.bm≠G.Bq/\G.K.bm≠G.Bs/\G.K.bm≠G.Bg/\G.K.bm≠G.By
structure GvW (G:GvK) (z:St) (F:Key->Option EndR) (X:Nat->Prop) (e:EndR):Prop where
 w:PlW G.K z F X
 ou:Row z ⟨G.Bu,0,none⟩ [.slice G.pu G.du.length G.cu]
 du:yG z G.pu G.du.length (zNU G.du)
 ux:∀ b,AtP G.pu b->X b
 oq:Row z ⟨G.Bq,0,none⟩ [.pointer (some ⟨G.K.Bp,0,none⟩)]
 os:Row z ⟨G.Bs,0,none⟩ (iV (G.D:Int)::stL G.st0)
 og:Row z ⟨G.Bg,0,none⟩ [.func (.func 100) ⟨[]⟩ ⟨G.args⟩]
 oy:Row z ⟨G.By,0,none⟩ [.func (.func 99) ⟨[.pointer (some ⟨G.K.Bp,0,none⟩)]⟩ ⟨[]⟩]
 oo:Own z G.Bo (zEM e) 8
 xo:∀ b,X b->b≠G.Bo
 nz:G.n1<=z.y
section
variable {G:GvK} {z z':St} {F:Key->Option EndR} {X:Nat->Prop} {e:EndR}
theorem GvW.le (h:GvW G z F X e) (k:Le z z'):GvW G z' F X e :=
 ⟨h.w.le k,h.ou.le k,SlV.le h.du k,h.ux,h.oq.le k,h.os.le k,h.og.le k,h.oy.le k,h.oo.le k,h.xo,Nat.le_trans h.nz k.y⟩
theorem GvW.only {S:Nat->Prop} (ok:G.Ok) (h:GvW G z F X e) (k:Only S z z') (hS:∀ b,S b->G.n1<=b/\¬ X b):GvW G z' F X e:=by
 obtain ⟨l1,l2,l3,l4,l5,l6,l7,l8⟩:=ok.lt;have no:∀ b,b<G.n1->¬ S b:=fun b hb hs=>by have:=(hS b hs).1;omega
 have f1:=ok.f1;exact ⟨h.w.only k (fun b hs=>by have:=(hS b hs).1;omega) (no _ l7) (no _ l8) (fun b hb hs=>(hS b hs).2 hb),k.rw' h.ou (no _ l1),k.slv' h.du (fun a e hs=>(hS _ hs).2 (h.ux _ ⟨a,e,rfl⟩)),h.ux,k.rw' h.oq (no _ l2),k.rw' h.os (no _ l3),k.rw' h.og (no _ l5),k.rw' h.oy (no _ l6),k.own' h.oo (no _ l4),h.xo,Nat.le_trans h.nz k.y⟩
theorem GvW.best {F':Key->Option EndR} {X':Nat->Prop} (ok:G.Ok) (h:GvW G z F X e) (k:Only (·=G.K.bm) z z') (hw:PlW G.K z' F' X') (h1:∀ b,X b->X' b) (h2:∀ b,X' b->X b\/z.y<=b):GvW G z' F' X' e:=by
 obtain ⟨n1,n2,n3,n4,n5⟩:=ok.nm;obtain ⟨o1,o2,o3,o4,o5,o6,o7⟩:=ok.no;obtain ⟨l1,l2,l3,l4,l5,l6,l7,l8⟩:=ok.lt;have hnz:=h.nz;exact ⟨hw,k.rw' h.ou (fun e=>n1 e.symm),k.slv' h.du (fun a e hs=>(h.w.xb _ (h.ux _ ⟨a,e,rfl⟩)).2 hs),fun b hb=>h1 b (h.ux b hb),k.rw' h.oq (fun e=>n2 e.symm),k.rw' h.os (fun e=>n3 e.symm),k.rw' h.og (fun e=>n4 e.symm),k.rw' h.oy (fun e=>n5 e.symm),k.own' h.oo o7,fun b hb=>by
  rcases h2 b hb with h3 | h3
  ·exact h.xo b h3
  ·omega,Nat.le_trans h.nz k.y⟩
structure GvR (G:GvK) (z:St) (F:Key->Option EndR) (X:Nat->Prop) (e:EndR) (o:Option (List Int × List Int)) (C:zIJ) (z':St) (F':Key->Option EndR) (X':Nat->Prop) (e':EndR) (o':Option (List Int × List Int)):Prop where
 w:GvW G z' F' X' e'
 ep:EndP z' X' e' o'
 bo:xU 6 C o'
 x1:∀ b,X b->X' b
 x2:∀ b,X' b->X b\/z.y<=b
 lo:z'.low<=G.Bo\/z'.low<=G.K.bm\/(F'=F/\X'=X/\e'=e/\o'=o)
def zRE (K:PlK) (r:Nat):Prop:=∀ (z:St) (F:Key->Option EndR) (X:Nat->Prop) (D:Nat) (st:Nat->Std),D+r=K.n->PlW K z F X->(∀ k,k<K.m->StG (st k)) ->
 ∃ z' e o F' X',zD Pg 84 [.pointer (some ⟨K.Bp,0,none⟩),.agg ⟨iV (D:Int)::stL st⟩] z (zDB e) z'/\Only (·=K.bm) z z'/\PlW K z' F' X'/\EndP z' X' e o/\xU 6 (K.ch r D st) o/\(∀ b,X b->X' b)/\(∀ b,X' b->X b\/z.y<=b)/\(z'.low<=K.bm\/(F'=F/\X'=X))
abbrev GvK.give (G:GvK) (l:List Nat) (who:List Int) (st:Nat->Std):zIJ:=zTN G.K.w G.K.leaves G.K.wf G.r G.D l who st
theorem xIE {xs:List Int}:∀ v∈xs.map zY,zCL Pg 3 1 v/\v.cells.toList=[v]:=by
 intro v hv;obtain ⟨x,_,rfl⟩:=List.mem_map.1 hv;exact ⟨vV x,rfl⟩
theorem GvR.low {o:Option (List Int × List Int)} {C:zIJ} {F':Key->Option EndR} {X':Nat->Prop} {e':EndR} {o':Option (List Int × List Int)} {m:Nat} (hm:m<=z'.low) (h:GvR G z F X e o C z' F' X' e' o'):GvR G z F X e o C ⟨z'.heap,z'.y,m⟩ F' X' e' o':=by
 have k:Le z' ⟨z'.heap,z'.y,m⟩:=⟨Nat.le_refl _,fun _ _=>rfl⟩;refine ⟨h.w.le k,h.ep.le k,h.bo,h.x1,h.x2, ?_⟩
 rcases h.lo with h1 | h1 | h1
 ·exact .inl (Nat.le_trans hm h1)
 ·exact .inr (.inl (Nat.le_trans hm h1))
 ·exact .inr (.inr h1)
theorem xEA {b u a v:List Int}:pick (some (b,u)) a v=if vH v u then some (a,v) else some (b,u):=rfl
theorem wAS (ok:G.Ok) {m:Nat} (h:G.n1<=m):yX RD m G.K.wfv=true:=ok.ok.bel m (Nat.le_trans ok.f1 h)
theorem yG.lt {Z:St} {p:Option Addr} {l:Nat} {xs:List Int} (h:yG Z p l xs) (b:Nat) (hb:AtP p b):b<Z.y:=by
 obtain ⟨a,rfl,rfl⟩:=hb;exact (show Row Z a _ from h.1.2).lt
theorem xQP {w:Wk} {leaves:Bool} {wf:Nat->List Int->List Int} (hl:w.duties.length<=12):∀ {r D:Nat} {st:Nat->Std} {c v:List Int},Ch w leaves wf r D st c v->c.length<=12*r
 | 0,_,_,_,_,h=>by rw [h.1];simp
 | r+1,D,st,c,v,h=>by
  obtain ⟨a,b,u,x,h1,h2,h3,h4⟩:=h;have:=(zDH h1).1;have hd:=zDG (w:=w) (D:=D) (j:=w.duties.length);have:=xQP hl h2;rw [h3,List.length_append];omega
theorem zKR {n l c:Nat} {p:Option Addr} {a0 a1 a2 a3 a4 a5:Int} {b:Bool} (h:∀ a,p=some a->a.block<n):yX RD n (.agg ⟨xTS a0 a1 a2 a3 a4 a5 p l c b⟩)=true:=by
 have h1:yX RD n (.slice p l c)=true:=yQ h;cases p with
 | none=>exact yK rfl
 | some a =>
  show (true && (true && (true && (true && (true && (true && (Nat.blt a.block n && (true && true))))))))=true;rw [(wJ _ _).2 (h a rfl)];rfl
theorem GvW.put {pw:Option Addr} {lw cw:Nat} {v:List Int} {who:List Int} (ok:G.Ok) (h:GvW G z F X e) (hv:v.length=6) (hb:Bd 100 v) (hi:yG z pw lw who) (hf:∀ b,AtP pw b->G.n1<=b/\b<z.y) :
  ∃ z',zQ Pg (evL [.pointer (some ⟨G.Bo,0,none⟩),zDB ⟨v,pw,lw,cw,true⟩]) z (.store 130 (.tmp 0) (.tmp 1))=some (undef,z')/\Only (·=G.Bo) z z'/\z'.low<=G.Bo/\z'.low<=z.low/\GvW G z' F (fun b=>X b\/AtP pw b) ⟨v,pw,lw,cw,true⟩/\EndP z' (fun b=>X b\/AtP pw b) ⟨v,pw,lw,cw,true⟩ (some (who,v)):=by
 obtain ⟨l1,l2,l3,l4,l5,l6,l7,l8⟩:=ok.lt;obtain ⟨o1,o2,o3,o4,o5,o6,o7⟩:=ok.no;have f0:=ok.f0;have st:=h.oo.store (P:=Pg) (k:=0) (t:=130) (v:=zDB ⟨v,pw,lw,cw,true⟩) (vs:=zEM ⟨v,pw,lw,cw,true⟩) (ds:=zEM ⟨v,pw,lw,cw,true⟩) rfl uD rfl (by simp) rfl;have k:Only (·=G.Bo) z (z.own G.Bo (zEM ⟨v,pw,lw,cw,true⟩) 8):=Only.own (.inr rfl);have w':=h.w.only k (fun b e=>by subst e;exact f0) (fun e=>o6 e.symm) (fun e=>o7 e.symm) h.xo;have hk:=k.slv' hi (fun a ea e=>by have:=(hf _ ⟨a,ea,rfl⟩).1;omega);have w8:PlW G.K (z.own G.Bo (zEM ⟨v,pw,lw,cw,true⟩) 8) F (fun b=>X b\/AtP pw b):=w'.mono (fun b hb=>.inl hb) (fun b hb=>by
  rcases hb with hb | hb
  ·exact w'.xb b hb
  ·have h1:=hf b hb;exact ⟨h1.2,by omega⟩)
 refine ⟨_,st,k,by simp [St.own];omega,by simp [St.own];omega,⟨w8,k.rw' h.ou (fun e=>o1 e.symm),k.slv' h.du (fun a e hs=>h.xo _ (h.ux _ ⟨a,e,rfl⟩) hs),fun b hb=>.inl (h.ux b hb),k.rw' h.oq (fun e=>o2 e.symm),k.rw' h.os (fun e=>o3 e.symm),k.rw' h.og (fun e=>o4 e.symm),k.rw' h.oy (fun e=>o5 e.symm),h.oo.put,fun b hb=>?_,h.nz⟩,⟨hv,hb,fun b hb=>.inr hb,rfl,rfl,hk⟩⟩
 rcases hb with hb | hb
 ·exact h.xo b hb
 ·have:=(hf b hb).1;omega
theorem yPJ (ok:G.Ok) (hb:zRE G.K G.r) {F:Key->Option EndR} {X:Nat->Prop} {e:EndR} {o:Option (List Int × List Int)} {C:zIJ} {who:List Int} {pl:Option Addr} {lc:Nat} {sf:List (Nat × Nat)} {st:Nat->Std}
  (W:GvW G z F X e) (ep:EndP z X e o) (bo:xU 6 C o) (hC:∀ a v,C a v->v.length=6) (S:Stk z G.n1 pl who.length lc (who.map zY) sf) (hX:∀ b,AtP pl b->¬ X b) (hw:who.length=G.du.length) (hst:∀ k,k<G.K.m->StG (st k)) :
  ∃ z',zD Pg 100 (.slice pl who.length lc::.agg ⟨stL st⟩::G.args) z (.tuple ⟨[]⟩) z'/\Only (fun b=>b=G.K.bm\/b=G.Bo) z z'/\∃ F' X' e' o',GvR G z F X e o (fun c v=>C c v\/G.give [] who st c v) z' F' X' e' o':=by
 suffices hmain:zP Pg 100 (.slice pl who.length lc::.agg ⟨stL st⟩::G.args) z.re fun v s=>Only (fun b=>b=G.K.bm\/b=G.Bo) z.re s/\(s.low<z.y\/zW RD v=false\/(v=.tuple ⟨[]⟩/\∃ F' X' e' o',GvR G z F X e o (fun c v=>C c v\/G.give [] who st c v) z F' X' e' o'))/\(v=.tuple ⟨[]⟩/\∃ F' X' e' o',GvR G z F X e o (fun c v=>C c v\/G.give [] who st c v) s F' X' e' o') by
  obtain ⟨v,s,h1,h2,rfl,h3⟩:=xXK (Q:=fun v s=>v=.tuple ⟨[]⟩/\∃ F' X' e' o',GvR G z F X e o (fun c v=>C c v\/G.give [] who st c v) s F' X' e' o') hmain (by
   rintro v s m hm ⟨h1,F',X',e',o',h2⟩;exact ⟨h1,F',X',e',o',h2.low hm⟩)
  exact ⟨s,h1,h2,h3⟩
 have zr:z.re.y=z.y:=rfl;have n7:=ok.ok.n7;have dr:=ok.dr;have hD:G.D<=6:=by omega
 obtain ⟨l1,l2,l3,l4,l5,l6,l7,l8⟩:=ok.lt;have hnz:=W.nz;have hl12:who.length<=12:=by
  have h1:=zDG (w:=G.K.w) (D:=G.D) (j:=G.K.l);have h2:=ok.ok.sn.l12;have h3:who.length=(yF G.K.w G.D G.K.l).length:=hw;omega
 have hAt:∀ b,AtP pl b->G.n1<=b/\b<z.y:=fun b hb=>S.bd b hb
 obtain ⟨τ1,hτ1⟩:∃ τ1,τ1=z.re.row (stL st) 4:=⟨_,rfl⟩;have N1:New z.re τ1:=by rw [hτ1];exact New.row _ _ _
 have nx1:τ1.y=z.y+1:=by rw [hτ1];rfl
 have oN1:Own τ1 z.y (stL st) 4:=by rw [hτ1];exact zC _ _ _
 have L1:Le z τ1:=(le0 z).trans N1.le;have W1:=W.le L1;have S1:=S.le L1;have c5:=xXF (D:=G.D) (st:=st) W1.w.pr ok.ok.wk.len.2 ok.ok.sn.m6 (by omega) ok.ok.sn.rest;obtain ⟨z2,e2,o2,F2,X2,c6,k2,w2,ep2,bo2,x21,x22,lo2⟩:=hb τ1 F X (G.D+1) (zCG G.K.w G.D st) (by omega) W1.w (fun k hk=>by
  unfold zCG;split
  ·exact (hst k hk).past hD ok.ok.sn.rest
  ·exact hst k hk)
 rw [show ((G.D+1:Nat):Int)=(G.D:Int)+1 by omega] at c6;have W2:=W1.best ok k2 w2 x21 x22;have nx2:=k2.y;have hlow2:=zEF c6;have S2:Stk z2 G.n1 pl who.length lc (who.map zY) sf:=S1.only k2 (fun b hb e=>by have:=(hAt b hb).1;omega);have oN2:=k2.own' oN1 (show ¬ z.y=G.K.bm by omega);have EP2:EndP z2 X2 e o:=((ep.le L1).only k2 (fun b hb=>(W1.w.xb b hb).2)).mono x21;obtain ⟨τ3,hτ3⟩:∃ τ3,τ3=(z2.row (xTS 0 0 0 0 0 0 none 0 0 false) 8).own z2.y (zEM e2) 8:=⟨_,rfl⟩;have N3:New z2 τ3:=by rw [hτ3];exact (New.row _ _ _).own (Nat.le_refl _)
 have nx3:τ3.y=z2.y+1:=by rw [hτ3];rfl
 have oR3:Own τ3 z2.y (zEM e2) 8:=by rw [hτ3];exact (zC _ _ _).put
 have W3:=W2.le N3.le;have S3:=S2.le N3.le;have c19:=ok.ok.wfc τ3 W3.w.fl G.D pl who.length lc who (S3.slv xIE) hl12;have wvl:=ok.ok.wfl G.D who;have wvb:=ok.ok.wfb G.D who hl12;have gl:=xGC (w:=G.K.w) (leaves:=G.K.leaves) (wf:=G.K.wf) (r:=G.r) (D:=G.D) (who:=who) (st:=st) ok.ok.wfl bo2 bo hC;have c20:=xXA (Z:=τ3) ep2.len wvl (ep2.bd.mono (by decide)) (wvb.mono (by decide));have hpl:(uB e2.v (G.K.wf G.D who)).length=6:=by rw [zLF (by rw [ep2.len,wvl]),ep2.len]
 have hpb:∀ b u,o2=some (b,u)->Bd 100 (uB e2.v (G.K.wf G.D who)):=by
  rintro b u rfl;have ht:_/\_/\_:=ep2.tell;have h1:=xWB ok.ok.wfb ok.ok.dl bo2.1;rw [<- ht.2.1] at h1;exact (h1.plus wvb).mono (by omega)
 obtain ⟨pv,hpv⟩:∃ pv,pv=uB e2.v (G.K.wf G.D who):=⟨_,rfl⟩;rw [<- hpv] at c20 hpl hpb;rw [zGO] at c19;rw [zGO,zGO,zGO] at c20;obtain ⟨τ5,hτ5⟩:∃ τ5,τ5=(τ3.row (zK 0 0 0 0 0 0) 1).own τ3.y (zK (pv.getD 0 0) (pv.getD 1 0) (pv.getD 2 0) (pv.getD 3 0) (pv.getD 4 0) (pv.getD 5 0)) 1:=⟨_,rfl⟩;have N5:New τ3 τ5:=by rw [hτ5];exact (New.row _ _ _).own (Nat.le_refl _)
 have nx5:τ5.y=τ3.y+1:=by rw [hτ5];rfl
 have oM5:Own τ5 τ3.y (six pv) 1:=by rw [hτ5];exact (zC _ _ _).put
 have W5:=W3.le N5.le;have S5:=S3.le N5.le;have oR5:=oR3.le N5.le;have EP5:=(EP2.le N3.le).le N5.le;have hlow5:τ5.low<=z2.low:=by rw [hτ5,hτ3];simp [St.own];omega
 have k5:Only (fun b=>b=G.K.bm\/b=G.Bo) z.re τ5:=((N1.only.trans' k2 (fun b _ e=>.inl (.inl e))).trans' N3.only (S:=fun b=>b=G.K.bm\/b=G.Bo) (T:=fun _=>False) (fun b _ h=>h.elim)).trans' N5.only (T:=fun _=>False) (fun b _ h=>h.elim);have lq:∀ u,Row u ⟨G.Bq,0,none⟩ [.pointer (some ⟨G.K.Bp,0,none⟩)]->zB Pg u 125 ⟨G.Bq,0,none⟩=some (.pointer (some ⟨G.K.Bp,0,none⟩)):=fun u o=>o.ld uV rfl
 have ls:∀ u,Row u ⟨G.Bs,0,none⟩ (iV (G.D:Int)::stL G.st0)->zB Pg u 3 ⟨G.Bs,0,none⟩=some (iV (G.D:Int)):=fun u o=>o.ld zU rfl
 have l7':∀ u,Row u ⟨G.K.Bp,0,none⟩ G.K.row->zB Pg u 99 (zJ ⟨G.K.Bp,0,none⟩ 7)=some G.K.wfv:=fun u o=>o.load1 wAF rfl
 have lv:∀ (u:St) (b:Nat) (e:EndR),Own u b (zEM e) 8->zB Pg u 98 ⟨b,0,none⟩=some (.agg ⟨zK (e.v.getD 0 0) (e.v.getD 1 0) (e.v.getD 2 0) (e.v.getD 3 0) (e.v.getD 4 0) (e.v.getD 5 0)⟩):=fun u b e o=>o.rw.ldN zCT wQ (k:=0) rfl rfl (nle rfl)
 have gw:=ok.ok.good;have ld1:zB Pg τ1 26 ⟨G.Bu,0,none⟩=some (.slice G.pu G.du.length G.cu):=W1.ou.ld yV rfl;have hb7:∀ m,G.n1<=m->zH m [.pointer (some ⟨G.K.Bp,0,none⟩),iV (G.D:Int),.agg ⟨stL st⟩]:=fun m hm=>zE (zO (by show G.K.Bp<m;omega)) (zE rfl (zE (yK rfl) zI))
 have hb8:∀ m (f:Nat->Std),G.n1<=m->zH m [.pointer (some ⟨G.K.Bp,0,none⟩),.agg ⟨iV ((G.D:Int)+1)::stL f⟩]:=fun m f hm=>zE (zO (by show G.K.Bp<m;omega)) (zE (yK rfl) zI)
 obtain ⟨τ2,hτ2⟩:∃ τ2,τ2=z2.row (xTS 0 0 0 0 0 0 none 0 0 false) 8:=⟨_,rfl⟩;have nx2':τ2.y=z2.y+1:=by rw [hτ2];rfl
 have N2':New z2 τ2:=by rw [hτ2];exact New.row _ _ _
 have oN2':=oN2.le N2'.le;have oN3:=oN2.le N3.le;obtain ⟨τ4,hτ4⟩:∃ τ4,τ4=τ3.row (zK 0 0 0 0 0 0) 1:=⟨_,rfl⟩;have nx4:τ4.y=τ3.y+1:=by rw [hτ4];rfl
 have N4:New τ3 τ4:=by rw [hτ4];exact New.row _ _ _
 have oR4:=oR3.le N4.le;have W2':=W2.le N2'.le;have W4:=W3.le N4.le;have h1:=ld1;have h2:=lq τ1 W1.oq;have h3:=ls τ1 W1.os;have h4:=uL oN1;have h7:=hb7 τ1.y (by omega);have h8:=hb8 τ1.y (zCG G.K.w G.D st) (by omega);have h9:zH τ2.y [.pointer (some ⟨z2.y,0,none⟩),.agg ⟨zEM e2⟩]:=(zE (zO (show z2.y<τ2.y by omega)) (zE (zKR fun a e=>(show a.block<τ2.y by have:=(w2.xb a.block (ep2.bl a.block ⟨a,e,rfl⟩)).1;omega)) zI));have h10:=(⟨⟨show G.Bq<z2.y by omega,rfl⟩,lq z2 W2.oq⟩:(G.Bq<z2.y/\zM RD (.pointer (some ⟨G.K.Bp,0,none⟩))=true)/\_);have h11:=(⟨⟨show G.Bq<τ2.y by omega,rfl⟩,lq τ2 W2'.oq⟩:(G.Bq<τ2.y/\zM RD (.pointer (some ⟨G.K.Bp,0,none⟩))=true)/\_);have h12:=(⟨⟨show G.Bs<z2.y by omega,rfl⟩,ls z2 W2.os⟩:(G.Bs<z2.y/\zM RD (iV (G.D:Int))=true)/\_);have h13:=(⟨⟨show G.Bs<τ2.y by omega,rfl⟩,ls τ2 W2'.os⟩:(G.Bs<τ2.y/\zM RD (iV (G.D:Int))=true)/\_);have h14:=(⟨⟨show z.y<z2.y by omega,rfl⟩,uL oN2⟩:(z.y<z2.y/\zM RD (.agg ⟨stL st⟩)=true)/\_);have h15:=(⟨⟨show z.y<τ2.y by omega,rfl⟩,uL oN2'⟩:(z.y<τ2.y/\zM RD (.agg ⟨stL st⟩)=true)/\_);have h16:=lq τ3 W3.oq;have h17:=l7' τ3 W3.w.pr;have h18:=ls τ3 W3.os;have h21:zH τ3.y [.pointer (some ⟨z2.y,0,none⟩)]:=(zE (zO (show z2.y<τ3.y by omega)) zI);have h22:zH τ3.y [.pointer (some ⟨G.Bq,0,none⟩)]:=(zE (zO (show G.Bq<τ3.y by omega)) zI);have h23:zH τ3.y [.pointer (some (zJ ⟨G.K.Bp,0,none⟩ 7))]:=(zE (zO (show G.K.Bp<τ3.y by omega)) zI);have h24:zH τ3.y [.pointer (some ⟨G.Bs,0,none⟩)]:=(zE (zO (show G.Bs<τ3.y by omega)) zI);have h25:zH τ3.y [G.K.wfv,iV (G.D:Int),.slice pl who.length lc]:=(zE (wAS ok (by omega)) (zE rfl (zE (yQ fun a e=>(show a.block<τ3.y by have:=(S3.bd a.block ⟨a,e,rfl⟩).2;omega)) zI)));have h26:zH τ4.y [.pointer (some ⟨τ3.y,0,none⟩),.agg ⟨zK (pv.getD 0 0) (pv.getD 1 0) (pv.getD 2 0) (pv.getD 3 0) (pv.getD 4 0) (pv.getD 5 0)⟩]:=(zE (zO (show τ3.y<τ4.y by omega)) (zE (yK rfl) zI));have h27:=(⟨⟨show z2.y<τ3.y by omega,rfl⟩,lv τ3 z2.y e2 oR3⟩:(z2.y<τ3.y/\zM RD (.agg ⟨zK (e2.v.getD 0 0) (e2.v.getD 1 0) (e2.v.getD 2 0) (e2.v.getD 3 0) (e2.v.getD 4 0) (e2.v.getD 5 0)⟩)=true)/\_);have h28:=h27;have h29:=(⟨⟨show z2.y<τ4.y by omega,rfl⟩,lv τ4 z2.y e2 oR4⟩:(z2.y<τ4.y/\zM RD (.agg ⟨zK (e2.v.getD 0 0) (e2.v.getD 1 0) (e2.v.getD 2 0) (e2.v.getD 3 0) (e2.v.getD 4 0) (e2.v.getD 5 0)⟩)=true)/\_);have h30:=(⟨⟨show G.Bq<τ3.y by omega,rfl⟩,lq τ3 W3.oq⟩:(G.Bq<τ3.y/\zM RD (.pointer (some ⟨G.K.Bp,0,none⟩))=true)/\_);have h31:=(⟨⟨show G.Bq<τ4.y by omega,rfl⟩,lq τ4 W4.oq⟩:(G.Bq<τ4.y/\zM RD (.pointer (some ⟨G.K.Bp,0,none⟩))=true)/\_);have h32:=(⟨⟨show G.K.Bp<τ3.y by omega,gw⟩,l7' τ3 W3.w.pr⟩:((zJ ⟨G.K.Bp,0,none⟩ 7).block<τ3.y/\zM RD G.K.wfv=true)/\_);have h33:=(⟨⟨show G.K.Bp<τ4.y by omega,gw⟩,l7' τ4 W4.w.pr⟩:((zJ ⟨G.K.Bp,0,none⟩ 7).block<τ4.y/\zM RD G.K.wfv=true)/\_);have h34:=(⟨⟨show G.Bs<τ3.y by omega,rfl⟩,ls τ3 W3.os⟩:(G.Bs<τ3.y/\zM RD (iV (G.D:Int))=true)/\_);have h35:=(⟨⟨show G.Bs<τ4.y by omega,rfl⟩,ls τ4 W4.os⟩:(G.Bs<τ4.y/\zM RD (iV (G.D:Int))=true)/\_);have h36:zB Pg τ5 4 ⟨z2.y,7,none⟩=some (.bool e2.can):=oR5.rw.ld xHU rfl;have h37:zB Pg τ5 4 (zJ ⟨G.Bo,0,none⟩ 7)=some (.bool e.can):=W5.oo.rw.load1 xHU rfl;have h38:=lv τ5 G.Bo e W5.oo;have h40:zB Pg τ5 26 ⟨z2.y,6,none⟩=some (.slice e2.p e2.l e2.c):=oR5.rw.ld yV rfl;have u2:I6 ((G.D:Int)+1):=⟨by omega,by omega⟩;have b1:G.Bq<z.re.y:=by show G.Bq<z.y;omega
 have b2:G.Bs<z.re.y:=by show G.Bs<z.y;omega
 have keep:xU 6 (fun c v=>C c v\/G.give [] who st c v) o->(Only (fun b=>b=G.K.bm\/b=G.Bo) z.re τ5/\(τ5.low<z.y\/zW RD (.tuple ⟨[]⟩)=false\/((.tuple ⟨[]⟩:Value)=.tuple ⟨[]⟩/\∃ F' X' e' o',GvR G z F X e o (fun c v=>C c v\/G.give [] who st c v) z F' X' e' o'))/\((.tuple ⟨[]⟩:Value)=.tuple ⟨[]⟩/\∃ F' X' e' o',GvR G z F X e o (fun c v=>C c v\/G.give [] who st c v) τ5 F' X' e' o')):=fun hbo=>by
  refine ⟨k5, ?_,rfl,F2,X2,e,o,W5,EP5,hbo,x21,fun b hb=>?_, ?_⟩
  ·rcases lo2 with h | ⟨rfl,rfl⟩
   ·exact .inl (by omega)
   ·exact .inr (.inr ⟨rfl,F2,X2,e,o,W,ep,hbo,fun _ h=>h,fun _ h=>.inl h,.inr (.inr ⟨rfl,rfl,rfl,rfl⟩)⟩)
  ·rcases x22 b hb with h | h
   ·exact .inl h
   ·exact .inr (by omega)
  ·rcases lo2 with h | ⟨rfl,rfl⟩
   ·exact .inr (.inl (by omega))
   ·exact .inr (.inr ⟨rfl,rfl,rfl,rfl⟩)
 cases hc2:e2.can with
 | false =>
  rw [hc2] at h36;have hn:o2=none:=by
   cases o2 with
   | none=>rfl
   | some q=>have ht:=ep2.tell;simp only [hc2] at ht;exact absurd ht.1 (by decide)
  subst hn;have nx:=keep gl;subst hτ5 hτ4 hτ3 hτ2 hτ1;exact xPC ⟨h1,h2,h3,h4,c5,c6,h7,h8,h9,h10,h11,h12,h13,h14,h15,h16,h17,h18,c19,c20,h21,h22,h23,h24,h25,h26,h27,h28,h29,h30,h31,h32,h33,h34,h35⟩ h36 nx (by rw [hw]) u2 b1 b2
 | true =>
 rw [hc2] at h36;obtain ⟨b,u,rfl⟩:∃ b u,o2=some (b,u):=by
  cases o2 with
  | none=>have ht:e2.can=false:=ep2.tell;rw [hc2] at ht;cases ht
  | some q=>exact ⟨q.1,q.2,rfl⟩
 have ht:e2.can=true/\e2.v=u/\yG z2 e2.p e2.l b:=ep2.tell;have hev:=ht.2.1;subst hev;have gl:xU 6 (fun c v=>C c v\/G.give [] who st c v) (pick o (who++b) pv):=by rw [hpv];exact gl
 obtain ⟨τ6,hτ6⟩:∃ τ6,τ6=τ5.row [.slice pl who.length lc,.slice e2.p e2.l e2.c] 1:=⟨_,rfl⟩;have nx6:τ6.y=τ5.y+1:=by rw [hτ6];rfl
 have N6:New τ5 τ6:=by rw [hτ6];exact New.row _ _ _
 have ib:yG τ6 e2.p e2.l b:=SlV.le (SlV.le ht.2.2 N3.le) (N5.le.trans N6.le);have lb:e2.l=b.length:=ib.len.symm;have rw6:zRB τ6 (some ⟨τ5.y,0,none⟩) 2 [who,b]:=by
  have r6:Row τ6 ⟨τ5.y,0,none⟩ [.slice pl who.length lc,.slice e2.p e2.l e2.c]:=by rw [hτ6];exact xP _ _ _
  refine ⟨[.slice pl who.length lc,.slice e2.p e2.l e2.c],⟨⟨rfl,r6⟩,rfl,fun v hv=>?_⟩,rfl,fun i r hi=>?_⟩
  ·rcases List.mem_cons.1 hv with rfl | hv
   ·exact .inl ⟨yV,rfl,rfl⟩
   ·rw [List.mem_singleton.1 hv];exact .inl ⟨yV,rfl,rfl⟩
  ·match i,hi with
   | 0,hi=>cases hi;exact ⟨pl,lc,rfl,(S5.le N6.le).slv xIE⟩
   | 1,hi=>cases hi;exact ⟨e2.p,e2.c,by rw [<- lb];rfl,by rw [<- lb];exact ib⟩
 have hflat:[who,b].flatten=who++b:=by simp
 have hb7l:(who++b).length<=1073741824:=by
  have:=xQP ok.ok.dl bo2.1;rw [List.length_append];omega
 obtain ⟨p7,c7,τ7,k7,N7,I7,f7⟩:=xTU (c:=2) rw6 (by decide) (by rw [hflat];exact hb7l);rw [hflat] at k7 I7;have W7:=(W5.le N6.le).le N7.le;have nx7:=N7.nx;obtain ⟨τ8,st8,k8,lo8,lo8',W8,EP8⟩:=W7.put (cw:=c7) ok hpl (hpb b _ rfl) I7 (fun x hx=>⟨by have:=f7 x hx;omega,I7.lt x hx⟩);have low75:τ7.low<=τ5.low:=by
  have h1:=zEF k7;have h2:τ6.low=τ5.low:=by rw [hτ6];rfl
  omega
 have store:xU 6 (fun c v=>C c v\/G.give [] who st c v) (some (who++b,pv))->(Only (fun b=>b=G.K.bm\/b=G.Bo) z.re τ8/\(τ8.low<z.y\/zW RD (.tuple ⟨[]⟩)=false\/((.tuple ⟨[]⟩:Value)=.tuple ⟨[]⟩/\∃ F' X' e' o',GvR G z F X e o (fun c v=>C c v\/G.give [] who st c v) z F' X' e' o'))/\((.tuple ⟨[]⟩:Value)=.tuple ⟨[]⟩/\∃ F' X' e' o',GvR G z F X e o (fun c v=>C c v\/G.give [] who st c v) τ8 F' X' e' o')):=fun hbo=>by
  refine ⟨((k5.trans' N6.only (T:=fun _=>False) (fun b _ h=>h.elim)).trans' N7.only (T:=fun _=>False) (fun b _ h=>h.elim)).trans' k8 (fun b _ h=>.inl (.inr h)),.inl (by omega),rfl,F2,_,_,_,W8,EP8,hbo,fun b hb=>.inl (x21 b hb),fun b hb=>?_,.inl lo8⟩
  rcases hb with hb | hb
  ·rcases x22 b hb with h | h
   ·exact .inl h
   ·exact .inr (by omega)
  ·exact .inr (by have:=f7 b hb;omega)
 have m5:zH τ5.y [.pointer (some ⟨τ3.y,0,none⟩)]:=(zE (zO (show τ3.y<τ5.y by omega)) zI);have m6:zH τ5.y [.pointer (some ⟨z2.y,6,none⟩)]:=(zE (zO (show z2.y<τ5.y by omega)) zI);have m7:zH τ5.y [.slice pl who.length lc,.slice e2.p e2.l e2.c]:=(zE (yQ fun a e=>(show a.block<τ5.y by have:=(S5.bd a.block ⟨a,e,rfl⟩).2;omega)) (zE (yQ fun a e=>(show a.block<τ5.y by have:=(w2.xb a.block (ep2.bl a.block ⟨a,e,rfl⟩)).1;omega)) zI));have m8:zH τ6.y [.slice (some ⟨τ5.y,0,none⟩) 2 2]:=(zE (yQ fun a e=>by cases e;show τ5.y<τ6.y;omega) zI);have m9:zH τ7.y [.pointer (some ⟨G.Bo,0,none⟩),zDB ⟨pv,p7,(who++b).length,c7,true⟩]:=(zE (zO (show G.Bo<τ7.y by omega)) (zE (zKR fun a e=>I7.lt a.block ⟨a,e,rfl⟩) zI));have oM6:=oM5.le N6.le;have oM7:=oM6.le N7.le;have q5:=(⟨⟨show τ3.y<τ5.y by omega,rfl⟩,oM5.rw.ldN zCT wQ (k:=0) rfl rfl (nle rfl)⟩:(τ3.y<τ5.y/\zM RD (.agg ⟨zK (pv.getD 0 0) (pv.getD 1 0) (pv.getD 2 0) (pv.getD 3 0) (pv.getD 4 0) (pv.getD 5 0)⟩)=true)/\zB Pg τ5 98 ⟨τ3.y,0,none⟩=some (.agg ⟨zK (pv.getD 0 0) (pv.getD 1 0) (pv.getD 2 0) (pv.getD 3 0) (pv.getD 4 0) (pv.getD 5 0)⟩));have q6:=(⟨⟨show τ3.y<τ6.y by omega,rfl⟩,oM6.rw.ldN zCT wQ (k:=0) rfl rfl (nle rfl)⟩:(τ3.y<τ6.y/\zM RD (.agg ⟨zK (pv.getD 0 0) (pv.getD 1 0) (pv.getD 2 0) (pv.getD 3 0) (pv.getD 4 0) (pv.getD 5 0)⟩)=true)/\zB Pg τ6 98 ⟨τ3.y,0,none⟩=some (.agg ⟨zK (pv.getD 0 0) (pv.getD 1 0) (pv.getD 2 0) (pv.getD 3 0) (pv.getD 4 0) (pv.getD 5 0)⟩));have q7:=(⟨⟨show τ3.y<τ7.y by omega,rfl⟩,oM7.rw.ldN zCT wQ (k:=0) rfl rfl (nle rfl)⟩:(τ3.y<τ7.y/\zM RD (.agg ⟨zK (pv.getD 0 0) (pv.getD 1 0) (pv.getD 2 0) (pv.getD 3 0) (pv.getD 4 0) (pv.getD 5 0)⟩)=true)/\zB Pg τ7 98 ⟨τ3.y,0,none⟩=some (.agg ⟨zK (pv.getD 0 0) (pv.getD 1 0) (pv.getD 2 0) (pv.getD 3 0) (pv.getD 4 0) (pv.getD 5 0)⟩));cases hc:e.can with
 | false =>
  rw [hc] at h37;have hn:o=none:=by
   cases o with
   | none=>rfl
   | some q=>have ht:=ep.tell;simp only [hc] at ht;exact absurd ht.1 (by decide)
  subst hn;have nx:=store gl;subst hτ6 hτ5 hτ4 hτ3 hτ2 hτ1;exact xPD ⟨h1,h2,h3,h4,c5,c6,h7,h8,h9,h10,h11,h12,h13,h14,h15,h16,h17,h18,c19,c20,h21,h22,h23,h24,h25,h26,h27,h28,h29,h30,h31,h32,h33,h34,h35⟩ h36 h37 h40 k7 st8 m5 m6 m7 m8 m9 q5 q6 q7 nx (by rw [hw]) u2 b1 b2
 | true =>
  rw [hc] at h37;obtain ⟨b',u',rfl⟩:∃ b u,o=some (b,u):=by
   cases o with
   | none=>have ht:e.can=false:=ep.tell;rw [hc] at ht;cases ht
   | some q=>exact ⟨q.1,q.2,rfl⟩
  have ht':e.can=true/\e.v=u'/\yG z e.p e.l b':=ep.tell;have hev:=ht'.2.1;subst hev;have c39:=xXN (Z:=τ5) hpl ep.len;rw [zGO,zGO] at c39;rw [xEA] at gl;cases hm:vH pv e.v with
  | false =>
   rw [hm] at gl c39;have nx:=keep gl;subst hτ5 hτ4 hτ3 hτ2 hτ1;exact xPE ⟨h1,h2,h3,h4,c5,c6,h7,h8,h9,h10,h11,h12,h13,h14,h15,h16,h17,h18,c19,c20,h21,h22,h23,h24,h25,h26,h27,h28,h29,h30,h31,h32,h33,h34,h35⟩ h36 h37 h38 c39 nx (by rw [hw]) u2 b1 b2
  | true =>
   rw [hm] at gl c39;have nx:=store gl;subst hτ6 hτ5 hτ4 hτ3 hτ2 hτ1;exact xPF ⟨h1,h2,h3,h4,c5,c6,h7,h8,h9,h10,h11,h12,h13,h14,h15,h16,h17,h18,c19,c20,h21,h22,h23,h24,h25,h26,h27,h28,h29,h30,h31,h32,h33,h34,h35⟩ h36 h37 h38 c39 h40 k7 st8 m5 m6 m7 m8 m9 q5 q6 q7 nx (by rw [hw]) u2 b1 b2
end
abbrev yRR:=Option (List Int × List Int)
section
variable {G:GvK} {z y y':St} {F F' F2:Key->Option EndR} {X X' X2:Nat->Prop} {e e' e2:EndR} {o o' o2:yRR} {C C':zIJ}
theorem GvR.self (W:GvW G z F X e) (ep:EndP z X e o) (bo:xU 6 C o):GvR G z F X e o C z F X e o:=⟨W,ep,bo,fun _ h=>h,fun _ h=>.inl h,.inr (.inr ⟨rfl,rfl,rfl,rfl⟩)⟩
theorem GvR.iff (h:GvR G z F X e o C y F' X' e' o') (k:∀ a v,C a v↔C' a v):GvR G z F X e o C' y F' X' e' o':=⟨h.w,h.ep,h.bo.iff k,h.x1,h.x2,h.lo⟩
theorem GvR.step {S:Nat->Prop} (ok:G.Ok) (h:GvR G z F X e o C y F' X' e' o') (k:Only S y y') (hS:∀ b,S b->G.n1<=b/\¬ X' b) (hl:y'.low<=y.low):GvR G z F X e o C y' F' X' e' o':=by
 refine ⟨h.w.only ok k hS,h.ep.only k fun b hb hs=>(hS b hs).2 hb,h.bo,h.x1,h.x2, ?_⟩
 rcases h.lo with g | g | g
 ·exact .inl (Nat.le_trans hl g)
 ·exact .inr (.inl (Nat.le_trans hl g))
 ·exact .inr (.inr g)
theorem GvR.new (ok:G.Ok) (h:GvR G z F X e o C y F' X' e' o') (k:New y y') (hl:y'.low<=y.low):GvR G z F X e o C y' F' X' e' o':=h.step (S:=fun _=>False) ok k.only (fun _ h=>h.elim) hl
theorem GvR.trans (h:GvR G z F X e o C y F' X' e' o') (k:GvR G y F' X' e' o' C' y' F2 X2 e2 o2) (hn:z.y<=y.y) (hl:y'.low<=y.low):GvR G z F X e o C' y' F2 X2 e2 o2:=by
 refine ⟨k.w,k.ep,k.bo,fun b hb=>k.x1 b (h.x1 b hb),fun b hb=>?_, ?_⟩
 ·rcases k.x2 b hb with g | g
  ·exact h.x2 b g
  ·exact .inr (Nat.le_trans hn g)
 ·rcases k.lo with g | g | ⟨rfl,rfl,rfl,rfl⟩
  ·exact .inl g
  ·exact .inr (.inl g)
  ·rcases h.lo with g | g | g
   ·exact .inl (Nat.le_trans hl g)
   ·exact .inr (.inl (Nat.le_trans hl g))
   ·exact .inr (.inr g)
end
def zNE (G:GvK) (z:St) (F:Key->Option EndR) (X:Nat->Prop) (e:EndR) (o:yRR) (C:zIJ) (pl:Option Addr) (lc:Nat) (who:List Int) (sf:List (Nat × Nat)) (s:St):Prop:=∃ F' X' e' o',GvR G z F X e o C s F' X' e' o'/\Stk s G.n1 pl who.length lc (who.map zY) sf
abbrev zND (G:GvK) (pl:Option Addr):Nat->Prop:=fun b=>b=G.K.bm\/b=G.Bo\/AtP pl b
def yRQ (G:GvK) (rest:List Nat):Prop:=∀ {z:St} {F:Key->Option EndR} {X:Nat->Prop} {e:EndR} {o:yRR} {C:zIJ} {who:List Int} {pl:Option Addr} {lc:Nat} {sf:List (Nat × Nat)} {st:Nat->Std},
 GvW G z F X e->EndP z X e o->xU 6 C o->(∀ a v,C a v->v.length=6)->Stk z G.n1 pl who.length lc (who.map zY) sf->(∀ b,AtP pl b->¬ X b)->(∃ pre,G.du=pre++rest/\pre.length=who.length)->(∀ k,k<G.K.m->StG (st k)) ->
 ∃ z',zD Pg 100 (.slice pl who.length lc::.agg ⟨stL st⟩::G.args) z (.tuple ⟨[]⟩) z'/\Only (zND G pl) z z'/\zNE G z F X e o (fun c v=>C c v\/G.give rest who st c v) pl lc who sf z'
section
variable {G:GvK}
theorem xNT (ok:G.Ok) (hb:zRE G.K G.r):yRQ G []:=by
 intro z F X e o C who pl lc sf st W ep bo hC S hX hd hst;obtain ⟨pre,h1,h2⟩:=hd;have hw:who.length=G.du.length:=by rw [h1];simp [h2]
 obtain ⟨l1,l2,l3,l4,l5,l6,l7,l8⟩:=ok.lt;obtain ⟨z',c,k,F',X',e',o',r⟩:=yPJ ok hb W ep bo hC S hX hw hst;exact ⟨z',c,k.mono (fun b _ h=>by rcases h with h | h;exact .inl h;exact .inr (.inl h)),F',X',e',o',r,S.only k (fun b hb h=>by have:=(S.bd b hb).1;omega)⟩
theorem yRA (ok:G.Ok) {m:Nat} (h:G.n1<=m):yX RD m (.func (.func 100) ⟨[]⟩ ⟨G.args⟩)=true:=by
 obtain ⟨l1,l2,l3,l4,l5,l6,l7,l8⟩:=ok.lt;show ((true && true) && (Nat.blt G.Bu m && (Nat.blt G.Bq m && (Nat.blt G.Bs m && (Nat.blt G.Bo m && (Nat.blt G.Bg m && (Nat.blt G.By m && true)))))))=true;rw [(wJ _ _).2 (by omega:G.Bu<m),(wJ _ _).2 (by omega:G.Bq<m),(wJ _ _).2 (by omega:G.Bs<m),(wJ _ _).2 (by omega:G.Bo<m),(wJ _ _).2 (by omega:G.Bg<m),(wJ _ _).2 (by omega:G.By<m)];rfl
theorem xUQ (ok:G.Ok) {m:Nat} (h:G.n1<=m):yX RD m (.func (.func 99) ⟨[.pointer (some ⟨G.K.Bp,0,none⟩)]⟩ ⟨[]⟩)=true:=by
 obtain ⟨l1,l2,l3,l4,l5,l6,l7,l8⟩:=ok.lt;show ((Nat.blt G.K.Bp m && true) && true)=true;rw [(wJ _ _).2 (by omega:G.K.Bp<m)];rfl
theorem yAH (ok:G.Ok) {i:Nat} {rest:List Nat} (ih:yRQ G rest) {z y:St} {F F':Key->Option EndR} {X X':Nat->Prop} {e e':EndR} {o o':yRR} {C:zIJ} {who:List Int} {pl:Option Addr} {lc:Nat} {sf:List (Nat × Nat)} {st:Nat->Std} {x:Int}
  (R:GvR G z F X e o C y F' X' e' o') (hC:∀ a v,C a v->v.length=6) (S:Stk y G.n1 pl who.length lc (who.map zY) sf) (hX:∀ b,AtP pl b->¬ X b) (hz:∀ b,AtP pl b->b<z.y) (hzy:z.y<=y.y) (hd:∃ pre,G.du=pre++i::rest/\pre.length=who.length) (hst:∀ k,k<G.K.m->StG (st k)) :
  ∃ p' c' y4 y5,yC Pg 26 26 (.slice pl who.length lc) (.slice (some ⟨y.y,0,none⟩) 1 1) (y.row [zY x] 1)=some (.slice p' (who.length+1) c',y4)/\Only (AtP pl) y y4/\(∀ b,AtP p' b->AtP pl b\/y.y<=b)/\(∀ b,AtP p' b->b<y4.y)/\y4.low<=y.low /\
   zD Pg 100 (.slice p' (who.length+1) c'::.agg ⟨stL st⟩::G.args) y4 (.tuple ⟨[]⟩) y5/\Only (fun b=>b=G.K.bm\/b=G.Bo\/AtP p' b) y4 y5/\GvW G y4 F' X' e'/\y5.low<=y.low /\
   zNE G z F X e o (fun c v=>C c v\/G.give rest (who++[x]) st c v) pl lc who sf y5:=by
 obtain ⟨pre,hd1,hd2⟩:=hd;have hlen:who.length+1<=1073741824:=by
  have h1:=zDG (w:=G.K.w) (D:=G.D) (j:=G.K.l);have h2:=ok.ok.sn.l12;have h3:(yF G.K.w G.D G.K.l).length=pre.length+(rest.length+1):=by
   show G.du.length=_;rw [hd1];simp
  omega
 have hxp:∀ b,AtP pl b->¬ X' b:=fun b hb hx=>by
  rcases R.x2 b hx with h | h
  ·exact hX b hb h
  ·have:=hz b hb;omega
 have hny:=R.w.nz;obtain ⟨p',c',sf',y4,g1,g2,g3,g4,g5,g6⟩:=S.push (v:=zY x) uJ rfl hlen hny;have hS4:∀ b,AtP pl b->G.n1<=b/\¬ X' b:=fun b hb=>⟨(S.bd b hb).1,hxp b hb⟩
 have R4:=R.step ok g4 hS4 g5;have exs:who.map zY++[zY x]=(who++[x]).map zY:=by simp
 rw [exs] at g2;have el:(who++[x]).length=who.length+1:=by simp
 have n4:=g4.y;rw [<- el] at g2;have hX4:∀ b,AtP p' b->¬ X' b:=fun b hb hx=>by
  rcases g6 b hb with h | h
  ·exact hxp b h hx
  ·have:=(R.w.w.xb b hx).1;omega
 obtain ⟨y5,k5,o5,F5,X5,e5,o5',r5,s5⟩:=ih R4.w R4.ep R4.bo hC g2 hX4 ⟨pre++[i],by rw [hd1];simp,by rw [el];simp [hd2]⟩ hst;have hl5:=zEF k5;have s5':Stk y5 G.n1 pl who.length lc (who.map zY) sf:=Kid.pop (by rw [<- exs];exact g3) s5;rw [el] at k5 g2;exact ⟨p',c',y4,y5,g1,g4,g6,fun b hb=>(g2.bd b hb).2,g5,k5,o5,R4.w,by omega,F5,X5,e5,o5',R4.trans r5 (by omega) (by omega),s5'⟩
theorem xGD (ok:G.Ok) (hb:zRE G.K G.r) {i:Nat} {rest:List Nat} (ih:yRQ G rest):yRQ G (i::rest):=by
 intro z F X e o C who pl lc sf st W ep bo hC S hX hd hst;suffices hmain:zP Pg 100 (.slice pl who.length lc::.agg ⟨stL st⟩::G.args) z.re fun v s=>Only (zND G pl) z.re s/\(s.low<z.y\/zW RD v=false\/(v=.tuple ⟨[]⟩/\zNE G z F X e o (fun c v=>C c v\/G.give (i::rest) who st c v) pl lc who sf z))/\(v=.tuple ⟨[]⟩/\zNE G z F X e o (fun c v=>C c v\/G.give (i::rest) who st c v) pl lc who sf s) by
  obtain ⟨v,s,h1,h2,rfl,h3⟩:=xXK (Q:=fun v s=>v=.tuple ⟨[]⟩/\zNE G z F X e o (fun c v=>C c v\/G.give (i::rest) who st c v) pl lc who sf s) hmain (by
   rintro v s m hm ⟨h1,F',X',e',o',h2,h3⟩;exact ⟨h1,F',X',e',o',h2.low hm,h3.le ⟨Nat.le_refl _,fun _ _=>rfl⟩⟩)
  exact ⟨s,h1,h2,h3⟩
 have zr:z.re.y=z.y:=rfl;obtain ⟨l1,l2,l3,l4,l5,l6,l7,l8⟩:=ok.lt;have hnz:=W.nz;have hAt:∀ b,AtP pl b->G.n1<=b/\b<z.y:=fun b hb=>S.bd b hb
 have hm6:=ok.ok.sn.m6;have hwm:=ok.ok.wk.len.2;have hwl:=ok.ok.wk.len.1;obtain ⟨pre,hd1,hd2⟩:=hd;have hlt:who.length<G.du.length:=by rw [hd1];simp;omega
 have hgi:G.du[who.length]?=some i:=by rw [hd1,<- hd2];simp
 have himem:i∈yF G.K.w G.D G.K.l:=List.mem_of_getElem? hgi;obtain ⟨hil,hiD⟩:=zLU.1 himem;have hdt:=ok.ok.sn.duty i hil;have hdo:DtOk (dtQ G.K.w i):=⟨⟨hdt.1,hdt.2.1⟩,⟨hdt.2.2.1,hdt.2.2.2.1⟩⟩;obtain ⟨τ1,hτ1⟩:∃ τ1,τ1=z.re.row (stL st) 4:=⟨_,rfl⟩;have N1:New z.re τ1:=by rw [hτ1];exact New.row _ _ _
 have nx1:τ1.y=z.y+1:=by rw [hτ1];rfl
 have oN1:Own τ1 z.y (stL st) 4:=by rw [hτ1];exact zC _ _ _
 have L1:Le z τ1:=(le0 z).trans N1.le;have R1:GvR G z F X e o C τ1 F X e o:=⟨W.le L1,ep.le L1,bo,fun _ h=>h,fun _ h=>.inl h,.inr (.inr ⟨rfl,rfl,rfl,rfl⟩)⟩;have S1:=S.le L1;let Cj:Nat->zIJ:=fun j c v=>C c v\/((G.K.leaves=true/\G.give rest (who++[-1]) st c v)\/∃ k,k<j/\zEW G.K.w k i (st k)=true/\G.give rest (who++[(k:Int)]) (zXD G.K.w st k i) c v)
 have hCj:∀ j a v,Cj j a v->v.length=6:=by
  rintro j a v (h | ⟨_,h⟩ | ⟨k,_,_,h⟩)
  ·exact hC a v h
  ·exact zTN.len ok.ok.wfl h
  ·exact zTN.len ok.ok.wfl h
 let J:Nat->St->Prop:=fun j y=>Only (zND G pl) z.re y/\τ1.y<=y.y/\zNE G z F X e o (Cj j) pl lc who sf y/\Own y z.y (stL st) 4
 let P0:St->Prop:=fun s=>Only (zND G pl) z.re s/\(s.low<z.y\/zW RD (.tuple ⟨[]⟩)=false\/((.tuple ⟨[]⟩:Value)=.tuple ⟨[]⟩/\zNE G z F X e o (fun c v=>C c v\/G.give (i::rest) who st c v) pl lc who sf z))/\((.tuple ⟨[]⟩:Value)=.tuple ⟨[]⟩/\zNE G z F X e o (fun c v=>C c v\/G.give (i::rest) who st c v) pl lc who sf s)
 have hdone:∀ y,J G.K.m y->P0 y:=by
  rintro y ⟨a1,a2,⟨F',X',e',o',r,s⟩,a3⟩;have r':GvR G z F X e o (fun c v=>C c v\/G.give (i::rest) who st c v) y F' X' e' o':=r.iff fun a v=>by
   show Cj G.K.m a v↔_;rw [show G.give (i::rest) who st a v↔_ from xIB,hwm]
  refine ⟨a1, ?_,rfl,F',X',e',o',r',s⟩
  have f0:=ok.f0;rcases r'.lo with g | g | ⟨rfl,rfl,rfl,rfl⟩
  ·exact .inl (by omega)
  ·exact .inl (by omega)
  ·exact .inr (.inr ⟨rfl,F',X',e',o',GvR.self W ep r'.bo,S⟩)
 have lg:∀ u,Row u ⟨G.Bg,0,none⟩ [.func (.func 100) ⟨[]⟩ ⟨G.args⟩]->zB Pg u 144 ⟨G.Bg,0,none⟩=some (.func (.func 100) ⟨[]⟩ ⟨G.args⟩):=fun u o=>o.ld xPU rfl
 have ly:∀ u,Row u ⟨G.By,0,none⟩ [.func (.func 99) ⟨[.pointer (some ⟨G.K.Bp,0,none⟩)]⟩ ⟨[]⟩]->zB Pg u 143 ⟨G.By,0,none⟩=some (.func (.func 99) ⟨[.pointer (some ⟨G.K.Bp,0,none⟩)]⟩ ⟨[]⟩):=fun u o=>o.ld xYP rfl
 have lq:∀ u,Row u ⟨G.Bq,0,none⟩ [.pointer (some ⟨G.K.Bp,0,none⟩)]->zB Pg u 125 ⟨G.Bq,0,none⟩=some (.pointer (some ⟨G.K.Bp,0,none⟩)):=fun u o=>o.ld uV rfl
 have lu:∀ u,Row u ⟨G.Bu,0,none⟩ [.slice G.pu G.du.length G.cu]->zB Pg u 26 ⟨G.Bu,0,none⟩=some (.slice G.pu G.du.length G.cu):=fun u o=>o.ld yV rfl
 have lsl:∀ u:St,yR Pg (evL [.slice pl who.length lc]) u (.call { callee:=.builtin .len,args:=⟨xJ 1⟩,argTypes:=⟨[26]⟩ })=some (iV (who.length:Int)):=fun u=>rfl
 have gg:zM RD (.func (.func 100) ⟨[]⟩ ⟨G.args⟩)=true:=rfl;have gy:zM RD (.func (.func 99) ⟨[.pointer (some ⟨G.K.Bp,0,none⟩)]⟩ ⟨[]⟩)=true:=rfl;have bw:∀ a,pl=some a->a.block<z.y:=fun a e=>(hAt a.block ⟨a,e,rfl⟩).2
 have eas:∀ (y:St) (p':Option Addr) (y4 y5:St),Only (zND G pl) z.re y->z.y<y.y->Only (AtP pl) y y4->(∀ b,AtP p' b->AtP pl b\/y.y<=b)->Only (fun b=>b=G.K.bm\/b=G.Bo\/AtP p' b) y4 y5->Only (zND G pl) z.re y5:=fun y p' y4 y5 h1 h0 h2 h3 h4=>(h1.trans' h2 (fun b _ h=>.inl (.inr (.inr h)))).trans' h4 (fun b _ h=>by
  have hy:=h1.y;rcases h with h | h | h
  ·exact .inl (.inl h)
  ·exact .inl (.inr (.inl h))
  ·rcases h3 b h with g | g
   ·exact .inl (.inr (.inr g))
   ·exact .inr (by omega))
 have hownS:∀ (y:St) (p':Option Addr) (y4 y5:St),z.y<y.y->Only (AtP pl) y y4->(∀ b,AtP p' b->AtP pl b\/y.y<=b)->Only (fun b=>b=G.K.bm\/b=G.Bo\/AtP p' b) y4 y5->Own y z.y (stL st) 4->Own y4 z.y (stL st) 4/\Own y5 z.y (stL st) 4:=fun y p' y4 y5 h1 h2 h3 h4 o=>by
  have o4:=h2.own' o (fun h=>by have:=(hAt _ h).2;omega);refine ⟨o4,h4.own' o4 ?_⟩
  rintro (h | h | h)
  ·omega
  ·omega
  ·rcases h3 _ h with g | g
   ·have:=(hAt _ g).2;omega
   ·omega
 have hloop:∀ y0,J 0 y0->zQX pl who.length lc ⟨G.Bu,0,none⟩ ⟨G.Bg,0,none⟩ ⟨G.By,0,none⟩ z.y G.K.m 0 y0 P0:=by
  intro y0 hJ0;refine yQY (Inv:=fun k i' y=>∃ j:Nat,i'=j/\j+k=G.K.m/\J j y) ?_ G.K.m 0 y0 ⟨0,rfl,by omega,hJ0⟩;rintro k i' y ⟨j,rfl,hk,hJ⟩;obtain ⟨a1,a2,⟨F',X',e',o',r,s⟩,a3⟩:=hJ;by_cases hj:j<G.K.m;rotate_left
  ·have:j=G.K.m:=by omega
   subst this;exact xHJ (hdone y ⟨a1,a2,⟨F',X',e',o',r,s⟩,a3⟩) (by omega)
  have hj6:j<6:=by omega
  have W':=r.w;have yn:=a1.y;obtain ⟨s',cm,hs'⟩:=xZL (k:=j) (i:=i) (s:=st j) W'.w.pr (ok.ok.wk.le W'.w.fl) ok.ok.sh hj hil (hst j hj).ok hdo (by omega);obtain ⟨qa,hqa,_⟩:=W'.du.some hlt;have h1:=ly y W'.oy;have h2:=lu y W'.ou;rw [hqa] at h2;have h3:zB Pg y 3 (zJ qa (Int.toNat ((who.length:Nat):Int)*1))=some (iV (i:Int)):=W'.du.at hqa (by simp [zNU,hgi]);have h4:=yHF a3 hj6;have hqb:qa.block<y.y:=(W'.w.xb _ (W'.ux _ ⟨qa,hqa,rfl⟩)).1;have h6:zH y.y [.func (.func 99) ⟨[.pointer (some ⟨G.K.Bp,0,none⟩)]⟩ ⟨[]⟩,iV (j:Int),iV (i:Int),zMH (st j)]:=(zE (xUQ ok (by omega)) (zE rfl (zE rfl (zE (yK rfl) zI))));obtain ⟨y1,hy1⟩:∃ y1,y1=y.row (zL 0 0 0 0) 4:=⟨_,rfl⟩;have ny1:y1.y=y.y+1:=by rw [hy1];rfl
  have M1:New y y1:=by rw [hy1];exact New.row _ _ _
  have W1:=W'.le M1.le;have h7:zH y1.y [.pointer (some ⟨y.y,0,none⟩),zMH s']:=(zE (zO (show y.y<y1.y by omega)) (zE (yK rfl) zI));have h8:=(⟨⟨show G.By<y.y by omega,gy⟩,h1⟩:(G.By<y.y/\_)/\_);have h9:=(⟨⟨show G.By<y1.y by omega,gy⟩,ly y1 W1.oy⟩:(G.By<y1.y/\_)/\_);have h10:=(⟨⟨show G.Bu<y.y by omega,rfl⟩,h2⟩:(G.Bu<y.y/\zM RD (.slice (some qa) G.du.length G.cu)=true)/\_);have h11:=(⟨⟨show G.Bu<y1.y by omega,rfl⟩,by rw [<- hqa];exact lu y1 W1.ou⟩:(G.Bu<y1.y/\zM RD (.slice (some qa) G.du.length G.cu)=true)/\zB Pg y1 26 ⟨G.Bu,0,none⟩=some (.slice (some qa) G.du.length G.cu));have bwy:∀ n,y.y<=n->zH n [.slice pl who.length lc]:=fun n hn=>zE (yQ fun a e=>by have:=bw a e;omega) zI
  have h12:(zH y.y [.slice pl who.length lc]/\zM RD (iV ((who.length:Nat):Int))=true)/\Callee.builtin .len=Callee.builtin .len/\yR Pg (evL [.slice pl who.length lc]) y (.call { callee:=.builtin .len,args:=⟨xJ 1⟩,argTypes:=⟨[26]⟩ })=some (iV (who.length:Int)):=⟨⟨bwy _ (Nat.le_refl _),rfl⟩,rfl,lsl y⟩;have h13:(zH y1.y [.slice pl who.length lc]/\zM RD (iV ((who.length:Nat):Int))=true)/\Callee.builtin .len=Callee.builtin .len/\yR Pg (evL [.slice pl who.length lc]) y1 (.call { callee:=.builtin .len,args:=⟨xJ 1⟩,argTypes:=⟨[26]⟩ })=some (iV (who.length:Int)):=⟨⟨bwy _ (by omega),rfl⟩,rfl,lsl y1⟩;have h14:=(⟨⟨hqb,rfl⟩,h3⟩:(qa.block<y.y/\zM RD (iV (i:Int))=true)/\_);have h15:((zJ qa (Int.toNat ((who.length:Nat):Int)*1)).block<y1.y/\zM RD (iV (i:Int))=true)/\zB Pg y1 3 (zJ qa (Int.toNat ((who.length:Nat):Int)*1))=some (iV (i:Int)):=⟨⟨show qa.block<y1.y by omega,rfl⟩,W1.du.at hqa (by simp [zNU,hgi])⟩;have h16:=(⟨⟨show z.y<y.y by omega,rfl⟩,h4⟩:(z.y<y.y/\zM RD (zMH (st j))=true)/\_);have h17:=(⟨⟨show z.y<y1.y by omega,rfl⟩,yHF (a3.le M1.le) hj6⟩:(z.y<y1.y/\zM RD (zMH (st j))=true)/\_);obtain ⟨y2,hy2⟩:∃ y2,y2=y1.own y.y (zET s') 4:=⟨_,rfl⟩;have ny2:y2.y=y.y+1:=by rw [hy2];exact ny1
  have M2:New y y2:=by rw [hy2];exact M1.own (Nat.le_refl _)
  have lo2:y2.low<=y.low:=by rw [hy2,hy1];simp [St.own];omega
  have oS2:Own y2 y.y (zET s') 4:=by rw [hy2,hy1];exact (zC _ _ _).put
  have R2:=r.new ok M2 lo2;have s2:=s.le M2.le;have a32:=a3.le M2.le;have k2:Only (zND G pl) z.re y2:=a1.trans' M2.only (T:=fun _=>False) (fun b _ h=>h.elim);have u1:(j:Int)<((G.K.m:Nat):Int):=by omega
  have u2:Ix ((who.length:Nat):Int) G.du.length:=⟨by omega,by omega⟩;have u3:Ix (j:Int) 6:=⟨by omega,by omega⟩;have u4:I6 ((j:Int)+1):=⟨by omega,by omega⟩;have b5:G.By<y.y:=by omega
  have b0:G.Bu<y.y:=by omega
  have bB:z.y<y.y:=by omega
  have bwy':∀ a,pl=some a->a.block<y.y:=fun a e=>by have:=bw a e;omega
  cases hmb:zEW G.K.w j i (st j) with
  | false =>
   rw [hmb] at cm;have nx:∃ k',k' < k/\∃ j':Nat,(j:Int)+1=j'/\j'+k'=G.K.m/\J j' y2:=⟨k-1,by omega,j+1,by omega,by omega,k2,by omega,⟨F',X',e',o',R2.iff fun a v=>by
    show Cj j a v↔Cj (j+1) a v;constructor
    ·rintro (h | h | ⟨q,h1,h2⟩)
     ·exact .inl h
     ·exact .inr (.inl h)
     ·exact .inr (.inr ⟨q,by omega,h2⟩)
    ·rintro (h | h | ⟨q,h1,h2,h3⟩)
     ·exact .inl h
     ·exact .inr (.inl h)
     ·by_cases hq:q=j
      ·subst hq;rw [hmb] at h2;cases h2
      ·exact .inr (.inr ⟨q,by omega,h2,h3⟩),s2⟩,a32⟩
   subst hy2 hy1;exact xHK h1 h2 h3 h4 cm h6 h7 h8 h9 h10 h11 h12 h13 h14 h15 h16 h17 bwy' nx u1 u2 u3 u4 b5 b0 hqb bB
  | true =>
   rw [hmb] at cm;have es':=hs' hmb;have h18:=uL a32;obtain ⟨y3,hy3⟩:∃ y3,y3=y2.row zER 4:=⟨_,rfl⟩;have ny3:y3.y=y.y+2:=by rw [hy3];show y2.y+1=_;omega
   have M3:New y2 y3:=by rw [hy3];exact New.row _ _ _
   have o3:Own y3 (y.y+1) zER 4:=by rw [hy3,<- ny2];exact zC _ _ _
   have h19:=zVU (show Own y3 (y.y+1) (stL fun _=>zVQ) 4 from o3) st;obtain ⟨y4,hy4⟩:∃ y4,y4=y3.own (y.y+1) (stL st) 4:=⟨_,rfl⟩;have ny4:y4.y=y.y+2:=by rw [hy4];exact ny3
   have M4:New y2 y4:=by rw [hy4];exact M3.own (by omega)
   have o4:Own y4 (y.y+1) (stL st) 4:=by rw [hy4];exact o3.put
   have h20:zB Pg y4 107 ⟨y.y,0,none⟩=some (zMH s'):=(oS2.le M4.le).rw.ldN vX xG (k:=0) (ds:=zET s') rfl rfl (nle rfl);have h21:=ySH o4 hj6 s';obtain ⟨y5,hy5⟩:∃ y5,y5=y4.own (y.y+1) (stL (upd st j s')) 4:=⟨_,rfl⟩;have ny5:y5.y=y.y+2:=by rw [hy5];exact ny4
   have M5:New y2 y5:=by rw [hy5];exact M4.own (by omega)
   have o5:Own y5 (y.y+1) (stL (upd st j s')) 4:=by rw [hy5];exact o4.put
   have lo5:y5.low<=y2.low:=by rw [hy5,hy4,hy3];simp [St.own];omega
   rw [<- hy4] at h19;rw [<- hy5] at h21;have R5:=R2.new ok M5 lo5;have s5:=s2.le M5.le;have W5:=R5.w;have h22:=lg y5 W5.og;have k5:Only (zND G pl) z.re y5:=k2.trans' M5.only (T:=fun _=>False) (fun b _ h=>h.elim);have hst':∀ q,q<G.K.m->StG (upd st j s' q):=fun q hq=>by
    unfold upd;by_cases e1:q=j
    ·subst e1;rw [if_pos rfl,es'];have hmb2:=hmb;unfold zEW at hmb2;have hu:=of_decide_eq_true (Bool.and_eq_true_iff.1 hmb2).2;exact (hst q hq).take ⟨hdt.1,hdt.2.1⟩ ⟨hdt.2.2.1,hdt.2.2.2.1⟩ (by omega) (by have:=ok.ok.sn.hours;omega)
    ·rw [if_neg e1];exact hst q hq
   obtain ⟨p',c',y6,y7,g1,g2,g3,g4,g5,g6,g7,g8,g9,g10⟩:=yAH (x:=(j:Int)) ok ih R5 (hCj j) s5 hX (fun b hb=>(hAt b hb).2) (by omega) ⟨pre,hd1,hd2⟩ hst';have n6:=g2.y;have o6:Own y6 (y.y+1) (stL (upd st j s')) 4:=g2.own' o5 (fun h=>by have:=(hAt _ h).2;omega);have W6:=g8;have h24:=uL o6;have M5r:Le y5 (y5.row [iV (j:Int)] 1):=Le.row _ _ _;have h26:zH y5.y [.pointer (some ⟨G.Bg,0,none⟩)]:=(zE (zO (show G.Bg<y5.y by omega)) zI);have h27:zH (y5.row [iV (j:Int)] 1).y [.slice pl who.length lc,.slice (some ⟨y5.y,0,none⟩) 1 1]:=(zE (yQ fun a e=>(show a.block<y5.y+1 by have:=bw a e;omega)) (zE (yQ fun a e=>by cases e;show y5.y<y5.y+1;omega) zI));have h28:zH y6.y [.pointer (some ⟨y.y+1,0,none⟩)]:=(zE (zO (show y.y+1<y6.y by omega)) zI);have h29:zH y6.y [.func (.func 100) ⟨[]⟩ ⟨G.args⟩,.slice p' (who.length+1) c',.agg ⟨stL (upd st j s')⟩]:=(zE (yRA ok (by omega)) (zE (yQ fun a e=>g4 a.block ⟨a,e,rfl⟩) (zE (yK rfl) zI)));have h30:=(⟨⟨show G.Bg<y5.y by omega,gg⟩,h22⟩:(G.Bg<y5.y/\_)/\_);have h31:=(⟨⟨show G.Bg<(y5.row [iV (j:Int)] 1).y by show G.Bg<y5.y+1;omega,gg⟩,lg _ (W5.og.le M5r)⟩:(G.Bg<(y5.row [iV (j:Int)] 1).y/\_)/\_);have h32:=(⟨⟨show G.Bg<y6.y by omega,gg⟩,lg y6 W6.og⟩:(G.Bg<y6.y/\_)/\_);have h33:=(⟨⟨show y.y+1<y5.y by omega,rfl⟩,uL o5⟩:(y.y+1<y5.y/\zM RD (.agg ⟨stL (upd st j s')⟩)=true)/\_);have h34:=(⟨⟨show y.y+1<(y5.row [iV (j:Int)] 1).y by show y.y+1<y5.y+1;omega,rfl⟩,uL (o5.le M5r)⟩:(y.y+1<(y5.row [iV (j:Int)] 1).y/\zM RD (.agg ⟨stL (upd st j s')⟩)=true)/\_);have h35:=(⟨⟨show y.y+1<y6.y by omega,rfl⟩,h24⟩:(y.y+1<y6.y/\zM RD (.agg ⟨stL (upd st j s')⟩)=true)/\_);have nx:∃ k',k' < k/\∃ j':Nat,(j:Int)+1=j'/\j'+k'=G.K.m/\J j' y7:=by
    obtain ⟨F7,X7,e7,o7,r7,s7⟩:=g10;have g7n:=g7.y;refine ⟨k-1,by omega,j+1,by omega,by omega,eas y5 p' y6 y7 k5 (by omega) g2 g3 g7,by omega,⟨F7,X7,e7,o7,r7.iff fun a v=>?_,s7⟩,(hownS y5 p' y6 y7 (by omega) g2 g3 g7 ((a32).le M5.le)).2⟩
    show (Cj j a v\/_)↔Cj (j+1) a v;have etk:zXD G.K.w st j i=upd st j s':=by rw [es'];rfl
    constructor
    ·rintro ((h | h | ⟨q,h1,h2⟩) | h)
     ·exact .inl h
     ·exact .inr (.inl h)
     ·exact .inr (.inr ⟨q,by omega,h2⟩)
     ·exact .inr (.inr ⟨j,by omega,hmb,by rw [etk];exact h⟩)
    ·rintro (h | h | ⟨q,h1,h2,h3⟩)
     ·exact .inl (.inl h)
     ·exact .inl (.inr (.inl h))
     ·by_cases hq:q=j
      ·subst hq;rw [etk] at h3;exact .inr h3
      ·exact .inl (.inr (.inr ⟨q,by omega,h2,h3⟩))
   subst hy3 hy2 hy1;exact xHL h1 h2 h3 h4 cm h6 h7 h8 h9 h10 h11 h12 h13 h14 h15 h16 h17 h18 h19 h20 h21 h22 g1 h24 g6 h26 h27 h28 h29 h30 h31 h32 h33 h34 h35 bwy' nx u1 u2 u3 u4 b5 b0 hqb bB
 have l32:∀ u,Row u ⟨G.K.Bp,0,none⟩ G.K.row->zB Pg u 32 (zJ ⟨G.K.Bp,0,none⟩ 2)=some (.slice G.K.q G.K.m G.K.d):=fun u o=>o.load1 zAU rfl
 have W1:=R1.w;have h1:=lu τ1 W1.ou;have h2:=lq τ1 W1.oq;have h3:zB Pg τ1 4 (zJ ⟨G.K.Bp,0,none⟩ 6)=some (.bool G.K.leaves):=W1.w.pr.load1 xHU rfl;have u1:¬ ((who.length:Nat):Int)=((G.du.length:Nat):Int):=by omega
 have bg:G.Bg<z.re.y:=by show G.Bg<z.y;omega
 have k0:∀ s,P0 s->zHU pl who.length lc ⟨G.Bu,0,none⟩ ⟨G.Bg,0,none⟩ ⟨G.By,0,none⟩ z.re.y G.K.m s (fun v s=>Only (zND G pl) z.re s/\(s.low<z.y\/zW RD v=false\/(v=.tuple ⟨[]⟩/\zNE G z F X e o (fun c v=>C c v\/G.give (i::rest) who st c v) pl lc who sf z))/\(v=.tuple ⟨[]⟩/\zNE G z F X e o (fun c v=>C c v\/G.give (i::rest) who st c v) pl lc who sf s)):=fun s h=>yQX h
 cases hlv:G.K.leaves with
 | false =>
  rw [hlv] at h3;have hJ0:J 0 τ1:=⟨N1.only,Nat.le_refl _,⟨F,X,e,o,R1.iff fun a v=>by
   show C a v↔Cj 0 a v;constructor
   ·exact fun h=>.inl h
   ·rintro (h | ⟨h,_⟩ | ⟨q,h,_⟩)
    ·exact h
    ·rw [hlv] at h;cases h
    ·omega,S1⟩,oN1⟩
  have hL:=hloop τ1 hJ0;have h4:=l32 τ1 W1.w.pr;subst hτ1;exact xPA h1 h2 h3 h4 hL k0 u1
 | true =>
  rw [hlv] at h3;obtain ⟨p',c',y4,y5,g1,g2,g3,g4,g5,g6,g7,g8,g9,g10⟩:=yAH (x:=-1) ok ih R1 hC S1 hX (fun b hb=>(hAt b hb).2) (by omega) ⟨pre,hd1,hd2⟩ hst;have n4:=g2.y;have n5:=g7.y;have g2':Only (AtP pl) τ1 y4:=g2;obtain ⟨o4,o5⟩:=hownS τ1 p' y4 y5 (by omega) g2 g3 g7 oN1;have M1r:Le τ1 (τ1.row [iV (-1)] 1):=Le.row _ _ _;obtain ⟨F5,X5,e5,o5',r5,s5⟩:=g10;have h4:=lg τ1 W1.og;have h6:=uL o4;have h8:zH y4.y [.pointer (some ⟨z.re.y,0,none⟩)]:=(zE (zO (show z.y<y4.y by omega)) zI);have h9:zH y4.y [.func (.func 100) ⟨[]⟩ ⟨G.args⟩,.slice p' (who.length+1) c',.agg ⟨stL st⟩]:=(zE (yRA ok (by omega)) (zE (yQ fun a e=>g4 a.block ⟨a,e,rfl⟩) (zE (yK rfl) zI)));have h10:=(⟨⟨show G.Bg<τ1.y by omega,gg⟩,h4⟩:(G.Bg<τ1.y/\_)/\_);have h11:=(⟨⟨show G.Bg<(τ1.row [iV (-1)] 1).y by show G.Bg<τ1.y+1;omega,gg⟩,lg _ (W1.og.le M1r)⟩:(G.Bg<(τ1.row [iV (-1)] 1).y/\_)/\_);have h12:=(⟨⟨show G.Bg<y4.y by omega,gg⟩,lg y4 g8.og⟩:(G.Bg<y4.y/\_)/\_);have h13:=uL oN1;have h14:=uL (oN1.le M1r);have h15:=(⟨⟨show z.y<y4.y by omega,rfl⟩,h6⟩:(z.y<y4.y/\zM RD (.agg ⟨stL st⟩)=true)/\_);have h16:=lq y5 r5.w.oq;have h17:=l32 y5 r5.w.w.pr;have hJ0:J 0 y5:=⟨eas τ1 p' y4 y5 N1.only (by omega) g2 g3 g7,by omega,⟨F5,X5,e5,o5',r5.iff fun a v=>by
   show _↔Cj 0 a v;constructor
   ·rintro (h | h)
    ·exact .inl h
    ·exact .inr (.inl ⟨hlv,h⟩)
   ·rintro (h | ⟨_,h⟩ | ⟨q,h,_⟩)
    ·exact .inl h
    ·exact .inr h
    ·omega,s5⟩,o5⟩
  have hL:=hloop y5 hJ0;subst hτ1;exact xPB h1 h2 h3 h4 g1 h6 g6 h8 h9 h10 h11 h12 h13 h14 h15 h16 h17 bw hL k0 u1 bg
theorem xNU (ok:G.Ok) (hb:zRE G.K G.r):∀ rest:List Nat,yRQ G rest
 | []=>xNT ok hb
 | i::rest=>xGD ok hb (xNU ok hb rest)
end
section
variable {p a22 a25:Addr} {s_d n1 n2 n4 n5 n6 n7 n8 n9 n13 n16 n17 n18 n19 n27 n29 n30 n31 n32 n33 n34 n38 n39 n40 n41 n42 n43 n47 n48 n49 n50 n51 n52:Int} {s f23 f28:Nat->Std} {Z Z21 Z24 Z37 Z46:St} {Q:vPa} {m3 l10 c10 l14 c14 l15 c15 l20 c20 m26 l35 c35 l44 c44 l53 c53:Nat} {q10 q14 q15 q20 q35 q44 q53:oAa} {b11 b36 b45 b54:Bool}
theorem xUP:let s1:=Z.row [pz p] 1;let s2:=s1.row (iV s_d::stL s) (iV s_d::stL s).length;let s3:=s2.row [iV 0,iV 0,iV 0,iV 0,iV 0,iV 0,.slice none 0 0,.bool false] 8;let s4:=s3.own (Z.y+2) [iV 0,iV 0,iV 0,iV 0,iV 0,iV 0,.slice none 0 0,.bool true] 8;∀ (h1:lz s3 3 ⟨(Z.y+1),0,none⟩ (iV n1)) (h2:lz s3 3 p (iV n2)) (nx:Q (qh [iV 0,iV 0,iV 0,iV 0,iV 0,iV 0,.slice none 0 0,.bool true]) s4) (u1:n1=n2:=by omega),qi 84 [pz p,qh (iV s_d::stL s)] Z Q:=
 let s1:=Z.row [pz p] 1;let s2:=s1.row (iV s_d::stL s) (iV s_d::stL s).length;let s3:=s2.row [iV 0,iV 0,iV 0,iV 0,iV 0,iV 0,.slice none 0 0,.bool false] 8;let s4:=s3.own (Z.y+2) [iV 0,iV 0,iV 0,iV 0,iV 0,iV 0,.slice none 0 0,.bool true] 8;fun h1 h2 nx u1=>zG [.g,.g,.g,.g,.l (iV n1),.l (pz p),.g,.g,.g,.l (iV n2),.b true,.g,.e undef s4,.l (qh [iV 0,iV 0,iV 0,iV 0,iV 0,iV 0,.slice none 0 0,.bool true])] (kd (an6 h1 ((zC _ _ _).row.row.rw.ld uV (k:=0) rfl:lz s3 125 (qg Z.y 0) (pz p)) h2 (xH u1) ((zC _ _ _).store (vs:=[iV 0,iV 0,iV 0,iV 0,iV 0,iV 0,.slice none 0 0,.bool true]) rfl uD rfl (nle rfl) rfl:qq (evL [pq ((Z.y+2)) 0,qh [iV 0,iV 0,iV 0,iV 0,iV 0,iV 0,.slice none 0 0,.bool true]]) s3 (.store 130 (.tmp 0) (.tmp 1))=some (undef,s4)) ((zC _ _ _).put.rw.ldN yKF uD (k:=0) rfl rfl (nle rfl):lz s4 130 ⟨(Z.y+2),0,none⟩ (qh [iV 0,iV 0,iV 0,iV 0,iV 0,iV 0,.slice none 0 0,.bool true])) nx))
theorem xUO:let s1:=Z.row [pz p] 1;let s2:=s1.row (iV s_d::stL s) (iV s_d::stL s).length;let s3:=s2.row [iV 0,iV 0,iV 0,iV 0,iV 0,iV 0,.slice none 0 0,.bool false] 8;let s4:=s3.row [iV 0,iV 0,iV 0,iV 0,iV 0,iV 0,.slice none 0 0,.bool false] 8;let s5:=s4.own (Z.y+3) [iV n4,iV n5,iV n6,iV n7,iV n8,iV n9,.slice q10 l10 c10,.bool b11] 8;let s6:=s5.own (Z.y+2) [iV n4,iV n5,iV n6,iV n7,iV n8,iV n9,.slice q10 l10 c10,.bool b11] 8;let s7:=Z.y+1;∀ (h1:lz s3 3 (qg s7 0) (iV n1)) (h2:lz s3 3 p (iV n2)) (h3:lz s3 126 (zJ p 8) (.map (some m3))) (h4:lz s3 133 (qg s7 0) (qh (iV s_d::stL s))) (h5:xN Pg (evL [.map (some m3),qh (iV s_d::stL s)]) s3 (.lookup 126 (.tmp 0) (.tmp 1) true)=some (.tuple ⟨[qh [iV n4,iV n5,iV n6,iV n7,iV n8,iV n9,.slice q10 l10 c10,.bool b11],.bool true]⟩)) (h6:zH s3.y [.map (some m3),qh (iV s_d::stL s)]) (h7:zH s4.y [pq ((Z.y+3)) 0,qh [iV n4,iV n5,iV n6,iV n7,iV n8,iV n9,.slice q10 l10 c10,.bool b11]]) (h8:lz s4 125 (qg Z.y 0) (pz p)) (h9:lz s4 126 (zJ p 8) (.map (some m3))) (h10:lz s4 133 (qg s7 0) (qh (iV s_d::stL s))) (h11:((zH s3.y [.map (some m3),qh (iV s_d::stL s)]/\zM RD (.tuple ⟨[qh [iV n4,iV n5,iV n6,iV n7,iV n8,iV n9,.slice q10 l10 c10,.bool b11],.bool true]⟩)=true)/\xN Pg (evL [.map (some m3),qh (iV s_d::stL s)]) s3 (.lookup 126 (.tmp 0) (.tmp 1) true)=some (.tuple ⟨[qh [iV n4,iV n5,iV n6,iV n7,iV n8,iV n9,.slice q10 l10 c10,.bool b11],.bool true]⟩))) (h12:((zH s4.y [.map (some m3),qh (iV s_d::stL s)]/\zM RD (.tuple ⟨[qh [iV n4,iV n5,iV n6,iV n7,iV n8,iV n9,.slice q10 l10 c10,.bool b11],.bool true]⟩)=true)/\xN Pg (evL [.map (some m3),qh (iV s_d::stL s)]) s4 (.lookup 126 (.tmp 0) (.tmp 1) true)=some (.tuple ⟨[qh [iV n4,iV n5,iV n6,iV n7,iV n8,iV n9,.slice q10 l10 c10,.bool b11],.bool true]⟩))) (nx:Q (qh [iV n4,iV n5,iV n6,iV n7,iV n8,iV n9,.slice q10 l10 c10,.bool b11]) s6) (u1:¬ n1=n2:=by omega) (eZ:p.block<Z.y:=by omega),qi 84 [pz p,qh (iV s_d::stL s)] Z Q:=
 let s1:=Z.row [pz p] 1;let s2:=s1.row (iV s_d::stL s) (iV s_d::stL s).length;let s3:=s2.row [iV 0,iV 0,iV 0,iV 0,iV 0,iV 0,.slice none 0 0,.bool false] 8;let s4:=s3.row [iV 0,iV 0,iV 0,iV 0,iV 0,iV 0,.slice none 0 0,.bool false] 8;let s5:=s4.own (Z.y+3) [iV n4,iV n5,iV n6,iV n7,iV n8,iV n9,.slice q10 l10 c10,.bool b11] 8;let s6:=s5.own (Z.y+2) [iV n4,iV n5,iV n6,iV n7,iV n8,iV n9,.slice q10 l10 c10,.bool b11] 8;let s7:=Z.y+1;fun h1 h2 h3 h4 h5 h6 h7 h8 h9 h10 h11 h12 nx u1 eZ=>zG [.g,.g,.g,.g,.l (iV n1),.l (pz p),.g,.g,.g,.l (iV n2),.b false,.l (pz p),.g,.g,.l (.map (some m3)),.l (qh (iV s_d::stL s)),.v (.tuple ⟨[qh [iV n4,iV n5,iV n6,iV n7,iV n8,iV n9,.slice q10 l10 c10,.bool b11],.bool true]⟩),.g,.g,.g,.g,.e undef s5,.g,.g,.l (qh [iV n4,iV n5,iV n6,iV n7,iV n8,iV n9,.slice q10 l10 c10,.bool b11]),.e undef s6,.l (qh [iV n4,iV n5,iV n6,iV n7,iV n8,iV n9,.slice q10 l10 c10,.bool b11])] (kd (ai h1 (an6 ((zC _ _ _).row.row.rw.ld uV (k:=0) rfl:lz s3 125 (qg Z.y 0) (pz p)) h2 (yD u1) ((zC _ _ _).row.row.rw.ld uV (k:=0) rfl:lz s3 125 (qg Z.y 0) (pz p)) h3 h4 (an6 h5 ((zC _ _ _).store (vs:=[iV n4,iV n5,iV n6,iV n7,iV n8,iV n9,.slice q10 l10 c10,.bool b11]) rfl uD rfl (nle rfl) rfl:qq (evL [pq ((Z.y+3)) 0,qh [iV n4,iV n5,iV n6,iV n7,iV n8,iV n9,.slice q10 l10 c10,.bool b11]]) s4 (.store 130 (.tmp 0) (.tmp 1))=some (undef,s5)) ((zE (zO (nlt Z.y 0 3 rfl)) zI):zH s3.y [pq Z.y 0]) ((zE (zO (vN eZ 3)) zI):zH s3.y [pz (zJ p 8)]) ((zE (zO (nlt Z.y 1 3 rfl)) zI):zH s3.y [pq s7 0]) h6 (an6 h7 (⟨⟨(nlt Z.y 0 3 rfl),rfl⟩,((zC _ _ _).row.row.rw.ld uV (k:=0) rfl)⟩:(zLq s3 125 (qg Z.y 0) (pz p))) (⟨⟨(nlt Z.y 0 4 rfl),rfl⟩,h8⟩:(zLq s4 125 (qg Z.y 0) (pz p))) (⟨⟨(vN eZ 3),rfl⟩,h3⟩:(zLq s3 126 (zJ p 8) (.map (some m3)))) (⟨⟨(vN eZ 4),rfl⟩,h9⟩:(zLq s4 126 (zJ p 8) (.map (some m3)))) (⟨⟨(nlt Z.y 1 3 rfl),rfl⟩,h4⟩:(zLq s3 133 (qg s7 0) (qh (iV s_d::stL s)))) (an6 (⟨⟨(nlt Z.y 1 4 rfl),rfl⟩,h10⟩:(zLq s4 133 (qg s7 0) (qh (iV s_d::stL s)))) h11 h12 ((zC _ _ _).put.rw.ldN yKF uD (k:=0) rfl rfl (nle rfl):lz s5 130 ⟨(Z.y+3),0,none⟩ (qh [iV n4,iV n5,iV n6,iV n7,iV n8,iV n9,.slice q10 l10 c10,.bool b11])) (((zC _ _ _).row.own (nne Z.y 2 3 rfl)).store (vs:=[iV n4,iV n5,iV n6,iV n7,iV n8,iV n9,.slice q10 l10 c10,.bool b11]) rfl uD rfl (nle rfl) rfl:qq (evL [pq ((Z.y+2)) 0,qh [iV n4,iV n5,iV n6,iV n7,iV n8,iV n9,.slice q10 l10 c10,.bool b11]]) s5 (.store 130 (.tmp 0) (.tmp 1))=some (undef,s6)) (((zC _ _ _).row.own (nne Z.y 2 3 rfl)).put.rw.ldN yKF uD (k:=0) rfl rfl (nle rfl):lz s6 130 ⟨(Z.y+2),0,none⟩ (qh [iV n4,iV n5,iV n6,iV n7,iV n8,iV n9,.slice q10 l10 c10,.bool b11])) nx))))))
theorem xUN:let s1:=Z.row [pz p] 1;let s2:=s1.row (iV s_d::stL s) (iV s_d::stL s).length;let s3:=s2.row [iV 0,iV 0,iV 0,iV 0,iV 0,iV 0,.slice none 0 0,.bool false] 8;let s4:=s3.row [iV 0,iV 0,iV 0,iV 0,iV 0,iV 0,.slice none 0 0,.bool false] 8;let s5:=s4.own (Z.y+3) [iV n4,iV n5,iV n6,iV n7,iV n8,iV n9,.slice q10 l10 c10,.bool b11] 8;let s6:=Z21.row [.slice none 0 0] 1;let s7:=s6.own Z21.y [.slice q20 l20 c20] 1;let s8:=s7.row [.nilFunc] 1;let s13:=Z.y+1;let s14:=Z21.y+3;let s15:=Z21.y+1;let s9:=s8.own s15 [.func (.func 99) ⟨[pz a22]⟩ ⟨[]⟩] 1;let s10:=s9.row [iV 0,iV 0,iV 0,iV 0,iV 0,iV 0,.slice none 0 0,.bool false] 8;let s11:=s10.row [.nilFunc] 1;let s16:=Z21.y+2;let s12:=s11.own s14 [.func (.func 100) ⟨[]⟩ ⟨[pq Z21.y 0,pq Z.y 0,pq s13 0,pq s16 0,pq s14 0,pq s15 0]⟩] 1;∀ (h1:lz s3 3 (qg s13 0) (iV n1)) (h2:lz s3 3 p (iV n2)) (h3:lz s3 126 (zJ p 8) (.map (some m3))) (h4:lz s3 133 (qg s13 0) (qh (iV s_d::stL s))) (h5:xN Pg (evL [.map (some m3),qh (iV s_d::stL s)]) s3 (.lookup 126 (.tmp 0) (.tmp 1) true)=some (.tuple ⟨[qh [iV n4,iV n5,iV n6,iV n7,iV n8,iV n9,.slice q10 l10 c10,.bool b11],.bool false]⟩)) (h6:zH s3.y [.map (some m3),qh (iV s_d::stL s)]) (h7:zH s4.y [pq ((Z.y+3)) 0,qh [iV n4,iV n5,iV n6,iV n7,iV n8,iV n9,.slice q10 l10 c10,.bool b11]]) (h8:lz s4 125 (qg Z.y 0) (pz p)) (h9:lz s4 126 (zJ p 8) (.map (some m3))) (h10:lz s4 133 (qg s13 0) (qh (iV s_d::stL s))) (h11:((zH s3.y [.map (some m3),qh (iV s_d::stL s)]/\zM RD (.tuple ⟨[qh [iV n4,iV n5,iV n6,iV n7,iV n8,iV n9,.slice q10 l10 c10,.bool b11],.bool false]⟩)=true)/\xN Pg (evL [.map (some m3),qh (iV s_d::stL s)]) s3 (.lookup 126 (.tmp 0) (.tmp 1) true)=some (.tuple ⟨[qh [iV n4,iV n5,iV n6,iV n7,iV n8,iV n9,.slice q10 l10 c10,.bool b11],.bool false]⟩))) (h12:((zH s4.y [.map (some m3),qh (iV s_d::stL s)]/\zM RD (.tuple ⟨[qh [iV n4,iV n5,iV n6,iV n7,iV n8,iV n9,.slice q10 l10 c10,.bool b11],.bool false]⟩)=true)/\xN Pg (evL [.map (some m3),qh (iV s_d::stL s)]) s4 (.lookup 126 (.tmp 0) (.tmp 1) true)=some (.tuple ⟨[qh [iV n4,iV n5,iV n6,iV n7,iV n8,iV n9,.slice q10 l10 c10,.bool b11],.bool false]⟩))) (h13:lz s5 34 p (qh (wkc n13 q14 l14 c14 q15 l15 c15 n16 n17 n18))) (h14:lz s5 3 (qg s13 0) (iV n19)) (h15:qo 85 [qh (wkc n13 q14 l14 c14 q15 l15 c15 n16 n17 n18),iV n19] s5 (.slice q20 l20 c20) Z21) (h16:zH s5.y [qh (wkc n13 q14 l14 c14 q15 l15 c15 n16 n17 n18),iV n19]) (h17:zH s6.y [pq Z21.y 0,.slice q20 l20 c20]) (h18:(zLq Z21 125 (qg Z.y 0) (pz p))) (h19:(zLq s6 125 (qg Z.y 0) (pz p))) (h20:(zLq Z21 34 p (qh (wkc n13 q14 l14 c14 q15 l15 c15 n16 n17 n18)))) (h21:(zLq s6 34 p (qh (wkc n13 q14 l14 c14 q15 l15 c15 n16 n17 n18)))) (h22:(zLq Z21 3 (qg s13 0) (iV n19))) (h23:(zLq s6 3 (qg s13 0) (iV n19))) (h24:lz s7 125 (qg Z.y 0) (pz a22)) (h25:lz s12 109 (qg s13 1) (qh (stL f23))) (h26:qo 100 [.slice none 0 0,qh (stL f23),pq Z21.y 0,pq Z.y 0,pq s13 0,pq s16 0,pq s14 0,pq s15 0] s12 (.tuple ⟨[]⟩) Z24) (h27:lz Z24 125 (qg Z.y 0) (pz a25)) (h28:lz Z24 126 (zJ a25 8) (.map (some m26))) (h29:lz Z24 133 (qg s13 0) (qh (iV n27::stL f28))) (h30:lz Z24 130 (qg s16 0) (qh [iV n29,iV n30,iV n31,iV n32,iV n33,iV n34,.slice q35 l35 c35,.bool b36])) (h31:qq (evL [.map (some m26),qh (iV n27::stL f28),qh [iV n29,iV n30,iV n31,iV n32,iV n33,iV n34,.slice q35 l35 c35,.bool b36]]) Z24 (.mapUpdate 126 (.tmp 0) (.tmp 1) (.tmp 2))=some (undef,Z37)) (h32:lz Z37 130 (qg s16 0) (qh [iV n38,iV n39,iV n40,iV n41,iV n42,iV n43,.slice q44 l44 c44,.bool b45])) (h33:qq (evL [pq ((Z.y+2)) 0,qh [iV n38,iV n39,iV n40,iV n41,iV n42,iV n43,.slice q44 l44 c44,.bool b45]]) Z37 (.store 130 (.tmp 0) (.tmp 1))=some (undef,Z46)) (h34:lz Z46 130 ⟨(Z.y+2),0,none⟩ (qh [iV n47,iV n48,iV n49,iV n50,iV n51,iV n52,.slice q53 l53 c53,.bool b54])) (nx:Q (qh [iV n47,iV n48,iV n49,iV n50,iV n51,iV n52,.slice q53 l53 c53,.bool b54]) Z46) (u1:¬ n1=n2:=by omega) (eZ:p.block<Z.y:=by omega),qi 84 [pz p,qh (iV s_d::stL s)] Z Q:=
 let s1:=Z.row [pz p] 1;let s2:=s1.row (iV s_d::stL s) (iV s_d::stL s).length;let s3:=s2.row [iV 0,iV 0,iV 0,iV 0,iV 0,iV 0,.slice none 0 0,.bool false] 8;let s4:=s3.row [iV 0,iV 0,iV 0,iV 0,iV 0,iV 0,.slice none 0 0,.bool false] 8;let s5:=s4.own (Z.y+3) [iV n4,iV n5,iV n6,iV n7,iV n8,iV n9,.slice q10 l10 c10,.bool b11] 8;let s6:=Z21.row [.slice none 0 0] 1;let s7:=s6.own Z21.y [.slice q20 l20 c20] 1;let s8:=s7.row [.nilFunc] 1;let s13:=Z.y+1;let s14:=Z21.y+3;let s15:=Z21.y+1;let s9:=s8.own s15 [.func (.func 99) ⟨[pz a22]⟩ ⟨[]⟩] 1;let s10:=s9.row [iV 0,iV 0,iV 0,iV 0,iV 0,iV 0,.slice none 0 0,.bool false] 8;let s11:=s10.row [.nilFunc] 1;let s16:=Z21.y+2;let s12:=s11.own s14 [.func (.func 100) ⟨[]⟩ ⟨[pq Z21.y 0,pq Z.y 0,pq s13 0,pq s16 0,pq s14 0,pq s15 0]⟩] 1;fun h1 h2 h3 h4 h5 h6 h7 h8 h9 h10 h11 h12 h13 h14 h15 h16 h17 h18 h19 h20 h21 h22 h23 h24 h25 h26 h27 h28 h29 h30 h31 h32 h33 h34 nx u1 eZ=>zG [.g,.g,.g,.g,.l (iV n1),.l (pz p),.g,.g,.g,.l (iV n2),.b false,.l (pz p),.g,.g,.l (.map (some m3)),.l (qh (iV s_d::stL s)),.v (.tuple ⟨[qh [iV n4,iV n5,iV n6,iV n7,iV n8,iV n9,.slice q10 l10 c10,.bool b11],.bool false]⟩),.g,.g,.g,.g,.e undef s5,.g,.g,.l (pz p),.g,.g,.l (qh (wkc n13 q14 l14 c14 q15 l15 c15 n16 n17 n18)),.g,.l (iV n19),.c (.slice q20 l20 c20) Z21,.g,.e undef s7,.l (pz a22),.g,.g,.e undef s9,.g,.g,.g,.e undef s12,.l (.func (.func 100) ⟨[]⟩ ⟨[pq Z21.y 0,pq Z.y 0,pq s13 0,pq s16 0,pq s14 0,pq s15 0]⟩),.g,.l (qh (stL f23)),.c (.tuple ⟨[]⟩) Z24,.l (pz a25),.g,.g,.l (.map (some m26)),.l (qh (iV n27::stL f28)),.l (qh [iV n29,iV n30,iV n31,iV n32,iV n33,iV n34,.slice q35 l35 c35,.bool b36]),.e undef Z37,.l (qh [iV n38,iV n39,iV n40,iV n41,iV n42,iV n43,.slice q44 l44 c44,.bool b45]),.e undef Z46,.l (qh [iV n47,iV n48,iV n49,iV n50,iV n51,iV n52,.slice q53 l53 c53,.bool b54])] (kd (an4 h1 ((zC _ _ _).row.row.rw.ld uV (k:=0) rfl:lz s3 125 (qg Z.y 0) (pz p)) h2 (yD u1) (an6 ((zC _ _ _).row.row.rw.ld uV (k:=0) rfl:lz s3 125 (qg Z.y 0) (pz p)) h3 h4 h5 ((zC _ _ _).store (vs:=[iV n4,iV n5,iV n6,iV n7,iV n8,iV n9,.slice q10 l10 c10,.bool b11]) rfl uD rfl (nle rfl) rfl:qq (evL [pq ((Z.y+3)) 0,qh [iV n4,iV n5,iV n6,iV n7,iV n8,iV n9,.slice q10 l10 c10,.bool b11]]) s4 (.store 130 (.tmp 0) (.tmp 1))=some (undef,s5)) ((zE (zO (nlt Z.y 0 3 rfl)) zI):zH s3.y [pq Z.y 0]) (an6 ((zE (zO (vN eZ 3)) zI):zH s3.y [pz (zJ p 8)]) ((zE (zO (nlt Z.y 1 3 rfl)) zI):zH s3.y [pq s13 0]) h6 h7 (⟨⟨(nlt Z.y 0 3 rfl),rfl⟩,((zC _ _ _).row.row.rw.ld uV (k:=0) rfl)⟩:(zLq s3 125 (qg Z.y 0) (pz p))) (⟨⟨(nlt Z.y 0 4 rfl),rfl⟩,h8⟩:(zLq s4 125 (qg Z.y 0) (pz p))) (an6 (⟨⟨(vN eZ 3),rfl⟩,h3⟩:(zLq s3 126 (zJ p 8) (.map (some m3)))) (⟨⟨(vN eZ 4),rfl⟩,h9⟩:(zLq s4 126 (zJ p 8) (.map (some m3)))) (⟨⟨(nlt Z.y 1 3 rfl),rfl⟩,h4⟩:(zLq s3 133 (qg s13 0) (qh (iV s_d::stL s)))) (⟨⟨(nlt Z.y 1 4 rfl),rfl⟩,h10⟩:(zLq s4 133 (qg s13 0) (qh (iV s_d::stL s)))) h11 h12 (an6 (((zC _ _ _).row.row.row.own (nne Z.y 0 3 rfl)).rw.ld uV (k:=0) rfl:lz s5 125 (qg Z.y 0) (pz p)) h13 h14 h15 ((zC _ _ _).store (vs:=[.slice q20 l20 c20]) rfl zXH rfl (nle rfl) rfl:qq (evL [pq Z21.y 0,.slice q20 l20 c20]) s6 (.store 26 (.tmp 0) (.tmp 1))=some (undef,s7)) ((zE (zO (nlt Z.y 0 4 rfl)) zI):zH s5.y [pq Z.y 0]) (an6 ((zE (zO (vN eZ 4)) zI):zH s5.y [pz p]) ((zE (zO (nlt Z.y 1 4 rfl)) zI):zH s5.y [pq s13 0]) h16 h17 h18 h19 (an6 h20 h21 h22 h23 h24 ((zC _ _ _).store (vs:=[.func (.func 99) ⟨[pz a22]⟩ ⟨[]⟩]) rfl xRE rfl (nle rfl) rfl:qq (evL [pq s15 0,.func (.func 99) ⟨[pz a22]⟩ ⟨[]⟩]) s8 (.store 143 (.tmp 0) (.tmp 1))=some (undef,s9)) (an6 ((zC _ _ _).store (vs:=[.func (.func 100) ⟨[]⟩ ⟨[pq Z21.y 0,pq Z.y 0,pq s13 0,pq s16 0,pq s14 0,pq s15 0]⟩]) rfl xRD rfl (nle rfl) rfl:qq (evL [pq s14 0,.func (.func 100) ⟨[]⟩ ⟨[pq Z21.y 0,pq Z.y 0,pq s13 0,pq s16 0,pq s14 0,pq s15 0]⟩]) s11 (.store 144 (.tmp 0) (.tmp 1))=some (undef,s12)) ((zC _ _ _).put.rw.ld xPU (k:=0) rfl:lz s12 144 (qg s14 0) (.func (.func 100) ⟨[]⟩ ⟨[pq Z21.y 0,pq Z.y 0,pq s13 0,pq s16 0,pq s14 0,pq s15 0]⟩)) h25 h26 h27 h28 (an6 h29 h30 h31 h32 h33 h34 nx))))))))))
end
section
variable {K:PlK} {z:St} {F:Key->Option EndR} {X:Nat->Prop}
def zGG (K:PlK) (r D:Nat) (st:Nat->Std) (z:St) (F:Key->Option EndR) (X:Nat->Prop) (v:Value) (s:St):Prop:=∃ e o F' X',v=zDB e/\PlW K s F' X'/\EndP s X' e o/\xU 6 (K.ch r D st) o/\(∀ b,X b->X' b)/\(∀ b,X' b->X b\/z.y<=b)/\(s.low<=K.bm\/(F'=F/\X'=X))
theorem zGG.low {r D:Nat} {st:Nat->Std} {v:Value} {s:St} {m:Nat} (hm:m<=s.low) (h:zGG K r D st z F X v s):zGG K r D st z F X v ⟨s.heap,s.y,m⟩:=by
 obtain ⟨e,o,F',X',h1,h2,h3,h4,h5,h6,h7⟩:=h;have k:Le s ⟨s.heap,s.y,m⟩:=⟨Nat.le_refl _,fun _ _=>rfl⟩;refine ⟨e,o,F',X',h1,h2.le k,h3.le k,h4,h5,h6, ?_⟩
 rcases h7 with h | h
 ·exact .inl (Nat.le_trans hm h)
 ·exact .inr h
theorem xBV {b n:Nat} (h:b<n):yX RD n (.map (some b))=true:=by
 show Nat.blt b n=true;exact (wJ _ _).2 h
theorem xBU (r:Nat) (h:∀ (z:St) (F:Key->Option EndR) (X:Nat->Prop) (D:Nat) (st:Nat->Std),D+r=K.n->PlW K z F X->(∀ k,k<K.m->StG (st k))->zP Pg 84 [.pointer (some ⟨K.Bp,0,none⟩),.agg ⟨iV (D:Int)::stL st⟩] z.re fun v s=>Only (·=K.bm) z.re s/\(s.low<z.y\/zW RD v=false\/zGG K r D st z F X v z)/\zGG K r D st z F X v s):zRE K r:=by
 intro z F X D st hr W hst;obtain ⟨v,s,h1,h2,e,o,F',X',rfl,h3⟩:=xXK (h z F X D st hr W hst) (fun v s m hm q=>q.low hm);exact ⟨s,e,o,F',X',h1,h2,h3⟩
theorem xHH (ok:K.Ok):zRE K 0:=by
 refine xBU 0 fun z F X D st hr W hst=>?_
 have zr:z.re.y=z.y:=rfl;obtain ⟨τ1,hτ1⟩:∃ τ1,τ1=((z.re.row [.pointer (some ⟨K.Bp,0,none⟩)] 1).row (iV (D:Int)::stL st) (iV (D:Int)::stL st:List Value).length).row [iV 0,iV 0,iV 0,iV 0,iV 0,iV 0,.slice none 0 0,.bool false] 8:=⟨_,rfl⟩;have N1:New z.re τ1:=by rw [hτ1];exact ((New.row _ _ _).row').row'
 have o1:Own τ1 (z.y+1) (iV (D:Int)::stL st) (iV (D:Int)::stL st:List Value).length:=by rw [hτ1];exact (zC _ _ _).row
 have h1:zB Pg τ1 3 ⟨z.re.y+1,0,none⟩=some (iV (D:Int)):=o1.ld (k:=0) rfl zU rfl;have h2:zB Pg τ1 3 ⟨K.Bp,0,none⟩=some (iV K.w.days):=(W.pr.le ((le0 z).trans N1.le)).ld zU rfl;obtain ⟨τ2,hτ2⟩:∃ τ2,τ2=τ1.own (z.re.y+2) (zEM ⟨zDK,none,0,0,true⟩) 8:=⟨_,rfl⟩;have N2:New z.re τ2:=by rw [hτ2];exact N1.own (by omega)
 have L2:Le z τ2:=(le0 z).trans N2.le;have eo:∀ s,EndP s X ⟨zDK,none,0,0,true⟩ (some ([],zDK)):=fun s=>⟨rfl,(fun x hx=>by simp [zDK] at hx;omega),(fun b hb=>by obtain ⟨a,e,_⟩:=hb;cases e),rfl,rfl,⟨SlP.nil _ _,rfl,fun v hv=>by cases hv⟩⟩
 have hb:xU 6 (K.ch 0 D st) (some ([],zDK)):=⟨⟨rfl,rfl⟩,rfl,fun b u hc=>by rw [hc.2];exact zGY _⟩;have key:∀ s,Le z s->zGG K 0 D st z F X (zDB ⟨zDK,none,0,0,true⟩) s:=fun s hs=>⟨_,_,F,X,rfl,W.le hs,eo s,hb,fun _ h=>h,fun _ h=>.inl h,.inr ⟨rfl,rfl⟩⟩
 have nx:Only (·=K.bm) z.re τ2/\(τ2.low<z.y\/zW RD (zDB ⟨zDK,none,0,0,true⟩)=false\/zGG K 0 D st z F X (zDB ⟨zDK,none,0,0,true⟩) z)/\zGG K 0 D st z F X (zDB ⟨zDK,none,0,0,true⟩) τ2:=⟨N2.only,.inr (.inr (key z (Le.refl _))),key τ2 L2⟩;have u1:(D:Int)=K.w.days:=by have:=ok.dn;omega
 subst hτ2 hτ1;exact xUP h1 h2 nx u1
theorem xHI (ok:K.Ok) {r:Nat} (ih:zRE K r):zRE K (r+1):=by
 refine xBU (r+1) fun z F X D st hr W hst=>?_
 have zr:z.re.y=z.y:=rfl;have hbp:=W.pr.lt;have hbp:K.Bp<z.y:=hbp;have hbm:K.bm<z.y:=W.mp.1;have hln:=ok.wk.len;have hn7:=ok.n7;obtain ⟨τ1,hτ1⟩:∃ τ1,τ1=z.re.row [.pointer (some ⟨K.Bp,0,none⟩)] 1:=⟨_,rfl⟩;have n1:τ1.y=z.y+1:=by rw [hτ1];rfl
 have M1:New z.re τ1:=by rw [hτ1];exact New.row _ _ _
 have q1:Own τ1 z.y [.pointer (some ⟨K.Bp,0,none⟩)] 1:=by rw [hτ1];exact zC z.re _ _
 obtain ⟨τ2,hτ2⟩:∃ τ2,τ2=τ1.row (iV (D:Int)::stL st) (iV (D:Int)::stL st:List Value).length:=⟨_,rfl⟩;have n2:τ2.y=z.y+2:=by rw [hτ2];show τ1.y+1=_;omega
 have M2:New z.re τ2:=by rw [hτ2];exact M1.row'
 have o2:Own τ2 (z.y+1) (iV (D:Int)::stL st) (iV (D:Int)::stL st:List Value).length:=by rw [hτ2,<- n1];exact zC _ _ _
 have q2:Own τ2 z.y [.pointer (some ⟨K.Bp,0,none⟩)] 1:=by rw [hτ2];exact q1.row
 obtain ⟨τ3,hτ3⟩:∃ τ3,τ3=τ2.row [iV 0,iV 0,iV 0,iV 0,iV 0,iV 0,.slice none 0 0,.bool false] 8:=⟨_,rfl⟩;have n3:τ3.y=z.y+3:=by rw [hτ3];show τ2.y+1=_;omega
 have M3:New z.re τ3:=by rw [hτ3];exact M2.row'
 have r3:Own τ3 (z.y+2) [iV 0,iV 0,iV 0,iV 0,iV 0,iV 0,.slice none 0 0,.bool false] 8:=by rw [hτ3,<- n2];exact zC _ _ _
 have o3:Own τ3 (z.y+1) (iV (D:Int)::stL st) (iV (D:Int)::stL st:List Value).length:=by rw [hτ3];exact o2.row
 have q3:Own τ3 z.y [.pointer (some ⟨K.Bp,0,none⟩)] 1:=by rw [hτ3];exact q2.row
 obtain ⟨τ4,hτ4⟩:∃ τ4,τ4=τ3.row [iV 0,iV 0,iV 0,iV 0,iV 0,iV 0,.slice none 0 0,.bool false] 8:=⟨_,rfl⟩;have n4:τ4.y=z.y+4:=by rw [hτ4];show τ3.y+1=_;omega
 have M4:New z.re τ4:=by rw [hτ4];exact M3.row'
 have l4:Own τ4 (z.y+3) [iV 0,iV 0,iV 0,iV 0,iV 0,iV 0,.slice none 0 0,.bool false] 8:=by rw [hτ4,<- n3];exact zC _ _ _
 have o4:Own τ4 (z.y+1) (iV (D:Int)::stL st) (iV (D:Int)::stL st:List Value).length:=by rw [hτ4];exact o3.row
 have q4:Own τ4 z.y [.pointer (some ⟨K.Bp,0,none⟩)] 1:=by rw [hτ4];exact q3.row
 have L:∀ {s},New z.re s->Le z s:=fun h=>(le0 z).trans h.le
 have ldD:∀ s,Own s (z.y+1) (iV (D:Int)::stL st) (iV (D:Int)::stL st:List Value).length->zB Pg s 3 ⟨z.y+1,0,none⟩=some (iV (D:Int)):=fun s o=>o.ld (k:=0) rfl zU rfl
 have lds:∀ s,Own s (z.y+1) (iV (D:Int)::stL st) (iV (D:Int)::stL st:List Value).length->zB Pg s 133 ⟨z.y+1,0,none⟩=some (.agg ⟨iV (D:Int)::stL st⟩):=fun s o=>o.rw.ldN xYQ xRF (k:=0) rfl rfl (nle rfl)
 have ldn:∀ s,Row s ⟨K.Bp,0,none⟩ K.row->zB Pg s 3 ⟨K.Bp,0,none⟩=some (iV K.w.days):=fun s o=>o.ld zU rfl
 have ldm:∀ s,Row s ⟨K.Bp,0,none⟩ K.row->zB Pg s 126 (zJ ⟨K.Bp,0,none⟩ 8)=some (.map (some K.bm)):=fun s o=>o.load1 xYR rfl
 have ldq:∀ s,Own s z.y [.pointer (some ⟨K.Bp,0,none⟩)] 1->zB Pg s 125 ⟨z.y,0,none⟩=some (.pointer (some ⟨K.Bp,0,none⟩)):=fun s o=>o.ld (k:=0) rfl uV rfl
 have h1:=ldD τ3 o3;have h2:=ldn τ3 (W.pr.le (L M3));have h3:=ldm τ3 (W.pr.le (L M3));have h4:=lds τ3 o3;have h6:zH τ3.y [.map (some K.bm),.agg ⟨iV (D:Int)::stL st⟩]:=(zE (xBV (by omega)) (zE (yK rfl) zI));have h6':zH τ4.y [.map (some K.bm),.agg ⟨iV (D:Int)::stL st⟩]:=(zE (xBV (by omega)) (zE (yK rfl) zI));have h8:=ldq τ4 q4;have h9:=ldm τ4 (W.pr.le (L M4));have h10:=lds τ4 o4;have u1:¬ (D:Int)=K.w.days:=by have:=ok.dn;omega
 have bp:K.Bp<z.re.y:=hbp;have mp3:=W.mp.le (L M3);have mp4:=W.mp.le (L M4);have zt:zAD Pg 130=some (.agg ⟨[iV 0,iV 0,iV 0,iV 0,iV 0,iV 0,.slice none 0 0,.bool false]⟩):=by kernel_rfl
 cases hF:F (zJV (D:Int) st) with
 | some e =>
  obtain ⟨o,eo,bo⟩:=W.kn D st e hF (r+1) hr;have h5:=mp3.look1 zDY xLW zt hF;have h5':=mp4.look1 zDY xLW zt hF;rw [yIW] at h5 h5';have h7:zH τ4.y [.pointer (some ⟨z.y+3,0,none⟩),zDB e]:=(zE (zO (show z.y+3<τ4.y by omega)) (zE (zKR fun a h=>(show a.block<τ4.y by have:=(W.xb a.block (eo.bl a.block ⟨a,h,rfl⟩)).1;omega)) zI));have h11:((zH τ3.y [.map (some K.bm),.agg ⟨iV (D:Int)::stL st⟩]/\zM RD (.tuple ⟨[zDB e,.bool true]⟩)=true)/\_):=⟨⟨h6,rfl⟩,h5⟩;have h12:((zH τ4.y [.map (some K.bm),.agg ⟨iV (D:Int)::stL st⟩]/\zM RD (.tuple ⟨[zDB e,.bool true]⟩)=true)/\_):=⟨⟨h6',rfl⟩,h5'⟩;obtain ⟨τ5,hτ5⟩:∃ τ5,τ5=(τ4.own (z.re.y+3) (zEM e) 8).own (z.re.y+2) (zEM e) 8:=⟨_,rfl⟩;have M5:New z.re τ5:=by rw [hτ5];exact (M4.own (by omega)).own (by omega)
  have key:∀ s,Le z s->zGG K (r+1) D st z F X (zDB e) s:=fun s hs=>⟨e,o,F,X,rfl,W.le hs,eo.le hs,bo,fun _ h=>h,fun _ h=>.inl h,.inr ⟨rfl,rfl⟩⟩
  have nx:Only (·=K.bm) z.re τ5/\(τ5.low<z.y\/zW RD (zDB e)=false\/zGG K (r+1) D st z F X (zDB e) z)/\zGG K (r+1) D st z F X (zDB e) τ5:=⟨M5.only,.inr (.inr (key z (Le.refl _))),key τ5 (L M5)⟩;subst hτ5 hτ4 hτ3 hτ2 hτ1;exact xUO h1 h2 h3 h4 h5 h6 h7 h8 h9 h10 h11 h12 nx u1 bp
 | none =>
  have h5:=mp3.look0 zDY xLW zt hF;have h5':=mp4.look0 zDY xLW zt hF;rw [yIW] at h5 h5';have h7:zH τ4.y [.pointer (some ⟨z.y+3,0,none⟩),.agg ⟨[iV 0,iV 0,iV 0,iV 0,iV 0,iV 0,.slice none 0 0,.bool false]⟩]:=(zE (zO (show z.y+3<τ4.y by omega)) (zE (yK rfl) zI));have h11:((zH τ3.y [.map (some K.bm),.agg ⟨iV (D:Int)::stL st⟩]/\zM RD (.tuple ⟨[.agg ⟨[iV 0,iV 0,iV 0,iV 0,iV 0,iV 0,.slice none 0 0,.bool false]⟩,.bool false]⟩)=true)/\_):=⟨⟨h6,rfl⟩,h5⟩;have h12:((zH τ4.y [.map (some K.bm),.agg ⟨iV (D:Int)::stL st⟩]/\zM RD (.tuple ⟨[.agg ⟨[iV 0,iV 0,iV 0,iV 0,iV 0,iV 0,.slice none 0 0,.bool false]⟩,.bool false]⟩)=true)/\_):=⟨⟨h6',rfl⟩,h5'⟩;obtain ⟨τ5,hτ5⟩:∃ τ5,τ5=τ4.own (z.re.y+3) [iV 0,iV 0,iV 0,iV 0,iV 0,iV 0,.slice none 0 0,.bool false] 8:=⟨_,rfl⟩;have n5:τ5.y=z.y+4:=by rw [hτ5];exact n4
  have M5:New z.re τ5:=by rw [hτ5];exact M4.own (by omega)
  have k5:Only (·=z.y+3) τ4 τ5:=by rw [hτ5];exact Only.own (.inr rfl)
  have q5:=k5.own' q4 (show ¬ z.y=z.y+3 by omega);have o5:=k5.own' o4 (show ¬ z.y+1=z.y+3 by omega);have r5:=k5.own' (show Own τ4 (z.y+2) [iV 0,iV 0,iV 0,iV 0,iV 0,iV 0,.slice none 0 0,.bool false] 8 by rw [hτ4];exact r3.row) (show ¬ z.y+2=z.y+3 by omega);have ldw:∀ s,Row s ⟨K.Bp,0,none⟩ K.row->zB Pg s 34 ⟨K.Bp,0,none⟩=some (.agg ⟨[iV K.w.days,.slice K.p K.l K.c,.slice K.q K.m K.d,iV K.w.rest,iV K.w.run,iV K.w.hours]⟩):=fun s o=>o.ldN xV xB (k:=0) rfl rfl (nle rfl)
  have W5:=W.le (L M5);have h13:=ldw τ5 W5.pr;have h14:=ldD τ5 o5;obtain ⟨p6,c6,τ6,c15,M6,I6',f6⟩:=yPW (Z:=τ5) (D:=D) (c:=K.c) (d:=K.d) (ok.wk.le W5.fl) (by have:=ok.sn.l12;omega);have n6:=M6.nx;have wk5:=ok.wk.le W5.fl;have pab:∀ a,K.p=some a->a.block<τ5.y:=wA wk5.dty;have qab:∀ a,K.q=some a->a.block<τ5.y:=by obtain ⟨vs,g,_⟩:=wk5.drv;exact wA g
  have h16:zH τ5.y [.agg ⟨[iV K.w.days,.slice K.p K.l K.c,.slice K.q K.m K.d,iV K.w.rest,iV K.w.run,iV K.w.hours]⟩,iV (D:Int)]:=(zE (zMD pab qab) (zE rfl zI));obtain ⟨τ7,hτ7⟩:∃ τ7,τ7=τ6.row [.slice none 0 0] 1:=⟨_,rfl⟩;have n7:τ7.y=τ6.y+1:=by rw [hτ7];rfl
  have M7:New τ6 τ7:=by rw [hτ7];exact New.row _ _ _
  have h17:zH τ7.y [.pointer (some ⟨τ6.y,0,none⟩),.slice p6 (yF K.w D K.l).length c6]:=(zE (zO (show τ6.y<τ7.y by omega)) (zE (yQ fun a h=>(show a.block<τ7.y by have:=I6'.lt a.block ⟨a,h,rfl⟩;omega)) zI));have q6:=q5.le M6.le;have q7:=q6.le M7.le;have o6:=o5.le M6.le;have o7:=o6.le M7.le;have W6:=W5.le M6.le;have W7:=W6.le M7.le;have h18:=(⟨⟨show z.y<τ6.y by omega,rfl⟩,ldq τ6 q6⟩:(z.y<τ6.y/\zM RD (.pointer (some ⟨K.Bp,0,none⟩))=true)/\_);have h19:=(⟨⟨show z.y<τ7.y by omega,rfl⟩,ldq τ7 q7⟩:(z.y<τ7.y/\zM RD (.pointer (some ⟨K.Bp,0,none⟩))=true)/\_);have h20:=(⟨⟨show K.Bp<τ6.y by omega,rfl⟩,ldw τ6 W6.pr⟩:(K.Bp<τ6.y/\zM RD (.agg ⟨[iV K.w.days,.slice K.p K.l K.c,.slice K.q K.m K.d,iV K.w.rest,iV K.w.run,iV K.w.hours]⟩)=true)/\_);have h21:=(⟨⟨show K.Bp<τ7.y by omega,rfl⟩,ldw τ7 W7.pr⟩:(K.Bp<τ7.y/\zM RD (.agg ⟨[iV K.w.days,.slice K.p K.l K.c,.slice K.q K.m K.d,iV K.w.rest,iV K.w.run,iV K.w.hours]⟩)=true)/\_);have h22:=(⟨⟨show z.y+1<τ6.y by omega,rfl⟩,ldD τ6 o6⟩:(z.y+1<τ6.y/\zM RD (iV (D:Int))=true)/\_);have h23:=(⟨⟨show z.y+1<τ7.y by omega,rfl⟩,ldD τ7 o7⟩:(z.y+1<τ7.y/\zM RD (iV (D:Int))=true)/\_);let G:GvK:=⟨K,D,r,st,p6,c6,τ6.y,z.y,z.y+1,τ6.y+2,τ6.y+3,τ6.y+1,τ6.y+4⟩;obtain ⟨τ8,hτ8⟩:∃ τ8,τ8=τ7.own τ6.y [.slice p6 (yF K.w D K.l).length c6] 1:=⟨_,rfl⟩;have n8:τ8.y=τ6.y+1:=by rw [hτ8];exact n7
  have M8:New τ6 τ8:=by rw [hτ8];exact M7.own (Nat.le_refl _)
  have u8:Own τ8 τ6.y [.slice p6 (yF K.w D K.l).length c6] 1:=by rw [hτ8,hτ7];exact (zC _ _ _).put
  have h24:=ldq τ8 (q6.le M8.le);obtain ⟨τ9,hτ9⟩:∃ τ9,τ9=(τ8.row [.nilFunc] 1).own (τ6.y+1) [.func (.func 99) ⟨[.pointer (some ⟨K.Bp,0,none⟩)]⟩ ⟨[]⟩] 1:=⟨_,rfl⟩;have n9:τ9.y=τ6.y+2:=by rw [hτ9];show τ8.y+1=_;omega
  have M9:New τ6 τ9:=by rw [hτ9];exact M8.row'.own (by omega)
  have y9:Own τ9 (τ6.y+1) [.func (.func 99) ⟨[.pointer (some ⟨K.Bp,0,none⟩)]⟩ ⟨[]⟩] 1:=by rw [hτ9,<- n8];exact (zC _ _ _).put
  have u9:Own τ9 τ6.y [.slice p6 (yF K.w D K.l).length c6] 1:=by rw [hτ9];exact u8.row.own (by omega)
  obtain ⟨τa,hτa⟩:∃ τa,τa=(τ9.row [iV 0,iV 0,iV 0,iV 0,iV 0,iV 0,.slice none 0 0,.bool false] 8).row [.nilFunc] 1:=⟨_,rfl⟩;have na:τa.y=τ6.y+4:=by rw [hτa];show τ9.y+1+1=_;omega
  have Ma:New τ6 τa:=by rw [hτa];exact M9.row'.row'
  obtain ⟨τb,hτb⟩:∃ τb,τb=τa.own (τ6.y+3) [.func (.func 100) ⟨[]⟩ ⟨G.args⟩] 1:=⟨_,rfl⟩;have nb:τb.y=τ6.y+4:=by rw [hτb];exact na
  have Mb:New τ6 τb:=by rw [hτb];exact Ma.own (by omega)
  have gb:Own τb (τ6.y+3) [.func (.func 100) ⟨[]⟩ ⟨G.args⟩] 1:=by
   rw [hτb,hτa,show τ6.y+3=(τ9.row [iV 0,iV 0,iV 0,iV 0,iV 0,iV 0,.slice none 0 0,.bool false] 8).y by show _=τ9.y+1;omega];exact (zC _ _ _).put
  have eb:Own τb (τ6.y+2) [iV 0,iV 0,iV 0,iV 0,iV 0,iV 0,.slice none 0 0,.bool false] 8:=by
   rw [hτb,hτa];refine Own.own ?_ (by omega);rw [<- n9];exact (zC _ _ _).row
  have yb:Own τb (τ6.y+1) [.func (.func 99) ⟨[.pointer (some ⟨K.Bp,0,none⟩)]⟩ ⟨[]⟩] 1:=by rw [hτb,hτa];exact y9.row.row.own (by omega)
  have ub:Own τb τ6.y [.slice p6 (yF K.w D K.l).length c6] 1:=by rw [hτb,hτa];exact u9.row.row.own (by omega)
  have ob:=o6.le Mb.le;have qb:=q6.le Mb.le;have Wb:=W6.le Mb.le;have Ib:yG τb p6 (yF K.w D K.l).length (zNU (yF K.w D K.l)):=SlV.le I6' Mb.le;have okG:G.Ok:=⟨ok,by show D+(r+1)=K.n;exact hr,by show K.Zf.y<=τ6.y+2;have:=W.fl.y;omega,by show K.Zf.y<=τ6.y+4;have:=W.fl.y;omega,⟨by show τ6.y<τ6.y+4;omega,by show z.y<τ6.y+4;omega,by show z.y+1<τ6.y+4;omega,by show τ6.y+2<τ6.y+4;omega,by show τ6.y+3<τ6.y+4;omega,by show τ6.y+1<τ6.y+4;omega,by show K.Bp<τ6.y+4;omega,by show K.bm<τ6.y+4;omega⟩,⟨by show τ6.y+2≠τ6.y;omega,by show τ6.y+2≠z.y;omega,by show τ6.y+2≠z.y+1;omega,by show τ6.y+2≠τ6.y+3;omega,by show τ6.y+2≠τ6.y+1;omega,by show τ6.y+2≠K.Bp;omega,by show τ6.y+2≠K.bm;omega⟩,⟨by show K.bm≠τ6.y;omega,by show K.bm≠z.y;omega,by show K.bm≠z.y+1;omega,by show K.bm≠τ6.y+3;omega,by show K.bm≠τ6.y+1;omega⟩⟩;have hx6:∀ b,AtP p6 b->τ5.y<=b/\b<τ6.y:=fun b hb=>⟨f6 b hb,I6'.lt b hb⟩
  have Wg:PlW K τb F (fun b=>X b\/AtP p6 b):=Wb.mono (fun b h=>.inl h) (fun b h=>by
   rcases h with h | h
   ·exact Wb.xb b h
   ·have:=hx6 b h;exact ⟨by omega,by omega⟩)
  have GW:GvW G τb F (fun b=>X b\/AtP p6 b) ⟨zDK,none,0,0,false⟩:=⟨Wg,ub.rw,Ib,fun b h=>.inr h,qb.rw,ob.rw,gb.rw,yb.rw,eb,fun b h=>by
   show b≠τ6.y+2;rcases h with h | h
   ·have:=(W.xb b h).1;omega
   ·have:=hx6 b h;omega,by show τ6.y+4<=τb.y;omega⟩
  have e0:EndP τb (fun b=>X b\/AtP p6 b) ⟨zDK,none,0,0,false⟩ none:=⟨rfl,(fun x hx=>by simp [zDK] at hx;omega),(fun b hb=>by obtain ⟨a,e,_⟩:=hb;cases e),rfl⟩;obtain ⟨τc,c26,kc,F',X',e',o',R,_⟩:=xNU okG ih G.du (who:=[]) (pl:=none) (lc:=0) (sf:=[]) (st:=st) (C:=fun _ _=>False) (o:=none) GW e0 (fun _ _ h=>h) (fun _ _ h=>h.elim) Stk.nil (fun b hb=>by obtain ⟨a,e,_⟩:=hb;cases e) ⟨[],rfl,rfl⟩ hst;have nc:=kc.y;have noS:∀ b,b≠K.bm->b≠τ6.y+2->¬ zND G none b:=fun b h1 h2 h=>by
   rcases h with h | h | ⟨a,h,_⟩
   ·exact h1 h
   ·exact h2 h
   ·cases h
  have bo':xU 6 (K.ch (r+1) D st) o':=R.bo.iff fun a v=>by
   show (False\/zTN K.w K.leaves K.wf r D (yF K.w D K.l) [] st a v)↔Ch K.w K.leaves K.wf (r+1) D st a v;rw [xVK,hln.1];simp
  have qc:Own τc z.y [.pointer (some ⟨K.Bp,0,none⟩)] 1:=kc.own' qb (noS _ (by omega) (by omega));have oc:=kc.own' ob (noS _ (by omega) (by omega));have rc':=kc.own' ((r5.le M6.le).le Mb.le) (noS _ (by omega) (by omega));have h25:zB Pg τb 109 ⟨z.y+1,1,none⟩=some (.agg ⟨stL st⟩):=ob.rw.ldN xPV yHK (k:=1) (ds:=stL st) rfl rfl (by simp [stL]);have h27:=ldq τc qc;have h28:=ldm τc R.w.w.pr;have h29:=lds τc oc;have lde:∀ s b,Own s b (zEM e') 8->zB Pg s 130 ⟨b,0,none⟩=some (zDB e'):=fun s b o=>o.rw.ldN yKF uD (k:=0) rfl rfl (nle rfl)
  have h30:=lde τc (τ6.y+2) R.w.oo;obtain ⟨τd,h31,kd,lod,lod',Wd⟩:=R.w.w.set ok hr R.ep bo';have nd:=kd.y;have ed:Own τd (τ6.y+2) (zEM e') 8:=kd.own' R.w.oo (show ¬ τ6.y+2=K.bm by omega);have h32:=lde τd (τ6.y+2) ed;have rd:=kd.own' rc' (show ¬ z.y+2=K.bm by omega);have h33:=rd.store (P:=Pg) (k:=0) (t:=130) (v:=zDB e') (vs:=zEM e') (ds:=zEM e') rfl uD rfl (nle rfl) rfl;obtain ⟨τe,hτe⟩:∃ τe,τe=τd.own (z.y+2) (zEM e') 8:=⟨_,rfl⟩;have re:Own τe (z.y+2) (zEM e') 8:=by rw [hτe];exact rd.put
  have ke:Only (·=z.y+2) τd τe:=by rw [hτe];exact Only.own (.inr rfl)
  have loe:τe.low<=τd.low:=by rw [hτe];simp [St.own];omega
  rw [<- hτe] at h33;have h34:=lde τe (z.y+2) re;have hxd:∀ b,X' b->b≠z.y+2:=fun b hb h=>by
   rcases R.x2 b hb with g | g
   ·rcases g with g | g
    ·have:=(W.xb b g).1;omega
    ·have:=hx6 b g;omega
   ·omega
  have We:=Wd.only ke (fun b h=>by have:=W.fl.y;omega) (show ¬ K.Bp=z.y+2 by omega) (show ¬ K.bm=z.y+2 by omega) hxd;have Ee:EndP τe X' e' o':=(R.ep.only kd (fun b hb=>(R.w.w.xb b hb).2)).only ke hxd;have kAll:Only (·=K.bm) z.re τe:=((((M5.only.trans' M6.only (T:=fun _=>False) (fun b _ h=>h.elim)).trans' Mb.only (T:=fun _=>False) (fun b _ h=>h.elim)).trans' kc (fun b _ h=>by
   rcases h with h | h | ⟨a,h,_⟩
   ·exact .inl h
   ·exact .inr (by have h:b=τ6.y+2:=h;omega)
   ·cases h)).trans' kd (fun b _ h=>.inl h)).trans' ke (fun b _ h=>.inr (by omega))
  have nx:Only (·=K.bm) z.re τe/\(τe.low<z.y\/zW RD (zDB e')=false\/zGG K (r+1) D st z F X (zDB e') z)/\zGG K (r+1) D st z F X (zDB e') τe:=⟨kAll,.inl (by omega),e',o',_,X',rfl,We,Ee,bo',fun b hb=>R.x1 b (.inl hb),fun b hb=>by
   rcases R.x2 b hb with (g | g) | g
   ·exact .inl g
   ·exact .inr (by have:=hx6 b g;omega)
   ·exact .inr (by omega),.inl (by omega)⟩
  subst hτb hτa hτ9 hτ8 hτ7 hτ5 hτ4 hτ3 hτ2 hτ1;exact xUN h1 h2 h3 h4 h5 h6 h7 h8 h9 h10 h11 h12 h13 h14 c15 h16 h17 h18 h19 h20 h21 h22 h23 h24 h25 c26 h27 h28 h29 h30 h31 h32 h33 h34 nx u1 bp
theorem xOZ (ok:K.Ok):∀ r,zRE K r
 | 0=>xHH ok
 | r+1=>xHI ok (xOZ ok r)
end
section
variable {Z τ:St} {w:Wk} {p q:Option Addr} {l m c d n:Nat} {rv tv:Value} {ros tru:Nat->Int} {A:List Bch} {ms:List Nat}
theorem yEW {k:Nat}:(zFS w ros tru n k).length<=k:=by
 unfold zFS;have:=List.length_filterMap_le (fun k=>if w.hours<(xO w ros tru k n).used then some (⟨5,k,0⟩:Bch) else none) (List.range k);simpa using this
theorem xLZ (hm6:m<=6) (hA:A.length<=500) (hms:∀ y∈ms,Z.y+5<=y/\y<τ.y)
  (hJ:J Z (wkc w.days p l c q m d w.rest w.run w.hours) rv tv (fun x=>x∈ms) (stF w ros tru m n 0) A τ) :
  zTA Z.y (Z.y+3) (Z.y+4) m ms 0 τ (fun z=>J Z (wkc w.days p l c q m d w.rest w.run w.hours) rv tv (fun x=>x∈ms) (stF w ros tru m n 0) (A++zFS w ros tru n m) z/\Only (fun x=>¬ x∈ms) τ z):=by
 refine yJV (Inv:=fun k' i z=>∃ k:Nat,i=k/\k+k'=m/\J Z (wkc w.days p l c q m d w.rest w.run w.hours) rv tv (fun x=>x∈ms) (stF w ros tru m n 0) (A++zFS w ros tru n k) z/\Only (fun x=>¬ x∈ms) τ z) ?_ m 0 τ ⟨0,rfl,by omega,by simpa [zFS] using hJ,Only.refl _ _⟩;rintro k' i z ⟨k,rfl,hk',hz,O⟩;by_cases hk:k<m;rotate_left
 ·have:k=m:=by omega
  subst this;exact yXT ⟨hz,O⟩ (by omega)
 have lu:=xIR hz.nw (i:=k) (by omega);have lh:zB Tryz.prog z 3 ⟨Z.y,5,none⟩=some (iV w.hours):=hz.wk.ld zU rfl;have ef:(stF w ros tru m n 0 k).used=(xO w ros tru k n).used:=by unfold stF;rw [if_pos hk];rfl
 rw [ef] at lu;have es:=xTC (w:=w) (ros:=ros) (tru:=tru) (n:=n) (k:=k);have hl:=yEW (w:=w) (ros:=ros) (tru:=tru) (n:=n) (k:=k);by_cases hh:w.hours<(xO w ros tru k n).used
 ·rw [if_pos hh] at es;obtain ⟨po,co,g1,p',c',z2,g2,g3,g4,g5⟩:=hz.push (Le.refl z) hz.new ⟨5,k,0⟩ (by rw [List.length_append];omega) (fun e=>by have:=(hms _ e).1;omega) (fun x hx=>by have:=(hms x hx).2;have:=O.y;omega);refine yXV lu lh g1 g2 g3 ⟨k' - 1,by omega,k+1,by omega,by omega, ?_,O.trans' g5 (fun b _ hb=>.inl hb)⟩ (by omega) (by omega) hh (by omega);rw [es,<- List.append_assoc];exact g4
 ·rw [if_neg hh,List.append_nil] at es;exact yXU lu lh ⟨k' - 1,by omega,k+1,by omega,by omega,by rw [es];exact hz,O⟩ (by omega) (by omega) hh (by omega)
end
section
open Go.Sort (swp PermIn SortedIn Below SWO)
theorem yWS (x:Rec):zCL Tryz.prog 45 3 (zEL x):=.inr ⟨xPT,yHJ,_,rfl,rfl⟩
theorem zSQ (xs:List Rec):xF (xs.map zEL)=xs.flatMap zBD:=by
 induction xs with
 | nil=>rfl
 | cons x xs ih =>
  simp only [xF,List.map_cons,List.flatMap_cons] at ih ⊢;rw [ih];rfl
def zCS (b:Bch):Rec:=⟨b.kind,b.drv,b.dut⟩
def unB (x:Rec):Bch:=⟨x.k.toNat,x.a.toNat,x.b.toNat⟩
theorem zOY (b:Bch):unB (zCS b)=b:=by unfold unB zCS;simp
theorem xBW (A:List Bch):A.map yRB=(A.map zCS).map zEL:=by rw [List.map_map];rfl
section
theorem xOM {τ:St} {n0 c:Nat} {p:Option Addr} {out:List Rec} (h:Gr Tryz.prog τ n0 45 3 p out.length c (out.map zEL)) (h0:out≠[]):∃ b s,p=some ⟨b,0,s⟩/\n0<=b/\Dt τ b s out.toArray:=by
 have ha:=h.app;rw [zSQ] at ha;have hl:0<out.length:=by cases out with | nil=>exact absurd rfl h0 | cons _ _=>simp
 obtain ⟨n,hn⟩:∃ n,n=out.length:=⟨_,rfl⟩;obtain ⟨cs,hcs⟩:∃ cs,cs=out.flatMap zBD:=⟨_,rfl⟩;rw [<- hn,<- hcs] at ha;cases ha with
 | nil=>omega
 | more h1 h2 h3 h4 h5 h6 h7 =>
  rename_i b s0 nx sp log;subst h2;refine ⟨b,sp,rfl,h3,h4,log,nx, ?_⟩
  rw [h1,hcs];unfold zAZ;rw [zRM];simp
theorem ySZ {τ:St} {b:Nat} {s:Option Nat} {d:Array Rec} (h:Dt τ b s d):SlV Tryz.prog τ 45 3 (some ⟨b,0,s⟩) d.size (d.toList.map zEL):=by
 obtain ⟨h1,log,nx,h2⟩:=h;refine ⟨⟨?_, ?_,h1⟩,by simp,fun v hv=>?_⟩
 ·rw [zSQ];exact yBD d
 ·rw [zSQ];have hle:Nat.ble (0+(zAZ d).length) (d.size*3)=true:=(zV _ _).2 (by rw [yBD];omega);show yO τ ⟨b,0,s⟩ (zAZ d).length=some (zAZ d);unfold yO;simp only [h2,yB,wW,Nat.beq_refl,cond_true,hle,List.drop_zero,List.take_length]
 ·obtain ⟨x,_,rfl⟩:=List.mem_map.1 hv;exact yWS x
theorem ySI {A:List Bch} {d':Array Rec} (hp:PermIn 0 (A.map zCS).toArray.size (A.map zCS).toArray d') (hs:SortedIn yRC 0 (A.map zCS).toArray.size d'):∃ A':List Bch,d'.toList=A'.map zCS/\A'.Perm A/\A'.Pairwise fun x y=>¬ y.lt x:=by
 have hsz:=hp.1;have hperm:d'.toList.Perm (A.map zCS):=by
  have h3:=hp.2.2;have e1:(d'.extract 0 (A.map zCS).toArray.size).toList=d'.toList:=by rw [<- hsz];simp
  have e2:((A.map zCS).toArray.extract 0 (A.map zCS).toArray.size).toList=A.map zCS:=by simp;rw [List.take_of_length_le (by simp)]
  rw [e1,e2] at h3;exact h3
 have hid:∀ B:List Bch,(B.map zCS).map unB=B:=fun B=>by
  rw [List.map_map];conv=>rhs;rw [<- List.map_id B]
  exact List.map_congr_left fun b _=>zOY b
 have e:d'.toList=(d'.toList.map unB).map zCS:=by
  rw [List.map_map];conv=>lhs;rw [<- List.map_id d'.toList]
  apply List.map_congr_left;intro x hx;obtain ⟨b,_,rfl⟩:=List.mem_map.1 (hperm.mem_iff.1 hx);show zCS b=zCS (unB (zCS b));rw [zOY]
 refine ⟨d'.toList.map unB,e, ?_, ?_⟩
 ·have:=hperm.map unB;rwa [hid] at this
 ·rw [List.pairwise_map];apply List.pairwise_iff_getElem.2;intro i j hi hj hij;have hlen:d'.toList.length=d'.size:=by simp
  have h1:=hs i j (Nat.zero_le _) hij (by omega);rw [getElem!_pos d' j (by omega),getElem!_pos d' i (by omega)] at h1;have m1:=hperm.mem_iff.1 (List.getElem_mem hi);have m2:=hperm.mem_iff.1 (List.getElem_mem hj);obtain ⟨x,_,ex⟩:=List.mem_map.1 m1;obtain ⟨y,_,ey⟩:=List.mem_map.1 m2;rw [<- ex,<- ey,zOY,zOY];rw [Array.getElem_toList] at ex ey;rw [<- ex,<- ey] at h1;intro hlt;unfold yRC at h1;have h1:=of_decide_eq_false h1;apply h1;unfold Bch.lt at hlt;unfold bLt zCS;simp only;omega
end
end
section
variable {Z z:St} {wl:List Value} {rv tv:Value} {f:Nat->Std} {A R:List Bch} {ms:List Nat} {m:Nat}
theorem xIV (hJ:J Z wl rv tv (fun x=>x∈ms) f A z) (hms:∀ y∈ms,yJ z.heap y=some .defd/\Z.y+5<=y/\y<z.y) (hnd:ms.Nodup) (hA:A.length<=1000) (hok:∀ b∈A,b.kind<=5/\b.drv<=100/\b.dut<=100)
  (hR:∀ A',A'.Perm A->(A'.Pairwise fun x y=>¬ y.lt x)->A'=R) :
  zKN Z.y (Z.y+3) (Z.y+4) m ms z (fun v s=>New Z.re s/\∃ p c,v=.slice p R.length c/\SlV Tryz.prog s 45 3 p R.length (R.map yRB)/\∀ b,AtP p b->Z.y<=b):=by
 obtain ⟨po,co,o,hg,hf⟩:=hJ.out;have l1:zB Tryz.prog z 36 ⟨Z.y+3,0,none⟩=some (.slice po A.length co):=o.ld (k:=0) rfl yRI rfl;by_cases hA0:A=[]
 ·have hR0:R=[]:=(hR [] (by rw [hA0]) List.Pairwise.nil).symm;subst hA0;have hpo:po=none/\co=0:=by
   have:=hg.app;cases this with
   | nil=>exact ⟨rfl,rfl⟩
   | more _ _ _ _ _ hp _=>exact absurd hp (by simp)
  obtain ⟨rfl,rfl⟩:=hpo;have st:=o.store (k:=0) (t:=36) (P:=Tryz.prog) (v:=.slice none 0 0) (vs:=[.slice none 0 0]) (ds:=[.slice none 0 0]) rfl ySM rfl (by simp) rfl;obtain ⟨z2,k1,k2,k3,k4⟩:=zPB (ms:=ms) (Z:=z.own (Z.y+3) [.slice none 0 0] 1) (fun y hy=>by
   have:=(hms y hy);show yJ (St.put _ _ _).heap y=_;rw [St.put_get,if_neg (by omega)];exact this.1) hnd
  have o2:Own z2 (Z.y+3) [.slice none 0 0] 1:=o.put.at_ (k3 _ (fun e=>by have:=(hms _ e).2.1;omega)) (by rw [k2];exact Nat.le_refl _);have N:New Z.re z2:=by
   have N1:New Z.re (z.own (Z.y+3) [.slice none 0 0] 1):=hJ.new.own (by show Z.y<=Z.y+3;omega);refine ⟨⟨by rw [k2];exact N1.le.y,fun b hb=>by rw [k3 b (fun e=>by have:=(hms _ e).2.1;have hb:b<Z.y:=hb;omega)];exact N1.le.get b hb⟩,fun m h1 h2=>k4 m (N1.low m h1 h2) (fun y hy=>by have:=(hms y hy).2.1;have h2:m<=Z.y:=h2;omega)⟩
  subst hR0;exact zQW l1 xCN l1 st k1 (o2.ld (k:=0) rfl yRI rfl) ⟨N,none,0,rfl,⟨.nil _ _,rfl,fun v hv=>by cases hv⟩,fun b hb=>by obtain ⟨a,e,_⟩:=hb;cases e⟩
 ·have hg2:Gr Tryz.prog z (Z.y+5) 45 3 po (A.map zCS).length co ((A.map zCS).map zEL):=by rw [List.length_map,<- xBW];exact hg
  obtain ⟨b,s,rfl,hb,dt⟩:=xOM hg2 (by simpa using hA0);have esz:(A.map zCS).toArray.size=A.length:=by simp
  have hV:xT BOk (A.map zCS).toArray:=by
   intro i hi;have hm:(A.map zCS).toArray[i]! ∈ A.map zCS:=by
    rw [getElem!_pos _ i hi];exact Array.mem_toList_iff.2 (Array.getElem_mem hi)
   obtain ⟨x,hx,e⟩:=List.mem_map.1 hm;rw [<- e];have:=hok x hx;unfold BOk zCS;simp only;omega
  obtain ⟨d',p1,p2,z1,c1,O1,dt1,_⟩:=xRB (c:=co) xYZ wAD dt hV (by rw [esz];omega);rw [esz] at c1;obtain ⟨A',e1,e2,e3⟩:=ySI p1 p2;have eR:=hR A' e2 e3;subst eR;have hlA:A'.length=A.length:=e2.length_eq;have hsz:d'.size=A.length:=by rw [<- esz];exact p1.1
  have o1:Own z1 (Z.y+3) [.slice (some ⟨b,0,s⟩) A.length co] 1:=O1.own' o (by omega);have l3:zB Tryz.prog z1 36 ⟨Z.y+3,0,none⟩=some (.slice (some ⟨b,0,s⟩) A.length co):=o1.ld (k:=0) rfl yRI rfl;have st:=o1.store (k:=0) (t:=36) (P:=Tryz.prog) (v:=.slice (some ⟨b,0,s⟩) A.length co) (vs:=[.slice (some ⟨b,0,s⟩) A.length co]) (ds:=[.slice (some ⟨b,0,s⟩) A.length co]) rfl ySM rfl (by simp) rfl;have hbm:¬ b∈ms:=hf b ⟨_,rfl,rfl⟩;have N1:New Z.re (z1.own (Z.y+3) [.slice (some ⟨b,0,s⟩) A.length co] 1):=(hJ.new.of_only O1 (by rintro x rfl;show Z.y<=x;omega)).own (by show Z.y<=Z.y+3;omega);obtain ⟨z2,k1,k2,k3,k4⟩:=zPB (ms:=ms) (Z:=z1.own (Z.y+3) [.slice (some ⟨b,0,s⟩) A.length co] 1) (fun y hy=>by
   have h3:=hms y hy;show yJ (St.put _ _ _).heap y=_;rw [St.put_get,if_neg (by omega),O1.get y h3.2.2 (fun e=>hbm (by have e:y=b:=e;rw [<- e];exact hy))];exact h3.1) hnd
  have o2:Own z2 (Z.y+3) [.slice (some ⟨b,0,s⟩) A.length co] 1:=o1.put.at_ (k3 _ (fun e=>by have:=(hms _ e).2.1;omega)) (by rw [k2];exact Nat.le_refl _);have N:New Z.re z2:=⟨⟨by rw [k2];exact N1.le.y,fun b hb=>by rw [k3 b (fun e=>by have:=(hms _ e).2.1;have hb:b<Z.y:=hb;omega)];exact N1.le.get b hb⟩,fun m h1 h2=>k4 m (N1.low m h1 h2) (fun y hy=>by have:=(hms y hy).2.1;have h2:m<=Z.y:=h2;omega)⟩;have O3:Only (fun x=>x=Z.y+3\/x∈ms) z1 z2:=by
   refine (Only.own (S:=fun x=>x=Z.y+3\/x∈ms) (cs:=[.slice (some ⟨b,0,s⟩) A.length co]) (n:=1) (b:=Z.y+3) (.inr (.inl rfl))).trans' (T:=fun x=>x∈ms) ⟨by rw [k2];exact Nat.le_refl _,fun b _ hb=>k3 b hb,fun m h1 _ h3=>k4 m h1 (fun y hy=>h3 y (by have:=(hms y hy).2.2;have:=O1.y;show y<z1.y;omega) hy)⟩ (fun b _ hb=>.inl (.inr hb))
  have sl:=O3.slv' (ySZ dt1) (fun a e=>by cases e;rintro (g | g);have g:b=Z.y+3:=g;omega;exact hbm g);rw [e1,<- xBW,hsz] at sl;rw [hlA];exact zQW l1 c1 l3 st k1 (o2.ld (k:=0) rfl yRI rfl) ⟨N,some ⟨b,0,s⟩,co,rfl,sl,fun x hx=>by obtain ⟨a,e,rfl⟩:=hx;cases e;show Z.y<=b;omega⟩
end
section
variable {Z:St} {w:Wk} {p q r t:Option Addr} {l m c d rc tc:Nat} {rs ts:List Int} {ros tru:Nat->Int}
theorem xHA {D i:Nat}:(zMY w ros tru D i).length<=5:=by
 unfold zMY;split
 ·simp
 ·have:=List.length_filterMap_le (fun q=>if holds w q (drQ w (ros i).toNat) (dtQ w i) (xK w ros tru (ros i).toNat D i)=true then none else some (⟨q,(ros i).toNat,i⟩:Bch)) (List.range 5);simpa using this
theorem yAN {D:Nat}:∀ {j:Nat},(zEC w ros tru D j).length<=5*j
 | 0=>by simp [zEC]
 | j+1=>by
  have ih:=yAN (D:=D) (j:=j);rw [yWY,List.length_append];have:=xHA (w:=w) (ros:=ros) (tru:=tru) (D:=D) (i:=j);split
  ·omega
  ·simp only [List.length_nil];omega
theorem zZC:∀ {D:Nat},(zCI w ros tru D).length<=5*w.duties.length*D
 | 0=>by simp [zCI]
 | D+1=>by
  have ih:=zZC (D:=D);rw [xLG,List.length_append,Nat.mul_add,Nat.mul_one];have:=yAN (w:=w) (ros:=ros) (tru:=tru) (D:=D) (j:=w.duties.length);omega
theorem xOV {n:Nat} (hn:w.days=(n:Int)) (hn7:n<=7) (hv:Days w n) (h:WkP Z 85 88 w p l q m) (hs:Sane w l m) (hsh:zBC w) (hr:yG Z r l rs) (ht:yG Z t l ts) (hro:∀ i,i<l->-1<=zZ rs i/\zZ rs i<(m:Int))
  (hts:∀ i,i<l->(dtQ w i).on<=zZ ts i/\zZ ts i<=(dtQ w i).on+1440) :
  ∃ p' c' Z',zD Tryz.prog 54 [.agg ⟨wkc w.days p l c q m d w.rest w.run w.hours⟩,.slice r l rc,.slice t l tc] Z (.slice p' (zFI w (zZ rs) (zZ ts) m).length c') Z'/\New Z Z'/\SlV Tryz.prog Z' 45 3 p' (zFI w (zZ rs) (zZ ts) m).length ((zFI w (zZ rs) (zZ ts) m).map yRB)/\∀ b,AtP p' b->Z.y<=b:=by
 have hl:=h.len.1;have hm:=h.len.2;have hm6:=hs.m6;have hl12:=hs.l12;have hRos:Ros w (zZ rs):=⟨fun i hi=>by have:=hro i (by omega);omega⟩;obtain ⟨s4,hs4⟩:∃ s,s=(((Z.re.row (wkc w.days p l c q m d w.rest w.run w.hours) 6).row [.slice r l rc] 1).row [.slice t l tc] 1).row [.slice none 0 0] 1:=⟨_,rfl⟩;have N4:New Z.re s4:=by rw [hs4];exact ((New.row _ _ _).row'.row').row'
 have L4:Le Z s4:=(le0 Z).trans N4.le;have x4:s4.y=Z.y+4:=by rw [hs4];rfl
 have cb:=yDA (c:=c) (d:=d) (h.le L4) hm6;have oz:Own (s4.row zER 4) (Z.y+4) (stL fun _=>zVQ) 4:=by
  have:=zC s4 zER 4;rw [x4] at this;exact this
 have st:=zVU oz (st0 w m);obtain ⟨s5,hs5⟩:∃ s,s=(s4.row zER 4).own (Z.y+4) (stL (st0 w m)) 4:=⟨_,rfl⟩;have N5:New Z.re s5:=by rw [hs5];exact N4.row'.own (by show Z.y<=Z.y+4;omega)
 have w1:Row s5 ⟨Z.y,0,none⟩ (wkc w.days p l c q m d w.rest w.run w.hours):=by
  rw [hs5,hs4];exact (xP Z.re (wkc w.days p l c q m d w.rest w.run w.hours) 6).row.row.row.row.own (by show Z.y≠_;omega)
 have w2:Row s5 ⟨Z.y+1,0,none⟩ [.slice r l rc]:=by
  rw [hs5,hs4];exact (xP (Z.re.row (wkc w.days p l c q m d w.rest w.run w.hours) 6) [.slice r l rc] 1).row.row.row.own (by show Z.y+1≠_;omega)
 have w3:Row s5 ⟨Z.y+2,0,none⟩ [.slice t l tc]:=by
  rw [hs5,hs4];exact (xP ((Z.re.row (wkc w.days p l c q m d w.rest w.run w.hours) 6).row [.slice r l rc] 1) [.slice t l tc] 1).row.row.own (by show Z.y+2≠_;omega)
 have w4:Own s5 (Z.y+3) [.slice none 0 0] 1:=by
  rw [hs5,hs4];exact (zC (((Z.re.row (wkc w.days p l c q m d w.rest w.run w.hours) 6).row [.slice r l rc] 1).row [.slice t l tc] 1) [.slice none 0 0] 1).row.own (by show Z.y+3≠_;omega)
 have w5:Own s5 (Z.y+4) (stL (st0 w m)) 4:=by rw [hs5];exact oz.put
 have J0:J Z (wkc w.days p l c q m d w.rest w.run w.hours) (.slice r l rc) (.slice t l tc) (fun x=>x∈([]:List Nat)) (st0 w m) [] s5:=⟨N5,w1,w2,w3,w5,none,0,w4,Gr.nil,fun b hb=>by obtain ⟨a,e,_⟩:=hb;cases e⟩;have hA:∀ D j,D<=6->j<=l->(zCI w (zZ rs) (zZ ts) D++zEC w (zZ rs) (zZ ts) D j).length<=450:=by
  intro D j hD hj;rw [List.length_append];have h1:=zZC (w:=w) (ros:=zZ rs) (tru:=zZ ts) (D:=D);have h2:=yAN (w:=w) (ros:=zZ rs) (tru:=zZ ts) (D:=D) (j:=j);have h3:5*w.duties.length*D<=5*12*6:=Nat.mul_le_mul (by omega) hD;omega
 have hO:(zCI w (zZ rs) (zZ ts) n).length<=420:=by
  have h1:=zZC (w:=w) (ros:=zZ rs) (tru:=zZ ts) (D:=n);have h3:5*w.duties.length*n<=5*12*7:=Nat.mul_le_mul (by omega) hn7;omega
 have l0:zB Tryz.prog s5 3 ⟨Z.re.y,0,none⟩=some (iV w.days):=w1.ld zU rfl;have run:=xON hn hn7 h hs hsh hr ht hro hts hA J0;rw [hs4] at cb;refine zP.newSl (xHC cb (by rw [<- hs4];exact hs5 ▸ st) l0 run ?_);rintro ms z ⟨Jz,hnd,hms⟩;have lr:=xLZ (Z:=Z) hm6 (by omega) (fun y hy=>(hms y hy).2) Jz;refine yJU (Jz.wk.ld (k:=2) zAU rfl) lr ?_
 rintro z2 ⟨J2,O2⟩;have hlb:=yEW (w:=w) (ros:=zZ rs) (tru:=zZ ts) (n:=n) (k:=m);refine xIV (Z:=Z) J2 (fun y hy=>⟨by rw [O2.get y (hms y hy).2.2 (fun hh=>hh hy)];exact (hms y hy).1,(hms y hy).2.1,by have:=(hms y hy).2.2;have:=O2.y;omega⟩) hnd (by rw [List.length_append];omega) ?_ ?_
 ·intro b hb;have hb:b∈yRG w (zZ rs) (zZ ts) n:=by unfold yRG;rw [hm];exact hb
  obtain ⟨h1,h2,_⟩:=(yRF hv hRos).1 hb;omega
 ·intro A' h1 h2;have:=xCM hv hRos (l:=A') (by unfold yRG;rw [hm];exact h1) h2;rw [this,hm]
end
section
variable {Z:St} {w:Wk} {p q r t:Option Addr} {l m c d rl rc tl tc:Nat} {rs ts:List Int}
theorem xAY {n:Nat} (hnd:w.days=(n:Int)) (hn7:n<=7) (hv:Days w n) (h:WkP Z 85 88 w p l q m) (hs:Sane w l m) (hsh:zBC w) (hr:yG Z r l rs) (hro:∀ i,i<l->-1<=zZ rs i/\zZ rs i<(m:Int)):zD Tryz.prog 62 [.agg ⟨wkc w.days p l c q m d w.rest w.run w.hours⟩,.slice r l rc] Z (.bool (decide (zFI w (zZ rs) (zZ (zAR w)) m=[]))) Z:=by
 have hn:=h.len.1;have hl12:=hs.l12;obtain ⟨Z1,hZ1⟩:∃ Z1,Z1=Z.re.row (wkc w.days p l c q m d w.rest w.run w.hours) 6:=⟨_,rfl⟩;have N1:New Z.re Z1:=by rw [hZ1];exact New.row _ _ _
 have L1:Le Z Z1:=(le0 Z).trans N1.le;have hk0:=xP Z.re (wkc w.days p l c q m d w.rest w.run w.hours) 6;rw [<- hZ1] at hk0;obtain ⟨p2,c2,Z2,k2,n2,s2,f2⟩:=xYA (c:=c) (d:=d) (h.le L1) (by omega);have L2:=L1.trans n2.le;have hte:∀ i,i<l->(dtQ w i).on<=zZ (zAR w) i/\zZ (zAR w) i<=(dtQ w i).on+1440:=by
  intro i hi;have e:zZ (zAR w) i=(dtQ w i).hi:=by
   unfold zZ zAR dtQ;rw [List.getD_eq_getElem?_getD,List.getElem?_map,List.getD_eq_getElem?_getD,List.getElem?_eq_getElem (by omega)];rfl
  rw [e];have:=hs.duty i hi;omega
 obtain ⟨p3,c3,Z3,k3,n3,s3,f3⟩:=xOV (c:=c) (d:=d) (rc:=rc) (tc:=c2) hnd hn7 hv (h.le L2) hs hsh (SlV.le hr L2) s2 hro hte;have hlow:Z.y<=Z3.low:=((N1.trans n2).trans n3).lw;have pab:∀ a,p=some a->a.block<Z.y:=wA h.dty;have qab:∀ a,q=some a->a.block<Z.y:=by obtain ⟨vs,h1,_⟩:=h.drv;exact wA h1
 have rab:∀ a,r=some a->a.block<Z.y:=wA hr;have ld:zB Tryz.prog Z2 34 ⟨Z.re.y,0,none⟩=some (.agg ⟨wkc w.days p l c q m d w.rest w.run w.hours⟩):=(hk0.le n2.le).ldN (k:=0) xV xB (ds:=wkc w.days p l c q m d w.rest w.run w.hours) rfl rfl (by simp);have nx1:Z1.y=Z.y+1:=by rw [hZ1];rfl
 have nx2:=n2.le.y;have hb1:zH Z1.y [.agg ⟨wkc w.days p l c q m d w.rest w.run w.hours⟩]:=zE (zMD (fun a e=>by have:=pab a e;omega) (fun a e=>by have:=qab a e;omega)) zI;have hb2:zH Z2.y [.agg ⟨wkc w.days p l c q m d w.rest w.run w.hours⟩,.slice r l rc,.slice p2 l c2]:=zE (zMD (fun a e=>by have:=pab a e;omega) (fun a e=>by have:=qab a e;omega)) (zE (yQ (fun a e=>by have:=rab a e;omega)) (zE (yQ (wA s2)) zI));have hb3:zH Z3.y [.slice p3 (zFI w (zZ rs) (zZ (zAR w)) m).length c3]:=zE (yQ (wA s3)) zI;rw [hZ1] at k2 hb1;by_cases e:zFI w (zZ rs) (zZ (zAR w)) m=[]
 ·rw [decide_eq_true e];exact (xMH ⟨k2,k3,hb1,hb2,hb3,⟨⟨by show Z.y<_;omega,rfl⟩,ld⟩⟩ ⟨rfl,hlow⟩ (by rw [e];rfl)).pure
 ·rw [decide_eq_false e];exact (xMG ⟨k2,k3,hb1,hb2,hb3,⟨⟨by show Z.y<_;omega,rfl⟩,ld⟩⟩ ⟨rfl,hlow⟩ (fun h=>e (List.length_eq_zero_iff.1 (by omega)))).pure
end
section
variable {Z:St} {w:Wk} {p q r t:Option Addr} {l m c d rl rc tl tc:Nat} {rs ts:List Int}
theorem xXJ {f:FuncId} {args:List Value} {tt n len:Nat} {vs:List Value} {e:Int} (h:zP Tryz.prog f args Z.re fun v s=>New Z.re s/\∃ p c,v=.tuple ⟨[.slice p len c,iV e]⟩/\SlV Tryz.prog s tt n p len vs/\∀ b,AtP p b->Z.y<=b) :
  ∃ p c Z',zD Tryz.prog f args Z (.tuple ⟨[.slice p len c,iV e]⟩) Z'/\New Z Z'/\SlV Tryz.prog Z' tt n p len vs/\∀ b,AtP p b->Z.y<=b:=by
 obtain ⟨v,Z',h1,h2,p,c,rfl,h3,h4⟩:=zP.new (Q:=fun v s=>∃ p c,v=.tuple ⟨[.slice p len c,iV e]⟩/\SlV Tryz.prog s tt n p len vs/\∀ b,AtP p b->Z.y<=b) h (by
  rintro v s s' ⟨p,c,rfl,g1,g2⟩ hle;exact ⟨p,c,rfl,g1.le hle,g2⟩) (by
  rintro v s hr ⟨p,c,rfl,g1,g2⟩;cases p with
  | none=>exact ⟨none,c,rfl,zFF g1,fun b hb=>(AtP.none hb).elim⟩
  | some a=>exact Bool.noConfusion (show false=true from hr))
 exact ⟨p,c,Z',h1,h2,h3,h4⟩
theorem zLP:zIG w rs=true↔rs.length=w.duties.length/\∀ i,i<rs.length->-1<=zZ rs i/\zZ rs i<(w.drivers.length:Int):=by
 unfold zIG;rw [Bool.and_eq_true,decide_eq_true_eq,List.all_eq_true,And.comm];refine and_congr_right fun hl=>⟨fun h i hi=>?_,fun h x hx=>?_⟩
 ·have:=vK.1 (h rs[i] (List.getElem_mem hi));have e:zZ rs i=rs[i]:=by unfold zZ;rw [List.getD_eq_getElem?_getD,List.getElem?_eq_getElem hi];rfl
  omega
 ·obtain ⟨i,hi,rfl⟩:=List.getElem_of_mem hx;have:=h i hi;have e:zZ rs i=rs[i]:=by unfold zZ;rw [List.getD_eq_getElem?_getD,List.getElem?_eq_getElem hi];rfl
  exact vK.2 (by omega)
def yAO (rs:List Int):Nat:=(rs.filter fun x=>decide (0<=x)).length
def zCQ (w:Wk) (rs:List Int) (eQ:Int):Bool:=decide (xC w=0) && (zIG w rs && (decide (zFI w (zZ rs) (zZ (zAR w)) w.drivers.length=[]) && decide (eQ<=(yAO rs:Int))))
theorem zNC {eQ:Int} (h:WkP Z 85 88 w p l q m) (hsh:zBC w) (hr:yG Z r rl rs) (hrl:rl<=1073741824) :
  zD Tryz.prog 35 [.agg ⟨wkc w.days p l c q m d w.rest w.run w.hours⟩,.slice r rl rc,iV eQ] Z (.bool (zCQ w rs eQ)) Z:=by
 have hln:=h.len.1;have hm:=h.len.2;obtain ⟨Z1,hZ1⟩:∃ Z1,Z1=Z.re.row (wkc w.days p l c q m d w.rest w.run w.hours) 6:=⟨_,rfl⟩;have N1:New Z.re Z1:=by rw [hZ1];exact New.row _ _ _
 have L1:Le Z Z1:=(le0 Z).trans N1.le;have k1:=zKY (c:=c) (d:=d) (h.le L1) hsh;rw [hZ1] at k1;by_cases hf:xC w=0;rotate_left
 ·have:zCQ w rs eQ=false:=by unfold zCQ;rw [decide_eq_false hf];rfl
  rw [this];exact (yBO k1 ⟨rfl,Nat.le_refl _⟩ hf).pure
 have hm6:=(zAS hf).2.1;have k2:=yCX (c:=c) (d:=d) (rc:=rc) (h.le L1) (SlV.le hr L1) hrl (by omega);rw [hZ1] at k2;cases b2:zIG w rs with
 | false =>
  have:zCQ w rs eQ=false:=by unfold zCQ;rw [b2,decide_eq_true hf];rfl
  rw [b2] at k2;rw [this];exact (yBP k1 k2 ⟨rfl,Nat.le_refl _⟩ hf).pure
 | true =>
 rw [b2] at k2;obtain ⟨r1,r2⟩:=zLP.1 b2;have el:=hr.len;have hrll:rl=l:=by omega
 subst hrll;obtain ⟨n,hn,hn1,hn7,hv⟩:=yJM hf;have hs:=Sane.of hf hsh hln hm;have k3:=xAY (c:=c) (d:=d) (rc:=rc) hn hn7 hv.toDays (h.le L1) hs hsh (SlV.le hr L1) (fun i hi=>by have:=r2 i (by omega);omega);have k4:=yPY (c:=rc) (SlV.le hr L1) hrl;have ec:(rs.filter fun x=>decide (x≠-1))=rs.filter fun x=>decide (0<=x):=by
  apply List.filter_congr;intro x hx;obtain ⟨i,hi,rfl⟩:=List.getElem_of_mem hx;have:=r2 i hi;have e:zZ rs i=rs[i]:=by unfold zZ;rw [List.getD_eq_getElem?_getD,List.getElem?_eq_getElem hi];rfl
  apply decide_eq_decide.2;omega
 rw [ec] at k4;rw [hZ1] at k3 k4;have e:zCQ w rs eQ=(decide (zFI w (zZ rs) (zZ (zAR w)) m=[]) && decide (eQ<=(yAO rs:Int))):=by unfold zCQ;rw [b2,decide_eq_true hf,hm];rfl
 rw [e];by_cases h3:zFI w (zZ rs) (zZ (zAR w)) m=[]
 ·rw [decide_eq_true h3] at k3 ⊢;by_cases h4:eQ<=(yAO rs:Int)
  ·rw [decide_eq_true h4];exact (yBS k1 k2 k3 k4 ⟨rfl,Nat.le_refl _⟩ hf h4).pure
  ·rw [decide_eq_false h4];exact (yBR k1 k2 k3 k4 ⟨rfl,Nat.le_refl _⟩ hf h4).pure
 ·rw [decide_eq_false h3] at k3 ⊢;exact (yBQ k1 k2 k3 ⟨rfl,Nat.le_refl _⟩ hf).pure
end
section
noncomputable section
variable (bM:oAa) (bb bj BA BB BC:Nat) (t2_1:Bool) (aX fS bI:Int) (q1:Bool->St->Prop) (dm:oAa) (q4:(Option Addr)->Nat->Nat->St->Prop) (q3:(Option Addr)->Nat->Nat->Int->St->Prop) (q2:St->Prop) (q0:Int->St->Prop) (dp dv:Nat) (eW:Int) (Z:St) (q5:(Option Addr)->Nat->Nat->Int->St->Prop) (Q:vPa) (Nx:Int->St->Prop) (q6:(Option Addr)->Nat->Nat->St->Prop) (Qr:Bool->St->Prop) (Q2 Q0:St->Prop)
def xCD:Code:=(Code.part [1,0,1,0,0] (qj 14))
def zRA:lNa:=[(1,pq BA 0),(3,iV aX)]
def xQJ:Alt:=⟨Int,.normal,fun t=>zRA BA t,fun t=>[],fun t Z=>q0 t Z⟩
def yGT (BA:Nat) (t2_1:Bool):lNa:=[(2,.bool t2_1)]
def zTK:Alt:=⟨Bool,.ret,fun t=>yGT BA t,fun t=>[],fun t Z=>q1 t Z⟩
def yGU:lNa:=[(1,pq BA 0)]
def zTL:Alt:=⟨Unit,(.exit 0),fun t=>yGU BA,fun t=>[],fun t Z=>q2 Z⟩
def zHZ:Prop:=qk ql none xCD 47 (zRA BA aX) [] [xQJ BA Nx,zTK BA Qr,zTL BA Q0] Z
def xCE:Prop:=qm ql none xCD 47 (zRA BA aX) [] [zTK BA Qr,zTL BA Q0] Z
def yGV:Prop:=kZ ql (qj 14) [1,0,1,0] (qn 14 Q) .ret 47 (yGT BA t2_1) Z
def zMF:Prop:=kZ ql (qj 14) [1,0,1,0] (qn 14 Q) (.exit 0) 47 (yGU BA) Z
def xCA:Code:=(Code.part [1,1,0,1,0,0] (qj 17))
def zWP:lNa:=[(1,pq BA 0),(2,pq BB 0),(3,pq BC 0),(4,iV bI)]
def xQC:Alt:=⟨Int,.normal,fun t=>zWP BA BB BC t,fun t=>[],fun t Z=>q0 t Z⟩
def yGQ:lNa:=[(1,pq BA 0),(2,pq BB 0),(3,pq BC 0)]
def zTJ:Alt:=⟨Unit,(.exit 0),fun t=>yGQ BA BB BC,fun t=>[],fun t Z=>q2 Z⟩
def yKG:Prop:=qk ql none xCA 82 (zWP BA BB BC bI) [] [xQC BA BB BC Nx,zTJ BA BB BC Q0] Z
def xCC:Prop:=qm ql none xCA 82 (zWP BA BB BC bI) [] [zTJ BA BB BC Q0] Z
def yGS:Prop:=kZ ql (qj 17) [1,1,0,1,0] (qn 17 Q) (.exit 0) 82 (yGQ BA BB BC) Z
def xBZ:Code:=(Code.part [1,1,1,0,1,0,0] (qj 17))
def zQZ:lNa:=[(1,pq BA 0),(2,pq BB 0),(3,pq BC 0),(6,iV fS)]
def xQB:Alt:=⟨Int,.normal,fun t=>zQZ BA BB BC t,fun t=>[],fun t Z=>q0 t Z⟩
def yGP (BA BB BC:Nat):lNa:=[(2,pq BB 0),(3,pq BC 0)]
def zTI:Alt:=⟨Unit,(.exit 2),fun t=>yGP BA BB BC,fun t=>[],fun t Z=>q2 Z⟩
def zWQ:Prop:=qk ql none xBZ 82 (zQZ BA BB BC fS) [] [xQB BA BB BC Nx,zTI BA BB BC Q2] Z
def xCB:Prop:=qm ql none xBZ 82 (zQZ BA BB BC fS) [] [zTI BA BB BC Q2] Z
def yGR:Prop:=kZ ql (qj 17) [1,1,1,0,1,0] (qn 17 Q) (.exit 2) 82 (yGP BA BB BC) Z
def yRP:Code:=(Code.part [1,1,0,1,0,0] (qj 39))
def zKW:lNa:=[(1,.slice bM bb bj),(2,pq BA 0),(5,.slice dm dp dv),(6,iV eW)]
def xIA:Alt:=⟨(Option Addr) × Nat × Nat × Int,.normal,fun t=>zKW bM bb bj BA t.1 t.2.1 t.2.2.1 t.2.2.2,fun t=>[],fun t Z=>q3 t.1 t.2.1 t.2.2.1 t.2.2.2 Z⟩
def yBT (bM:oAa) (bb bj BA:Nat) (dm:oAa) (dp dv:Nat):lNa:=[(5,.slice dm dp dv)]
def zOQ:Alt:=⟨(Option Addr) × Nat × Nat,(.exit 0),fun t=>yBT bM bb bj BA t.1 t.2.1 t.2.2,fun t=>[],fun t Z=>q4 t.1 t.2.1 t.2.2 Z⟩
def zKX:Prop:=qk ql none yRP 43 (zKW bM bb bj BA dm dp dv eW) [] [xIA bM bb bj BA q5,zOQ bM bb bj BA q6] Z
def yBU:Prop:=qm ql none yRP 43 (zKW bM bb bj BA dm dp dv eW) [] [zOQ bM bb bj BA q6] Z
def yBV:Prop:=kZ ql (qj 39) [1,1,0,1,0] (qn 39 Q) (.exit 0) 43 (yBT bM bb bj BA dm dp dv) Z
end
variable {BA lE cE lG cG lH cF lN cL ac ad aa ab lW cV lT cR BB BC lJ cJ lYB cUB lI cK lB cB lA cA lF cD lU cQ lDB cZ lY cU lEB cAB lX cT lFB cBB lNB cKB lZB cVB lAC cWB lBC cXB lCC cYB bb bj dp dv:Nat} {Inv:Nat->Int->St->Prop} {Qr Pr:Bool->St->Prop} {Q0 P0 Q2 P2:St->Prop} {aX nE nI nM ao ar ay am bI nH nF nG fS nJ nK nL nUB nVB nWB nZB nAC nBC nCC nCF nCG nCH nCI n2 eW:Int} {dC eV words_a:Addr} {qE qF qK qD af ae qU qQ qI qUB qB qA qC qP qZ qT qAB qS qBB qJB qJ qVB qWB qXB qYB bM dm:oAa} {Z ZF ZBJ ZK ZL ZG ZQB ZBK ZP ZQ ZC ZB:St} {Nx:Int->St->Prop} {Q:vPa} {t2_1:Bool}
theorem yYY (hb:∀ k aX Z,Inv k aX Z->zHZ BA aX Z (NX1 Inv k) Qr Q0):∀ k aX Z,Inv k aX Z->xCE BA aX Z Qr Q0 :=
 xL (ai zBE (ai (xZ 0) trivial)) hb
theorem xQI:let y0:=zN qE lG cG qF lH cF qK lN cL nE nI nM;∀ (h1:lz Z 23 (qg BA 2) (.slice (some dC) lE cE)) (h2:lz Z 76 (zJ dC (Int.toNat aX*6)) (qh y0)) (nx:Qr false ((Z.row (zN none 0 0 none 0 0 none 0 0 0 0 0) 6).own Z.y y0 6)) (u1:aX<(lE:Int):=by omega) (u2:aX<10:=by omega) (u3:Ix aX lE:=by omega) (u4:20<(lG:Int):=by omega),zHZ BA aX Z Nx Qr Q0 :=
 let s1:=Z.row (zN none 0 0 none 0 0 none 0 0 0 0 0) 6;let s2:=s1.own Z.y (zN qE lG cG qF lH cF qK lN cL nE nI nM) 6;let y0:=zN qE lG cG qF lH cF qK lN cL nE nI nM;fun h1 h2 nx u1 u2 u3 u4=>kO 1 false [.g,.g,.l (.slice (some dC) lE cE),.g,.b true,.g,.g,.b true,.g,.g,.l (.slice (some dC) lE cE),.g,.i,.l (qh y0),.g,.e undef s2,.g,.l (.slice qE lG cG),.g,.b true,.g,.g,.g,.g,.g] (fun _ f=>an3 h1 (zR u1) (zR u2) (an6 h1 u3 h2 ((zC _ _ _).store (vs:=y0) rfl zAB rfl (nle rfl) rfl:qq (evL [pq Z.y 0,qh y0]) s1 (.store 76 (.tmp 0) (.tmp 1))=some (undef,s2)) ((zC _ _ _).put.rw.ld yV (k:=0) rfl:lz s2 26 (qg Z.y 0) (.slice qE lG cG)) (zR u4) f)) nx
theorem xQH:let y0:=zN qE lG cG qF lH cF qK lN cL nE nI nM;∀ (h1:lz Z 23 (qg BA 2) (.slice (some dC) lE cE)) (h2:lz Z 76 (zJ dC (Int.toNat aX*6)) (qh y0)) (nx:Qr false ((Z.row (zN none 0 0 none 0 0 none 0 0 0 0 0) 6).own Z.y y0 6)) (u1:aX<(lE:Int):=by omega) (u2:aX<10:=by omega) (u3:Ix aX lE:=by omega) (u4:¬ 20<(lG:Int):=by omega) (u5:20<(lH:Int):=by omega),zHZ BA aX Z Nx Qr Q0 :=
 let s1:=Z.row (zN none 0 0 none 0 0 none 0 0 0 0 0) 6;let s2:=s1.own Z.y (zN qE lG cG qF lH cF qK lN cL nE nI nM) 6;let y0:=zN qE lG cG qF lH cF qK lN cL nE nI nM;fun h1 h2 nx u1 u2 u3 u4 u5=>kO 1 false [.g,.g,.l (.slice (some dC) lE cE),.g,.b true,.g,.g,.b true,.g,.g,.l (.slice (some dC) lE cE),.g,.i,.l (qh y0),.g,.e undef s2,.g,.l (.slice qE lG cG),.g,.b false,.g,.g,.l (.slice qF lH cF),.g,.b true,.g,.g,.g,.g] (fun _ f=>an5 h1 (zR u1) (zR u2) h1 u3 (an6 h2 ((zC _ _ _).store (vs:=y0) rfl zAB rfl (nle rfl) rfl:qq (evL [pq Z.y 0,qh y0]) s1 (.store 76 (.tmp 0) (.tmp 1))=some (undef,s2)) ((zC _ _ _).put.rw.ld yV (k:=0) rfl:lz s2 26 (qg Z.y 0) (.slice qE lG cG)) (zS u4) ((zC _ _ _).put.rw.ld yV (k:=1) rfl:lz s2 26 (qg Z.y 1) (.slice qF lH cF)) (zR u5) f)) nx
theorem xQG:let y0:=zN qE lG cG qF lH cF qK lN cL nE nI nM;∀ (h1:lz Z 23 (qg BA 2) (.slice (some dC) lE cE)) (h2:lz Z 76 (zJ dC (Int.toNat aX*6)) (qh y0)) (nx:Qr false ((Z.row (zN none 0 0 none 0 0 none 0 0 0 0 0) 6).own Z.y y0 6)) (u1:aX<(lE:Int):=by omega) (u2:aX<10:=by omega) (u3:Ix aX lE:=by omega) (u4:¬ 20<(lG:Int):=by omega) (u5:¬ 20<(lH:Int):=by omega) (u6:20<(lN:Int):=by omega),zHZ BA aX Z Nx Qr Q0 :=
 let s1:=Z.row (zN none 0 0 none 0 0 none 0 0 0 0 0) 6;let s2:=s1.own Z.y (zN qE lG cG qF lH cF qK lN cL nE nI nM) 6;let y0:=zN qE lG cG qF lH cF qK lN cL nE nI nM;fun h1 h2 nx u1 u2 u3 u4 u5 u6=>kO 1 false [.g,.g,.l (.slice (some dC) lE cE),.g,.b true,.g,.g,.b true,.g,.g,.l (.slice (some dC) lE cE),.g,.i,.l (qh y0),.g,.e undef s2,.g,.l (.slice qE lG cG),.g,.b false,.g,.g,.l (.slice qF lH cF),.g,.b false,.g,.g,.g,.l (.slice qK lN cL),.g,.b true,.g,.g] (fun _ f=>ai h1 (an6 (zR u1) (zR u2) h1 u3 h2 ((zC _ _ _).store (vs:=y0) rfl zAB rfl (nle rfl) rfl:qq (evL [pq Z.y 0,qh y0]) s1 (.store 76 (.tmp 0) (.tmp 1))=some (undef,s2)) (an6 ((zC _ _ _).put.rw.ld yV (k:=0) rfl:lz s2 26 (qg Z.y 0) (.slice qE lG cG)) (zS u4) ((zC _ _ _).put.rw.ld yV (k:=1) rfl:lz s2 26 (qg Z.y 1) (.slice qF lH cF)) (zS u5) ((zC _ _ _).put.rw.ld yV (k:=2) rfl:lz s2 26 (qg Z.y 2) (.slice qK lN cL)) (zR u6) f))) nx
theorem xQF:let y0:=zN qE lG cG qF lH cF qK lN cL nE nI nM;∀ (h1:lz Z 23 (qg BA 2) (.slice (some dC) lE cE)) (h2:lz Z 76 (zJ dC (Int.toNat aX*6)) (qh y0)) (nx:Nx (aX+1) ((Z.row (zN none 0 0 none 0 0 none 0 0 0 0 0) 6).own Z.y y0 6)) (u1:aX<(lE:Int):=by omega) (u2:aX<10:=by omega) (u3:Ix aX lE:=by omega) (u4:¬ 20<(lG:Int):=by omega) (u5:¬ 20<(lH:Int):=by omega) (u6:¬ 20<(lN:Int):=by omega) (u7:I6 (aX+1):=by omega),zHZ BA aX Z Nx Qr Q0 :=
 let s1:=Z.row (zN none 0 0 none 0 0 none 0 0 0 0 0) 6;let s2:=s1.own Z.y (zN qE lG cG qF lH cF qK lN cL nE nI nM) 6;let y0:=zN qE lG cG qF lH cF qK lN cL nE nI nM;fun h1 h2 nx u1 u2 u3 u4 u5 u6 u7=>kO 0 (aX+1) [.g,.g,.l (.slice (some dC) lE cE),.g,.b true,.g,.g,.b true,.g,.g,.l (.slice (some dC) lE cE),.g,.i,.l (qh y0),.g,.e undef s2,.g,.l (.slice qE lG cG),.g,.b false,.g,.g,.l (.slice qF lH cF),.g,.b false,.g,.g,.g,.l (.slice qK lN cL),.g,.b false,.g,.g,.n (aX+1),.g] (fun _ f=>an2 h1 (zR u1) (an6 (zR u2) h1 u3 h2 ((zC _ _ _).store (vs:=y0) rfl zAB rfl (nle rfl) rfl:qq (evL [pq Z.y 0,qh y0]) s1 (.store 76 (.tmp 0) (.tmp 1))=some (undef,s2)) ((zC _ _ _).put.rw.ld yV (k:=0) rfl:lz s2 26 (qg Z.y 0) (.slice qE lG cG)) (an6 (zS u4) ((zC _ _ _).put.rw.ld yV (k:=1) rfl:lz s2 26 (qg Z.y 1) (.slice qF lH cF)) (zS u5) ((zC _ _ _).put.rw.ld yV (k:=2) rfl:lz s2 26 (qg Z.y 2) (.slice qK lN cL)) (zS u6) (w64 u7) f))) nx
theorem xQE (h1:lz Z 23 (qg BA 2) (.slice qD lE cE)) (nx:Q0 Z) (u1:aX<(lE:Int):=by omega) (u2:¬ aX<10:=by omega):zHZ BA aX Z Nx Qr Q0 :=
 kO 2 () [.g,.g,.l (.slice qD lE cE),.g,.b true,.g,.g,.b false,.g] (fun _ f=>an3 h1 (zR u1) (zS u2) f) nx
theorem xQD (h1:lz Z 23 (qg BA 2) (.slice qD lE cE)) (nx:Q0 Z) (u1:¬ aX<(lE:Int):=by omega):zHZ BA aX Z Nx Qr Q0 :=
 kO 2 () [.g,.g,.l (.slice qD lE cE),.g,.b false,.g,.g] (fun _ f=>an2 h1 (zS u1) f) nx
theorem xVF:let y0:=wkc ao af ac ad ae aa ab ar ay am;∀ (hL:xCE Z.y 0 (Z.row y0 6) Pr P0) (kr:∀ t2_1' Z',Pr t2_1' Z'->yGV Z.y t2_1' Z' Q) (k0:∀ Z',P0 Z'->zMF Z.y Z' Q),qi 14 [qh y0] Z Q :=
 fun hL kr k0=>zG [.g,.g,.g,.lf 47 (zRA Z.y 0) [zTK Z.y Pr,zTL Z.y P0]] (kd (ai (ai tt (ai (arf (zRA Z.y 0)) hL)) (ai (kz1 kr) (ai (kz0 k0) trivial))))
theorem yYU (nx:Q (.bool t2_1) Z):yGV BA t2_1 Z Q :=
 sK [] nx
theorem yYX (h1:lz Z 22 (qg BA 1) (.slice qU lW cV)) (h2:lz Z 23 (qg BA 2) (.slice qQ lT cR)) (nx:Q (.bool true) Z) (u1:(lW:Int)<=15:=by omega) (u2:(lT:Int)<=9:=by omega):zMF BA Z Q :=
 sK [.g,.l (.slice qU lW cV),.g,.b true,.g,.g,.l (.slice qQ lT cR),.g,.b true,.g,.g] (an4 h1 (yE u1) h2 (yE u2) nx)
theorem yYW (h1:lz Z 22 (qg BA 1) (.slice qU lW cV)) (h2:lz Z 23 (qg BA 2) (.slice qQ lT cR)) (nx:Q (.bool false) Z) (u1:(lW:Int)<=15:=by omega) (u2:¬ (lT:Int)<=9:=by omega):zMF BA Z Q :=
 sK [.g,.l (.slice qU lW cV),.g,.b true,.g,.g,.l (.slice qQ lT cR),.g,.b false,.g,.g] (an4 h1 (yE u1) h2 (yH u2) nx)
theorem yYV (h1:lz Z 22 (qg BA 1) (.slice qU lW cV)) (nx:Q (.bool false) Z) (u1:¬ (lW:Int)<=15:=by omega):zMF BA Z Q :=
 sK [.g,.l (.slice qU lW cV),.g,.b false,.g,.g,.g] (an2 h1 (yH u1) nx)
theorem yYT (hb:∀ k bI Z,Inv k bI Z->yKG BA BB BC bI Z (NX1 Inv k) Q0):∀ k bI Z,Inv k bI Z->xCC BA BB BC bI Z Q0 :=
 xL (ai (xZ 0) trivial) hb
theorem xQA:let s1:=Z.row (zF 0 0 0 0 0) 5;let s2:=s1.own Z.y (zF nH nF nG nE nI) 5;∀ (h1:lz Z 22 (qg BA 1) (.slice (some dC) lE cE)) (h2:lz Z 92 (zJ dC (Int.toNat bI*5)) (qh (zF nH nF nG nE nI))) (h3:lz s2 31 (qg BC 1) (.slice qI lJ cJ)) (h4:yC Pg 31 31 (.slice qI lJ cJ) (.slice (some ⟨(Z.y+1),0,none⟩) 1 1) (s2.row (zF nH nF nG nE nI) 5)=some (.slice qUB lYB cUB,ZF)) (h5:qq (evL [pq BC 1,.slice qUB lYB cUB]) ZF (.store 31 (.tmp 0) (.tmp 1))=some (undef,ZBJ)) (nx:Nx (bI+1) ZBJ) (u1:bI<(lE:Int):=by omega) (u2:Ix bI lE:=by omega) (u3:I6 (bI+1):=by omega),yKG BA BB BC bI Z Nx Q0:=
 let s1:=Z.row (zF 0 0 0 0 0) 5;let s2:=s1.own Z.y (zF nH nF nG nE nI) 5;fun h1 h2 h3 h4 h5 nx u1 u2 u3=>kO 0 (bI+1) [.g,.g,.l (.slice (some dC) lE cE),.g,.b true,.g,.l (.slice (some dC) lE cE),.g,.i,.l (qh (zF nH nF nG nE nI)),.g,.e undef s2,.g,.l (.slice qI lJ cJ),.g,.l (iV nH),.g,.l (iV nF),.g,.g,.l (iV nG),.g,.g,.l (iV nE),.g,.g,.l (iV nI),.g,.g,.e (.slice qUB lYB cUB) ZF,.g,.e undef ZBJ,.g,.n (bI+1),.g] (fun _ f=>an3 h1 (zR u1) h1 (an6 u2 h2 ((zC _ _ _).store (vs:=(zF nH nF nG nE nI)) rfl zIU rfl (nle rfl) rfl:qq (evL [pq Z.y 0,qh (zF nH nF nG nE nI)]) s1 (.store 92 (.tmp 0) (.tmp 1))=some (undef,s2)) h3 ((zC _ _ _).put.rw.ld zU (k:=0) rfl:lz s2 3 (qg Z.y 0) (iV nH)) ((zC _ _ _).put.rw.ld zU (k:=1) rfl:lz s2 3 (qg Z.y 1) (iV nF)) (an6 ((zC _ _ _).put.rw.ld zU (k:=2) rfl:lz s2 3 (qg Z.y 2) (iV nG)) ((zC _ _ _).put.rw.ld zU (k:=3) rfl:lz s2 3 (qg Z.y 3) (iV nE)) ((zC _ _ _).put.rw.ld zU (k:=4) rfl:lz s2 3 (qg Z.y 4) (iV nI)) h4 h5 (w64 u3) f))) nx
theorem xPZ (h1:lz Z 22 (qg BA 1) (.slice qD lE cE)) (nx:Q0 Z) (u1:¬ bI<(lE:Int):=by omega):yKG BA BB BC bI Z Nx Q0 :=
 kO 1 () [.g,.g,.l (.slice qD lE cE),.g,.b false] (fun _ f=>an2 h1 (zS u1) f) nx
theorem xVE:let y0:=wkc ao af ac ad ae aa ab ar ay am;let y1:=wkc 0 none 0 0 none 0 0 0 0 0;let y2:=wkc ao none 0 0 none 0 0 ar ay am;∀ (hL:xCC Z.y (Z.y+1) (Z.y+2) 0 ((((Z.row y0 6).row y1 6).row y1 6).own (Z.y+2) y2 6) P0) (k0:∀ Z',P0 Z'->yGS Z.y (Z.y+1) (Z.y+2) Z' Q),qi 17 [qh y0] Z Q :=
 let s1:=Z.row (wkc ao af ac ad ae aa ab ar ay am) 6;let s2:=s1.row (wkc 0 none 0 0 none 0 0 0 0 0) 6;let s3:=s2.row (wkc 0 none 0 0 none 0 0 0 0 0) 6;let s4:=s3.own (Z.y+2) (wkc ao none 0 0 none 0 0 ar ay am) 6;let s5:=zWP Z.y (Z.y+1) (Z.y+2) 0;let y2:=wkc ao none 0 0 none 0 0 ar ay am;fun hL k0=>zG [.g,.g,.g,.l (iV ao),.g,.l (iV ar),.g,.l (iV ay),.g,.l (iV am),.g,.g,.e undef s4,.g,.lf 82 s5 [zTJ Z.y (Z.y+1) (Z.y+2) P0]] (kd (an5 ((zC _ _ _).row.rw.ld zU (k:=0) rfl:lz s2 3 (qg Z.y 0) (iV ao)) ((zC _ _ _).row.rw.ld zU (k:=3) rfl:lz s2 3 (qg Z.y 3) (iV ar)) ((zC _ _ _).row.rw.ld zU (k:=4) rfl:lz s2 3 (qg Z.y 4) (iV ay)) ((zC _ _ _).row.rw.ld zU (k:=5) rfl:lz s2 3 (qg Z.y 5) (iV am)) ((zC _ _ _).store (vs:=y2) rfl xB rfl (nle rfl) rfl:qq (evL [pq ((Z.y+2)) 0,qh y2]) s3 (.store 34 (.tmp 0) (.tmp 1))=some (undef,s4)) (ai (ai tt (ai (arf s5) hL)) (ai (kz0 k0) trivial))))
theorem yYS (hb:∀ k fS Z,Inv k fS Z->zWQ BA BB BC fS Z (NX1 Inv k) Q2):∀ k fS Z,Inv k fS Z->xCB BA BB BC fS Z Q2 :=
 xL (ai (xZ 2) trivial) hb
theorem xPY:let s1:=Z.row (zN none 0 0 none 0 0 none 0 0 0 0 0) 6;let s2:=s1.own Z.y (zN qB lB cB qA lA cA qC lF cD nJ nK nL) 6;let Y1:=ZG.row (zN qZ lDB cZ qAB lEB cAB qBB lFB cBB nUB nVB nWB) 6;∀ (h1:lz Z 23 (qg BA 2) (.slice (some eV) lI cK)) (h2:lz Z 76 (zJ eV (Int.toNat fS*6)) (qh (zN qB lB cB qA lA cA qC lF cD nJ nK nL))) (h3:lz s2 32 (qg BC 2) (.slice qP lU cQ)) (h4:qo 19 [.slice qB lB cB] s2 (.slice qZ lDB cZ) ZK) (h5:lz ZK 26 (qg Z.y 1) (.slice qT lY cU)) (h6:qo 19 [.slice qT lY cU] ZK (.slice qAB lEB cAB) ZL) (h7:lz ZL 26 (qg Z.y 2) (.slice qS lX cT)) (h8:qo 19 [.slice qS lX cT] ZL (.slice qBB lFB cBB) ZG) (h9:lz ZG 3 (qg Z.y 3) (iV nUB)) (h10:lz ZG 3 (qg Z.y 4) (iV nVB)) (h11:lz ZG 3 (qg Z.y 5) (iV nWB)) (h12:yC Pg 32 32 (.slice qP lU cQ) (.slice (some (qg ZG.y 0)) 1 1) Y1=some (.slice qJB lNB cKB,ZQB)) (h13:qq (evL [pq BC 2,.slice qJB lNB cKB]) ZQB (.store 32 (.tmp 0) (.tmp 1))=some (undef,ZBK)) (h14:zH ZK.y [pq Z.y 1]) (h15:zH ZK.y [.slice qT lY cU]) (h16:zH ZL.y [pq Z.y 2]) (h17:zH ZL.y [.slice qS lX cT]) (h18:zH ZG.y [pq Z.y 3]) (h19:zH ZG.y [pq Z.y 4]) (h20:zH ZG.y [pq Z.y 5]) (h21:zH ZG.y [qh (zN qZ lDB cZ qAB lEB cAB qBB lFB cBB nUB nVB nWB)]) (h22:zH Y1.y [.slice qP lU cQ,.slice (some (qg ZG.y 0)) 1 1]) (h23:zH ZQB.y [pq BC 2,.slice qJB lNB cKB]) (h24:(zLq ZK 32 (qg BC 2) (.slice qP lU cQ))) (h25:(zLq ZL 32 (qg BC 2) (.slice qP lU cQ))) (h26:(zLq ZG 32 (qg BC 2) (.slice qP lU cQ))) (h27:(zLq Y1 32 (qg BC 2) (.slice qP lU cQ))) (h28:lz s2 26 (qg Z.y 1) (.slice qT lY cU)) (h29:(zLq ZK 26 (qg Z.y 1) (.slice qT lY cU))) (h30:lz s2 26 (qg Z.y 2) (.slice qS lX cT)) (h31:(zLq ZK 26 (qg Z.y 2) (.slice qS lX cT))) (h32:(zLq ZL 26 (qg Z.y 2) (.slice qS lX cT))) (h33:lz s2 3 (qg Z.y 3) (iV nUB)) (h34:(zLq ZK 3 (qg Z.y 3) (iV nUB))) (h35:(zLq ZL 3 (qg Z.y 3) (iV nUB))) (h36:(zLq ZG 3 (qg Z.y 3) (iV nUB))) (h37:lz s2 3 (qg Z.y 4) (iV nVB)) (h38:(zLq ZK 3 (qg Z.y 4) (iV nVB))) (h39:(zLq ZL 3 (qg Z.y 4) (iV nVB))) (h40:(zLq ZG 3 (qg Z.y 4) (iV nVB))) (h41:lz s2 3 (qg Z.y 5) (iV nWB)) (h42:(zLq ZK 3 (qg Z.y 5) (iV nWB))) (h43:(zLq ZL 3 (qg Z.y 5) (iV nWB))) (h44:(zLq ZG 3 (qg Z.y 5) (iV nWB))) (b_qB:∀ a,qB=some a->a.block<Z.y) (nx:Nx (fS+1) ZBK) (u1:fS<(lI:Int):=by omega) (u2:Ix fS lI:=by omega) (u3:I6 (fS+1):=by omega) (b_BC:BC<Z.y:=by omega),zWQ BA BB BC fS Z Nx Q2:=
 let s1:=Z.row (zN none 0 0 none 0 0 none 0 0 0 0 0) 6;let s2:=s1.own Z.y (zN qB lB cB qA lA cA qC lF cD nJ nK nL) 6;fun h1 h2 h3 h4 h5 h6 h7 h8 h9 h10 h11 h12 h13 h14 h15 h16 h17 h18 h19 h20 h21 h22 h23 h24 h25 h26 h27 h28 h29 h30 h31 h32 h33 h34 h35 h36 h37 h38 h39 h40 h41 h42 h43 h44 b_qB nx u1 u2 u3 b_BC=>kO 0 (fS+1) [.g,.g,.l (.slice (some eV) lI cK),.g,.b true,.g,.l (.slice (some eV) lI cK),.g,.i,.l (qh (zN qB lB cB qA lA cA qC lF cD nJ nK nL)),.g,.e undef s2,.g,.l (.slice qP lU cQ),.g,.l (.slice qB lB cB),.c (.slice qZ lDB cZ) ZK,.g,.l (.slice qT lY cU),.c (.slice qAB lEB cAB) ZL,.g,.l (.slice qS lX cT),.c (.slice qBB lFB cBB) ZG,.g,.l (iV nUB),.g,.l (iV nVB),.g,.l (iV nWB),.g,.g,.e (.slice qJB lNB cKB) ZQB,.g,.e undef ZBK,.g,.n (fS+1),.g] (fun _ f=>an4 h1 (zR u1) h1 u2 (an6 h2 ((zC _ _ _).store (vs:=(zN qB lB cB qA lA cA qC lF cD nJ nK nL)) rfl zAB rfl (nle rfl) rfl:qq (evL [pq Z.y 0,qh (zN qB lB cB qA lA cA qC lF cD nJ nK nL)]) s1 (.store 76 (.tmp 0) (.tmp 1))=some (undef,s2)) h3 ((zC _ _ _).put.rw.ld yV (k:=0) rfl:lz s2 26 (qg Z.y 0) (.slice qB lB cB)) h4 h5 (an6 h6 h7 h8 h9 h10 h11 (an6 h12 h13 ((zE (zO (vN b_BC 1)) zI):zH s2.y [pq BC 2]) ((zE (zO (nlt Z.y 0 1 rfl)) zI):zH s2.y [pq Z.y 0]) ((zE (yBK b_qB 1) zI):zH s2.y [.slice qB lB cB]) h14 (an6 h15 h16 h17 h18 h19 h20 (an6 h21 h22 h23 (⟨⟨(vN b_BC 1),rfl⟩,h3⟩:(zLq s2 32 (qg BC 2) (.slice qP lU cQ))) h24 h24 (an6 h25 h25 h26 h26 h27 (⟨⟨(nlt Z.y 0 1 rfl),rfl⟩,h28⟩:(zLq s2 26 (qg Z.y 1) (.slice qT lY cU))) (an6 h29 (⟨⟨(nlt Z.y 0 1 rfl),rfl⟩,h30⟩:(zLq s2 26 (qg Z.y 2) (.slice qS lX cT))) h31 h31 h32 (⟨⟨(nlt Z.y 0 1 rfl),rfl⟩,h33⟩:(zLq s2 3 (qg Z.y 3) (iV nUB))) (an6 h34 h34 h35 h35 h36 (⟨⟨(nlt Z.y 0 1 rfl),rfl⟩,h37⟩:(zLq s2 3 (qg Z.y 4) (iV nVB))) (an6 h38 h38 h39 h39 h40 (⟨⟨(nlt Z.y 0 1 rfl),rfl⟩,h41⟩:(zLq s2 3 (qg Z.y 5) (iV nWB))) (an6 h42 h42 h43 h43 h44 (w64 u3) f))))))))))) nx
theorem xPX (h1:lz Z 23 (qg BA 2) (.slice qJ lI cK)) (nx:Q2 Z) (u1:¬ fS<(lI:Int):=by omega):zWQ BA BB BC fS Z Nx Q2 :=
 kO 1 () [.g,.g,.l (.slice qJ lI cK),.g,.b false] (fun _ f=>an2 h1 (zS u1) f) nx
theorem yYR (hL:xCB BA BB BC 0 Z P2) (k2:∀ Z',P2 Z'->yGR BA BB BC Z' Q):yGS BA BB BC Z Q :=
 sK [.g,.lf 82 (zQZ BA BB BC 0) [zTI BA BB BC P2]] (ai (ai tt (ai (arf (zQZ BA BB BC 0)) hL)) (ai (kz0 k2) trivial))
theorem yYQ:let y0:=qh (wkc nCF qXB lBC cXB qYB lCC cYB nCG nCH nCI);let y1:=wkc nZB qVB lZB cVB qWB lAC cWB nAC nBC nCC;∀ (h1:lz Z 34 (qg BC 0) (qh y1)) (h2:qq (evL [pq BB 0,qh y1]) Z (.store 34 (.tmp 0) (.tmp 1))=some (undef,ZP)) (h3:lz ZP 34 (qg BB 0) y0) (nx:Q y0 ZP),yGR BA BB BC Z Q :=
 let y0:=qh (wkc nCF qXB lBC cXB qYB lCC cYB nCG nCH nCI);let y1:=wkc nZB qVB lZB cVB qWB lAC cWB nAC nBC nCC;fun h1 h2 h3 nx=>sK [.l (qh y1),.e undef ZP,.l y0] (an3 h1 h2 h3 nx)
theorem xJO:let s1:=Z.row (wkc ao af ac ad ae aa ab ar ay am) 6;∀ (h1:qo 14 [qh (wkc ao af ac ad ae aa ab ar ay am)] s1 (.bool true) s1) (h2:qo 55 [qh (wkc ao af ac ad ae aa ab ar ay am)] s1 (iV n2) s1) (nx:Q (.bool true) s1) (u1:n2=0:=by omega),qi 64 [qh (wkc ao af ac ad ae aa ab ar ay am)] Z Q:=
 let s1:=Z.row (wkc ao af ac ad ae aa ab ar ay am) 6;fun h1 h2 nx u1=>zG [.g,.g,.l (qh (wkc ao af ac ad ae aa ab ar ay am)),.c (.bool true) s1,.g,.l (qh (wkc ao af ac ad ae aa ab ar ay am)),.c (iV n2) s1,.b true,.g,.g] (kd (an5 ((zC _ _ _).rw.ldN zCU uQ (k:=0) rfl rfl (nle rfl):lz s1 25 (qg Z.y 0) (qh (wkc ao af ac ad ae aa ab ar ay am))) h1 ((zC _ _ _).rw.ldN zCU uQ (k:=0) rfl rfl (nle rfl):lz s1 25 (qg Z.y 0) (qh (wkc ao af ac ad ae aa ab ar ay am))) h2 (xH u1) nx))
theorem xJN:let s1:=Z.row (wkc ao af ac ad ae aa ab ar ay am) 6;∀ (h1:qo 14 [qh (wkc ao af ac ad ae aa ab ar ay am)] s1 (.bool true) s1) (h2:qo 55 [qh (wkc ao af ac ad ae aa ab ar ay am)] s1 (iV n2) s1) (nx:Q (.bool false) s1) (u1:¬ n2=0:=by omega),qi 64 [qh (wkc ao af ac ad ae aa ab ar ay am)] Z Q:=
 let s1:=Z.row (wkc ao af ac ad ae aa ab ar ay am) 6;fun h1 h2 nx u1=>zG [.g,.g,.l (qh (wkc ao af ac ad ae aa ab ar ay am)),.c (.bool true) s1,.g,.l (qh (wkc ao af ac ad ae aa ab ar ay am)),.c (iV n2) s1,.b false,.g,.g] (kd (an5 ((zC _ _ _).rw.ldN zCU uQ (k:=0) rfl rfl (nle rfl):lz s1 25 (qg Z.y 0) (qh (wkc ao af ac ad ae aa ab ar ay am))) h1 ((zC _ _ _).rw.ldN zCU uQ (k:=0) rfl rfl (nle rfl):lz s1 25 (qg Z.y 0) (qh (wkc ao af ac ad ae aa ab ar ay am))) h2 (yD u1) nx))
theorem xJM:let s1:=Z.row (wkc ao af ac ad ae aa ab ar ay am) 6;∀ (h1:qo 14 [qh (wkc ao af ac ad ae aa ab ar ay am)] s1 (.bool false) s1) (nx:Q (.bool false) s1),qi 64 [qh (wkc ao af ac ad ae aa ab ar ay am)] Z Q:=
 let s1:=Z.row (wkc ao af ac ad ae aa ab ar ay am) 6;fun h1 nx=>zG [.g,.g,.l (qh (wkc ao af ac ad ae aa ab ar ay am)),.c (.bool false) s1,.g,.g,.g] (kd (an2 ((zC _ _ _).rw.ldN zCU uQ (k:=0) rfl rfl (nle rfl):lz s1 25 (qg Z.y 0) (qh (wkc ao af ac ad ae aa ab ar ay am))) h1 nx))
theorem xME:let s1:=Z.row (wkc ao af ac ad ae aa ab ar ay am) 6;∀ (h1:qo 64 [qh (wkc ao af ac ad ae aa ab ar ay am)] s1 (.bool true) s1) (nx:Q (.bool true) s1) (u1:(ac:Int)<=8:=by omega) (u2:(aa:Int)<=4:=by omega),qi 36 [qh (wkc ao af ac ad ae aa ab ar ay am)] Z Q:=
 let s1:=Z.row (wkc ao af ac ad ae aa ab ar ay am) 6;fun h1 nx u1 u2=>zG [.g,.g,.l (qh (wkc ao af ac ad ae aa ab ar ay am)),.c (.bool true) s1,.g,.g,.l (.slice af ac ad),.g,.b true,.g,.g,.g,.l (.slice ae aa ab),.g,.b true,.g,.g] (kd (an6 ((zC _ _ _).rw.ldN zCU uQ (k:=0) rfl rfl (nle rfl):lz s1 25 (qg Z.y 0) (qh (wkc ao af ac ad ae aa ab ar ay am))) h1 ((zC _ _ _).rw.ld zBG (k:=1) rfl:lz s1 22 (qg Z.y 1) (.slice af ac ad)) (yE u1) ((zC _ _ _).rw.ld zBF (k:=2) rfl:lz s1 23 (qg Z.y 2) (.slice ae aa ab)) (yE u2) nx))
theorem xMD:let s1:=Z.row (wkc ao af ac ad ae aa ab ar ay am) 6;∀ (h1:qo 64 [qh (wkc ao af ac ad ae aa ab ar ay am)] s1 (.bool true) s1) (nx:Q (.bool false) s1) (u1:(ac:Int)<=8:=by omega) (u2:¬ (aa:Int)<=4:=by omega),qi 36 [qh (wkc ao af ac ad ae aa ab ar ay am)] Z Q:=
 let s1:=Z.row (wkc ao af ac ad ae aa ab ar ay am) 6;fun h1 nx u1 u2=>zG [.g,.g,.l (qh (wkc ao af ac ad ae aa ab ar ay am)),.c (.bool true) s1,.g,.g,.l (.slice af ac ad),.g,.b true,.g,.g,.g,.l (.slice ae aa ab),.g,.b false,.g,.g] (kd (an6 ((zC _ _ _).rw.ldN zCU uQ (k:=0) rfl rfl (nle rfl):lz s1 25 (qg Z.y 0) (qh (wkc ao af ac ad ae aa ab ar ay am))) h1 ((zC _ _ _).rw.ld zBG (k:=1) rfl:lz s1 22 (qg Z.y 1) (.slice af ac ad)) (yE u1) ((zC _ _ _).rw.ld zBF (k:=2) rfl:lz s1 23 (qg Z.y 2) (.slice ae aa ab)) (yH u2) nx))
theorem xMC:let s1:=Z.row (wkc ao af ac ad ae aa ab ar ay am) 6;∀ (h1:qo 64 [qh (wkc ao af ac ad ae aa ab ar ay am)] s1 (.bool true) s1) (nx:Q (.bool false) s1) (u1:¬ (ac:Int)<=8:=by omega),qi 36 [qh (wkc ao af ac ad ae aa ab ar ay am)] Z Q:=
 let s1:=Z.row (wkc ao af ac ad ae aa ab ar ay am) 6;fun h1 nx u1=>zG [.g,.g,.l (qh (wkc ao af ac ad ae aa ab ar ay am)),.c (.bool true) s1,.g,.g,.l (.slice af ac ad),.g,.b false,.g,.g,.g,.g] (kd (an4 ((zC _ _ _).rw.ldN zCU uQ (k:=0) rfl rfl (nle rfl):lz s1 25 (qg Z.y 0) (qh (wkc ao af ac ad ae aa ab ar ay am))) h1 ((zC _ _ _).rw.ld zBG (k:=1) rfl:lz s1 22 (qg Z.y 1) (.slice af ac ad)) (yH u1) nx))
theorem xMB:let s1:=Z.row (wkc ao af ac ad ae aa ab ar ay am) 6;∀ (h1:qo 64 [qh (wkc ao af ac ad ae aa ab ar ay am)] s1 (.bool false) s1) (nx:Q (.bool false) s1),qi 36 [qh (wkc ao af ac ad ae aa ab ar ay am)] Z Q:=
 let s1:=Z.row (wkc ao af ac ad ae aa ab ar ay am) 6;fun h1 nx=>zG [.g,.g,.l (qh (wkc ao af ac ad ae aa ab ar ay am)),.c (.bool false) s1,.g,.g,.g,.g,.g] (kd (an2 ((zC _ _ _).rw.ldN zCU uQ (k:=0) rfl rfl (nle rfl):lz s1 25 (qg Z.y 0) (qh (wkc ao af ac ad ae aa ab ar ay am))) h1 nx))
theorem yRO {Inv:Nat->(Option Addr)->Nat->Nat->Int->St->Prop} {Q0:(Option Addr)->Nat->Nat->St->Prop} (hb:∀ k dm dp dv eW Z,Inv k dm dp dv eW Z->zKX bM bb bj BA dm dp dv eW Z (NX4 Inv k) Q0):∀ k dm dp dv eW Z,Inv k dm dp dv eW Z->yBU bM bb bj BA dm dp dv eW Z Q0 :=
 yIT (ai (xZ 0) trivial) hb
theorem xHZ {Nx:(Option Addr)->Nat->Nat->Int->St->Prop} {Q0:(Option Addr)->Nat->Nat->St->Prop} (h1:lz Z 22 (qg BA 1) (.slice qD lE cE)) (h2:lz Z 23 (qg BA 2) (.slice qE lG cG)) (h3:vP Pg .rem 3 (.tmp 25) (.tmp 27) (iV eW) (iV (bb:Int))=some (iV nF)) (h4:lz Z 5 (zJ words_a (Int.toNat nF*1)) (.int .u8 nG)) (h5:vP Pg .rem 3 (.tmp 31) (.tmp 35) (iV nG) (iV ((lG:Int)+1))=some (iV nE)) (h6:yC Pg 26 26 (.slice dm dp dv) (.slice (some (qg Z.y 0)) 1 1) (Z.row [iV (nE-1)] 1)=some (.slice qI lJ cJ,ZQ)) (nx:Nx qI lJ cJ (eW+1) ZQ) (u1:eW<(lE:Int):=by omega) (u2:0<(bb:Int):=by omega) (u3:0<(lG:Int):=by omega) (u4:Ix nF bb:=by omega) (u5:I6 nG:=by omega) (u6:I6 ((lG:Int)+1):=by omega) (u7:I6 (nE-1):=by omega) (u8:I6 (eW+1):=by omega):zKX (some words_a) bb bj BA dm dp dv eW Z Nx Q0 :=
 kO 0 (qI,lJ,cJ,eW+1) [.g,.g,.l (.slice qD lE cE),.g,.b true,.g,.g,.g,.b true,.g,.g,.l (.slice qE lG cG),.g,.b true,.g,.g,.g,.g,.g,.v (iV nF),.i,.l (.int .u8 nG),.n nG,.g,.l (.slice qE lG cG),.g,.n ((lG:Int)+1),.v (iV nE),.n (nE-1),.g,.g,.g,.g,.e (.slice qI lJ cJ) ZQ,.g,.g,.n (eW+1),.g] (fun _ f=>an3 h1 (zR u1) (zR u2) (an6 h2 (zR u3) h3 u4 h4 (w64 u5) (an6 h2 (w64 u6) h5 (w64 u7) h6 (w64 u8) f))) nx
theorem xHY {Nx:(Option Addr)->Nat->Nat->Int->St->Prop} {Q0:(Option Addr)->Nat->Nat->St->Prop} (h1:lz Z 22 (qg BA 1) (.slice qD lE cE)) (h2:lz Z 23 (qg BA 2) (.slice qE lG cG)) (h3:yC Pg 26 26 (.slice dm dp dv) (.slice (some (qg Z.y 0)) 1 1) (Z.row [iV (-1)] 1)=some (.slice qK lN cL,ZC)) (nx:Nx qK lN cL (eW+1) ZC) (u1:eW<(lE:Int):=by omega) (u2:0<(bb:Int):=by omega) (u3:¬ 0<(lG:Int):=by omega) (u4:I6 (eW+1):=by omega):zKX bM bb bj BA dm dp dv eW Z Nx Q0 :=
 kO 0 (qK,lN,cL,eW+1) [.g,.g,.l (.slice qD lE cE),.g,.b true,.g,.g,.g,.b true,.g,.g,.l (.slice qE lG cG),.g,.b false,.g,.g,.g,.g,.e (.slice qK lN cL) ZC,.g,.g,.n (eW+1),.g] (fun _ f=>ai h1 (an6 (zR u1) (zR u2) h2 (zS u3) h3 (w64 u4) f)) nx
theorem xHX {Nx:(Option Addr)->Nat->Nat->Int->St->Prop} {Q0:(Option Addr)->Nat->Nat->St->Prop} (h1:lz Z 22 (qg BA 1) (.slice qD lE cE)) (h2:yC Pg 26 26 (.slice dm dp dv) (.slice (some (qg Z.y 0)) 1 1) (Z.row [iV (-1)] 1)=some (.slice qF lH cF,ZB)) (nx:Nx qF lH cF (eW+1) ZB) (u1:eW<(lE:Int):=by omega) (u2:¬ 0<(bb:Int):=by omega) (u3:I6 (eW+1):=by omega):zKX bM bb bj BA dm dp dv eW Z Nx Q0 :=
 kO 0 (qF,lH,cF,eW+1) [.g,.g,.l (.slice qD lE cE),.g,.b true,.g,.g,.g,.b false,.g,.g,.g,.g,.g,.e (.slice qF lH cF) ZB,.g,.g,.n (eW+1),.g] (fun _ f=>an5 h1 (zR u1) (zS u2) h2 (w64 u3) f) nx
theorem xHW {Nx:(Option Addr)->Nat->Nat->Int->St->Prop} {Q0:(Option Addr)->Nat->Nat->St->Prop} (h1:lz Z 22 (qg BA 1) (.slice qD lE cE)) (nx:Q0 dm dp dv Z) (u1:¬ eW<(lE:Int):=by omega):zKX bM bb bj BA dm dp dv eW Z Nx Q0 :=
 kO 1 (dm,dp,dv) [.g,.g,.l (.slice qD lE cE),.g,.b false] (fun _ f=>an2 h1 (zS u1) f) nx
theorem xQN {P0:(Option Addr)->Nat->Nat->St->Prop}:let y0:=wkc ao af ac ad ae aa ab ar ay am;∀ (hL:yBU bM bb bj Z.y none 0 0 0 (Z.row y0 6) P0) (k0:∀ p5_1' l5_1' c5_1' Z',P0 p5_1' l5_1' c5_1' Z'->yBV bM bb bj Z.y p5_1' l5_1' c5_1' Z' Q),qi 39 [qh y0,.slice bM bb bj] Z Q :=
 fun hL k0=>zG [.g,.g,.g,.g,.lf 43 (zKW bM bb bj Z.y none 0 0 0) [zOQ bM bb bj Z.y P0]] (kd (ai (ai tt (ai (arf (zKW bM bb bj Z.y none 0 0 0)) hL)) (ai (kz3 k0) trivial)))
theorem yRN (nx:Q (.slice dm dp dv) Z):yBV bM bb bj BA dm dp dv Z Q :=
 sK [.g,.g] nx
end
theorem xYI {P:Program} {Z:St} {n0 len c i:Nat} {a:Addr} {cs:List Value} {t:TypeId} {v:Value} (h:App Z n0 1 (.slice (some a) len c) len cs) (hv:v.cells.toList=[v]) (hs:yU P t=some 1) (hc:cellB v=true) (hi:i<len) :
  ∃ τ,zQ P (evL [.pointer (some (zJ a (Int.toNat (i:Int)*1))),v]) Z (.store t (.tmp 0) (.tmp 1))=some (undef,τ)/\App τ n0 1 (.slice (some a) len c) len (cs.set i v)/\Only (·=a.block) Z τ:=by
 cases h with
 | @more b s nx _ _ sp log hb hsp h0 hlt hl hp hsn =>
  have e:zJ (⟨b,0,sp⟩:Addr) (Int.toNat (i:Int)*1)=⟨b,i,sp⟩:=by rw [Int.toNat_natCast,Nat.mul_one];simp [zJ]
  rw [e];have hcs:cs.take i++([v]++cs.drop (i+1))=cs.set i v:=by rw [List.set_eq_take_append_cons_drop,if_pos (by omega)];rfl
  have hw:wM Z ⟨b,i,sp⟩ [v]=some (Z.put b (.cells (cs.set i v) 1 [(s,cs.length)] nx false)):=by
   have h2:(Nat.beq s (yB ⟨b,i,sp⟩) && Nat.ble (i+1) cs.length && !false && [v].all cellB)=true:=by
    have h3:Nat.beq s (yB ⟨b,i,sp⟩)=true:=by unfold yB;simp only [hsp];exact Nat.beq_refl _
    have h4:Nat.ble (i+1) cs.length=true:=(zV _ _).2 (by omega);rw [h3,h4];simp [hc]
   unfold wM;simp only [hb,h2,cond_true,zCR,St.write_eq,List.length_singleton,hcs]
  refine ⟨Z.put b (.cells (cs.set i v) 1 [(s,cs.length)] nx false), ?_,.more (s:=s) (log:=[]) (nx:=nx) (by rw [St.put_get,if_pos rfl];simp) hsp h0 hlt (by simp;omega) hp hsn,Only.put (.inr rfl)⟩
  have h1:Nat.beq v.cells.toList.length 1=true:=by rw [hv];rfl
  have:zCO P Z t ⟨b,i,sp⟩ v=some (Z.put b (.cells (cs.set i v) 1 [(s,cs.length)] nx false)):=by
   unfold zCO;rw [hv] at h1 ⊢;simp only [hs,h1,cond_true,hw]
  show (zCO P Z t ⟨b,i,sp⟩ v).map _=_;rw [this];rfl
theorem xYJ {Z:St} {n0 n len c:Nat} {p:Option Addr} {cs:List Value} (h:Ap Z n0 n p len c cs) (hl:0<len):∃ a,p=some a/\App Z n0 n (.slice (some a) len c) len cs:=by
 rcases h with h | ⟨b,rfl,rfl,_⟩
 ·cases p with
  | none=>cases h;omega
  | some a=>exact ⟨a,rfl,h⟩
 ·omega
theorem wAE {z:St} {n1 c l:Nat} {p:Option Addr} {r:List Int} (h:App z n1 1 (.slice p l c) l (r.map zY)) (hl:r.length=l):yG z p l r:=by
 refine App.slv (vs:=r.map zY) (by rw [wH r .i64];exact h) (by simp [hl]) ?_
 rintro v hv;obtain ⟨x,_,rfl⟩:=List.mem_map.1 hv;exact vV x
section
variable {Z:St} {w:Wk} {p q r t:Option Addr} {l m c d rl rc tl tc:Nat} {rs ts:List Int}
theorem xZI {f:FuncId} {args:List Value} {len:Nat} {cs:List Value} (h:zP Pg f args Z.re fun v s=>New Z.re s/\∃ p c,v=.slice p len c/\Ap s Z.y 1 p len c cs) :
  ∃ p c Z',zD Pg f args Z (.slice p len c) Z'/\New Z Z'/\Ap Z' Z.y 1 p len c cs:=by
 obtain ⟨v,Z',h1,h2,p,c,rfl,h3⟩:=zP.new (Q:=fun v s=>∃ p c,v=.slice p len c/\Ap s Z.y 1 p len c cs) h (by
  rintro v s s' ⟨p,c,rfl,g1⟩ hle;exact ⟨p,c,rfl,g1.le hle⟩) (by
  rintro v s hr ⟨p,c,rfl,g1⟩;cases p with
  | none =>
   rcases g1 with g1 | ⟨b,e,_⟩
   ·cases g1;exact ⟨none,0,rfl,.inl .nil⟩
   ·cases e
  | some a=>exact Bool.noConfusion (show false=true from hr))
 exact ⟨p,c,Z',h1,h2,h3⟩
theorem xXI {a:Addr} {l c:Nat}:vP Pg .eql 26 (.tmp 3) (.const (.slice none 0 0)) (.slice (some a) l c) (.slice none 0 0)=some (.bool false):=by kernel_rfl
theorem xUK {a:Addr} (h:yG Z (some a) l rs) (hl:l<=1073741824):∃ p' c' Z',zD Pg 60 [.slice (some a) l c] Z (.slice p' l c') Z'/\New Z Z'/\Ap Z' Z.y 1 p' l c' (rs.map zY):=by
 have hc:(xF (rs.map zY)).all cellB=true:=by rw [wH rs .i64];simp [List.all_eq_true];intro a _;rfl
 have o:=zC Z.re [] 1;obtain ⟨p',c',Z',h1,h2,h3,h4⟩:=Ap.append (k:=c) (n0:=Z.re.y) uJ (.inr ⟨Z.re.y,rfl,rfl,rfl,rfl,o,Nat.le_refl _⟩:Ap (Z.re.row [] 1) Z.re.y 1 (some ⟨Z.re.y,0,none⟩) 0 0 []) ((SlV.le h ((le0 Z).trans (Le.row _ [] 1))).1) (by omega) hc (by simp);rw [Nat.zero_add] at h1 h2;rw [List.nil_append,wH rs .i64] at h2;refine xZI (xOT xXI h1 ⟨(New.row _ _ _).of_only h3 ?_,p',c',rfl,h2⟩);rintro b ⟨a,e,rfl⟩;cases e;exact Nat.le_refl _
def leQ (w:Wk) (rs:List Int):Bool:=decide (zFI w (zZ rs) (zZ (zAR w)) w.drivers.length=[])
def xM (w:Wk) (rs:List Int) (i j:Nat):List Int:=((List.range j).filter fun k:Nat=>leQ w (rs.set i (k:Int))).map fun k:Nat=>(k:Int)
theorem xCL {i j:Nat}:xM w rs i (j+1)=xM w rs i j++if leQ w (rs.set i (j:Int)) then [(j:Int)] else []:=by
 unfold xM;rw [List.range_succ,List.filter_append,List.map_append];cases h:leQ w (rs.set i (j:Int)) <;> simp [h]
theorem zIT {i j:Nat}:(xM w rs i j).length<=j:=by
 unfold xM;rw [List.length_map];have:=List.length_filter_le (fun k:Nat=>leQ w (rs.set i (k:Int))) (List.range j);simpa using this
def zOZ (w:Wk) (rs:List Int) (i:Int):Int:=if xC w≠0 then xC w else if zIG w rs && inB i 0 ((w.duties.length:Int)-1) then 0 else 2
theorem zXT {i j:Nat} {k:Int} (hi:i<rs.length):zZ (rs.set i k) j=if j=i then k else zZ rs j:=by
 unfold zZ;rw [List.getD_eq_getElem?_getD,List.getD_eq_getElem?_getD,List.getElem?_set];by_cases e:i=j
 ·subst e;rw [if_pos rfl,if_pos hi,if_pos rfl];rfl
 ·rw [if_neg e,if_neg (Ne.symm e)]
theorem yBN {i:Int} (h:WkP Z 85 88 w p l q m) (hsh:zBC w) (hr:yG Z r rl rs) (hrl:rl<=1073741824) (hl:l<=1073741824) (hz:zOZ w rs i=0) :
  ∃ p' c' Z',zD Pg 32 [.agg ⟨wkc w.days p l c q m d w.rest w.run w.hours⟩,.slice r rl rc,iV i] Z (.tuple ⟨[.slice p' (xM w rs i.toNat m).length c',iV 0]⟩) Z'/\New Z Z'/\yG Z' p' (xM w rs i.toNat m).length (xM w rs i.toNat m)/\∀ b,AtP p' b->Z.y<=b:=by
 have hln:=h.len.1;have hm:=h.len.2;have hf:xC w=0:=by
  by_cases e:xC w=0
  ·exact e
  ·unfold zOZ at hz;rw [if_pos e] at hz;exact hz
 have e:(zIG w rs && inB i 0 ((w.duties.length:Int)-1))=true:=by
  unfold zOZ at hz;rw [if_neg (by omega)] at hz;split at hz
  ·assumption
  ·cases hz
 rw [Bool.and_eq_true] at e;obtain ⟨b2,b3⟩:=e;obtain ⟨r1,r2⟩:=zLP.1 b2;have hi:=vK.1 b3;have el:=hr.len;have hrll:rl=l:=by omega
 subst hrll;obtain ⟨n,hn,hn1,hn7,hv⟩:=yJM hf;have hs:=Sane.of hf hsh hln hm;obtain ⟨Z1,hZ1⟩:∃ Z1,Z1=Z.re.row (wkc w.days p rl c q m d w.rest w.run w.hours) 6:=⟨_,rfl⟩;have N1:New Z.re Z1:=by rw [hZ1];exact New.row _ _ _
 have L1:Le Z Z1:=(le0 Z).trans N1.le;have hm6:=hs.m6;have hl12:=hs.l12;have k1:=zKY (c:=c) (d:=d) (h.le L1) hsh;have k2:=yCX (c:=c) (d:=d) (rc:=rc) (h.le L1) (SlV.le hr L1) hrl (by omega);have k3:=zFD (Z:=Z1) (n:=i) (lo:=0) (hi:=(rl:Int)-1);rw [<- hln,b3] at k3;rw [b2] at k2;rw [hln] at k3;rw [hZ1] at k1 k2 k3;obtain ⟨i0,rfl⟩:∃ i0:Nat,i=(i0:Int):=⟨i.toNat,by omega⟩;rw [Int.toNat_natCast];have hi0:i0<rl:=by omega
 refine xXJ (xHV k1 k2 k3 (yKJ (Inv:=fun k p' l' c' i τ=>New Z1 τ/\∃ j:Nat,i=j/\j+k=m/\l'=(xM w rs i0 j).length/\Gr Pg τ Z1.y 3 1 p' l' c' ((xM w rs i0 j).map zY))
  (Q0:=fun p' l' c' τ=>New Z1 τ/\l'=(xM w rs i0 m).length/\Gr Pg τ Z1.y 3 1 p' l' c' ((xM w rs i0 m).map zY)) ?_ m none 0 0 0 _ ⟨by rw [<- hZ1];exact New.refl _,0,rfl,by omega,by simp [xM],by simpa [xM] using Gr.nil⟩) ?_ hf)
 ·rintro k p' l' c' j' τ ⟨hN,j,rfl,hk,rfl,hg⟩;by_cases hj:j<m;rotate_left
  ·have:j=m:=by omega
   subst this;exact yYZ ⟨hN,rfl,hg⟩ (by omega)
  have LL:Le Z τ:=L1.trans hN.le;have hr0:=SlV.le hr LL;obtain ⟨a,ea,_⟩:=hr0.some hi0;rw [ea] at hr0 ⊢;obtain ⟨p2,c2,τ2,g1,n2,A2⟩:=xUK (c:=rc) hr0 (by omega);obtain ⟨a2,rfl,B2⟩:=xYJ A2 (by omega);obtain ⟨τ3,st,A3,o3⟩:=xYI (t:=3) (v:=zY (j:Int)) B2 rfl wE rfl hi0;have hge:=B2.ge a2 rfl;have n3:New τ τ3:=n2.of_only o3 (by rintro b rfl;exact hge);have e:(rs.map zY).set i0 (zY (j:Int))=(rs.set i0 (j:Int)).map zY:=by rw [List.map_set]
  rw [e] at A3;have I3:=wAE A3 (by simp [el]);have k6:=xAY (c:=c) (d:=d) (rc:=c2) hn hn7 hv.toDays (h.le (LL.trans n3.le)) hs hsh I3 (fun i hi=>by
   rw [zXT (by omega)];have:=r2 i (by omega);split <;> omega)
  have es:=xCL (w:=w) (rs:=rs) (i:=i0) (j:=j);have hlb:decide (zFI w (zZ (rs.set i0 (j:Int))) (zZ (zAR w)) m=[])=leQ w (rs.set i0 (j:Int)):=by unfold leQ;rw [hm]
  rw [hlb] at k6;have hle:=zIT (w:=w) (rs:=rs) (i:=i0) (j:=j);cases hb:leQ w (rs.set i0 (j:Int)) with
  | true =>
   rw [hb] at k6 es;rw [if_pos rfl] at es;obtain ⟨q7,d7,τ4,g2,g3,g4,_,_⟩:=xZO (zY (j:Int)) uJ hg hN n3 (vV _) (by omega);refine yZB g1 st k6 g2 ⟨k-1,by omega,g4,j+1,by omega,by omega,by rw [es,List.length_append];rfl, ?_⟩ (by omega) (by omega) (by omega);rw [es,List.map_append];exact g3
  | false =>
   rw [hb] at k6 es;rw [if_neg (by simp),List.append_nil] at es;exact yZA g1 st k6 ⟨k-1,by omega,hN.trans n3,j+1,by omega,by omega,by rw [es],by rw [es];exact hg.le n3.le⟩ (by omega) (by omega) (by omega)
 ·rintro p' l' c' τ ⟨hN,rfl,hg⟩;refine yKI ⟨N1.trans hN,p',c',rfl,hg.slv,fun b hb=>?_⟩;have:=(hg.bd hb).1;have:=N1.nx;show Z.re.y<=b;omega
def zIQ (x:Drv):Bool:=decide (x.knows.length<=20) && (decide (x.leave.length<=20) && decide (x.wish.length<=20))
def zIC (w:Wk):Bool:=(w.drivers.take 10).all zIQ && (decide (w.duties.length<=15) && decide (w.drivers.length<=9))
theorem zXE (h:zIC w=true):zBC w/\w.duties.length<=15/\w.drivers.length<=9:=by
 unfold zIC at h;rw [Bool.and_eq_true,Bool.and_eq_true,decide_eq_true_eq,decide_eq_true_eq] at h;obtain ⟨h1,h2,h3⟩:=h;refine ⟨fun x hx=>?_,h2,h3⟩
 rw [List.take_of_length_le (by omega)] at h1;have:=List.all_eq_true.1 h1 x hx;unfold zIQ at this;rw [Bool.and_eq_true,Bool.and_eq_true,decide_eq_true_eq,decide_eq_true_eq,decide_eq_true_eq] at this;omega
theorem xYT (h:WkP Z 92 76 w p l q m):zD Pg 14 [.agg ⟨wkc w.days p l c q m d w.rest w.run w.hours⟩] Z (.bool (zIC w)) Z:=by
 have hln:=h.len.1;have hm:=h.len.2;obtain ⟨Z1,hZ1⟩:∃ Z1,Z1=Z.re.row (wkc w.days p l c q m d w.rest w.run w.hours) 6:=⟨_,rfl⟩;have N1:New Z.re Z1:=by rw [hZ1];exact New.row _ _ _
 have L1:Le Z Z1:=(le0 Z).trans N1.le;have hk0:=xP Z.re (wkc w.days p l c q m d w.rest w.run w.hours) 6;rw [<- hZ1] at hk0;have lD:∀ {τ},New Z1 τ->zB Pg τ 22 ⟨Z.re.y,1,none⟩=some (.slice p l c):=fun hN=>(hk0.le hN.le).ld zBG rfl
 have lV:∀ {τ},New Z1 τ->zB Pg τ 23 ⟨Z.re.y,2,none⟩=some (.slice q m d):=fun hN=>(hk0.le hN.le).ld zBF rfl
 refine (xVF (yYY (Inv:=fun k i τ=>New Z1 τ/\∃ j:Nat,i=j/\j+k=m/\j<=10/\(w.drivers.take j).all zIQ=true) (Qr:=fun b τ=>New Z1 τ/\b=false/\zIC w=false) (Q0:=fun τ=>New Z1 τ/\(w.drivers.take 10).all zIQ=true) ?_ m 0 _ ⟨by rw [<- hZ1];exact New.refl _,0,rfl,by omega,by omega,rfl⟩) ?_ ?_).pure
 ·rintro k i τ ⟨hN,j,rfl,hk,hj10,ha⟩;by_cases hj:j<m;rotate_left
  ·refine xQD (lV hN) ⟨hN, ?_⟩ (by omega);rw [List.take_of_length_le (by omega)] at ha ⊢;exact ha
  by_cases h10:j<10;rotate_left
  ·have:j=10:=by omega
   subst this;exact xQE (lV hN) ⟨hN,ha⟩ (by omega) (by omega)
  obtain ⟨a,rfl,p',l',c',r',n',d',s',j',e',ld,hkn,hlv,hws,_⟩:=(h.le (L1.trans hN.le)).vld xBY zAB hj;have e1:=hkn.len;have e2:=hlv.len;have e3:=hws.len;have N2:New τ ((τ.row (zN none 0 0 none 0 0 none 0 0 0 0 0) 6).own τ.y (zN p' l' c' r' n' d' s' j' e' (drQ w j).off (drQ w j).row (drQ w j).used) 6):=(New.row _ _ _).own (Nat.le_refl _);have hx:w.drivers[j]?=some (drQ w j):=by
   unfold drQ;rw [List.getD_eq_getElem?_getD,List.getElem?_eq_getElem (by omega)];rfl
  have no:zIQ (drQ w j)=false->zIC w=false:=by
   intro hf;have:(w.drivers.take 10).all zIQ=false:=by
    refine yYN (x:=drQ w j) ?_ hf;rw [List.mem_iff_getElem?];exact ⟨j,by rw [List.getElem?_take,if_pos h10];exact hx⟩
   unfold zIC;rw [this];rfl
  by_cases g1:20<l'
  ·exact xQI (lV hN) ld ⟨hN.trans N2,rfl,no (by unfold zIQ;rw [decide_eq_false (by omega)];rfl)⟩ (by omega) (by omega) (by omega) (by omega)
  by_cases g2:20<n'
  ·exact xQH (lV hN) ld ⟨hN.trans N2,rfl,no (by unfold zIQ;rw [decide_eq_true (by omega),decide_eq_false (by omega)];rfl)⟩ (by omega) (by omega) (by omega) (by omega) (by omega)
  by_cases g3:20<j'
  ·exact xQG (lV hN) ld ⟨hN.trans N2,rfl,no (by unfold zIQ;rw [decide_eq_true (by omega),decide_eq_true (by omega),decide_eq_false (by omega)];rfl)⟩ (by omega) (by omega) (by omega) (by omega) (by omega) (by omega)
  ·exact xQF (lV hN) ld ⟨k-1,by omega,hN.trans N2,j+1,by omega,by omega,by omega,yBM hx ha (by unfold zIQ;rw [decide_eq_true (by omega),decide_eq_true (by omega),decide_eq_true (by omega)];rfl)⟩ (by omega) (by omega) (by omega) (by omega) (by omega) (by omega) (by omega)
 ·rintro b τ ⟨hN,rfl,e⟩;exact yYU ⟨by rw [e],(N1.trans hN).lw⟩
 ·rintro τ ⟨hN,e⟩;have hlow:=(N1.trans hN).lw;by_cases h15:l<=15
  ·by_cases h9:m<=9
   ·exact yYX (lD hN) (lV hN) ⟨by unfold zIC;rw [e,decide_eq_true (by omega),decide_eq_true (by omega)];rfl,hlow⟩ (by omega) (by omega)
   ·exact yYW (lD hN) (lV hN) ⟨by unfold zIC;rw [e,decide_eq_true (by omega),decide_eq_false (by omega)];rfl,hlow⟩ (by omega) (by omega)
  ·exact yYV (lD hN) ⟨by unfold zIC;rw [e,decide_eq_false (by omega)];rfl,hlow⟩ (by omega)
end
theorem zJZ {w:Wk}:∀ {a b D:Nat},xE w (a+b) D=xE w a D++xE w b (D+a)
 | 0,b,D=>by rw [Nat.zero_add];rfl
 | a+1,b,D=>by
  rw [show a+1+b=(a+b)+1 by omega];show yF w D w.duties.length++xE w (a+b) (D+1)=(yF w D w.duties.length++xE w a (D+1))++_;rw [zJZ (a:=a),List.append_assoc,show D+1+a=D+(a+1) by omega]
theorem xGF {w:Wk} {n D:Nat} (h:D<n):xE w n 0=xE w D 0++(yF w D w.duties.length++xE w (n-D-1) (D+1)):=by
 have e:n=D+((n-D-1)+1):=by omega
 have:=zJZ (w:=w) (a:=D) (b:=(n-D-1)+1) (D:=0);rw [<- e] at this;rw [this,Nat.zero_add];rfl
theorem yWM {w:Wk} {D:Nat}:xE w (D+1) 0=xE w D 0++yF w D w.duties.length:=by
 rw [zJZ (a:=D) (b:=1),Nat.zero_add];show _++(yF w D w.duties.length++[])=_;rw [List.append_nil]
theorem xJG {L:List Nat} {rs:List Int} {i:Nat} {x:Int} (hi:i<rs.length) (hn:i ∉ L):L.map (zZ (rs.set i x))=L.map (zZ rs):=by
 refine List.map_congr_left fun j hj=>?_
 rw [zXT hi,if_neg (fun e:j=i=>hn (by rw [<- e];exact hj))]
theorem xLF {Z:St} {b l:Nat} {rs:List Int} (o:Own Z b (rs.map zY) 1) (hl:rs.length=l):yG Z (some ⟨b,0,none⟩) l rs:=by
 refine ⟨?_,by simpa using hl,fun x hx=>?_⟩
 ·rw [wH rs .i64];exact ⟨by simp [hl],o.rw⟩
 ·obtain ⟨x,_,rfl⟩:=List.mem_map.1 hx;exact vV x
theorem xSQ {Z:St} {b i:Nat} {rs:List Int} {x:Int} (o:Own Z b (rs.map zY) 1) (hi:i<rs.length):zQ Pg (evL [.pointer (some (zJ ⟨b,0,none⟩ (Int.toNat (i:Int)*1))),iV x]) Z (.store 3 (.tmp 0) (.tmp 1))=some (undef,Z.own b ((rs.set i x).map zY) 1):=by
 have e:zJ ⟨b,0,none⟩ (Int.toNat (i:Int)*1)=⟨b,i,none⟩:=by simp [zJ]
 rw [e];refine o.store (k:=i) (v:=iV x) (vs:=[iV x]) rfl wE rfl (by simp;omega) ?_
 rw [List.set_eq_take_append_cons_drop,if_pos hi,List.map_append,List.map_cons,List.map_take,List.map_drop];rfl
theorem zTP:∀ l:Nat,yZ [iV 0] l=(List.replicate l (0:Int)).map zY
 | 0=>rfl
 | l+1=>by
  have:=zTP l;rw [List.replicate_succ,List.map_cons,<- this];rfl
section
variable {z:St} {w:Wk} {p q:Option Addr} {l m c d n fw:Nat} {leaves:Bool} {fc:List Value} {wf:Nat->List Int->List Int}
structure RunJ (z:St) (w:Wk) (p:Option Addr) (l c:Nat) (q:Option Addr) (m d:Nat) (B br:Nat) (X:Nat->Prop) (e:EndR) (o:yRR) (L:List Nat) (at_:Int) (y:St) (rs:List Int):Prop where
 nw:New z.re y
 wk:Row y ⟨z.y,0,none⟩ (wkc w.days p l c q m d w.rest w.run w.hours)
 wo:Own y (z.y+1) (zK 0 0 0 0 0 0) 1
 en:Own y B (zEM e) 8
 ro:Own y br (rs.map zY) 1
 len:rs.length=l
 ep:EndP y X e o
 atb:0<=at_/\at_<=L.length
 is:∀ who u,o=some (who,u)->at_=L.length/\L.map (zZ rs)=who.take L.length
theorem xZC (h:WkP z 85 88 w p l q m) (sh:zBC w) (sn:Sane w l m) (dn:w.days=(n:Int)) (n7:n<=7) (vd:Days w n)
  (wfc:∀ z',Le z z'->∀ (D:Nat) (pw:Option Addr) (lw cw:Nat) (who:List Int),yG z' pw lw who->lw<=12->zD Pg fw ([]++(iV (D:Int)::.slice pw lw cw::fc)) z' (.agg ⟨six (wf D who)⟩) z')
  (wfl:∀ D a,(wf D a).length=6) (wfb:∀ D a,a.length<=12->Bd 12 (wf D a)) (bel:∀ k,z.y<=k->yX RD k (.func (.func fw) ⟨[]⟩ ⟨fc⟩)=true) (good:zM RD (.func (.func fw) ⟨[]⟩ ⟨fc⟩)=true) :
  ∃ (v:List Int) (can:Bool) (o:yRR) (rs:List Int) (p':Option Addr) (c':Nat) (z':St),zD Pg 59 [.agg ⟨wkc w.days p l c q m d w.rest w.run w.hours⟩,.bool leaves,.func (.func fw) ⟨[]⟩ ⟨fc⟩] z (.tuple ⟨[.slice p' l c',.agg ⟨six v⟩,.bool can]⟩) z'/\New z z'/\yG z' p' l rs/\(∀ b,AtP p' b->z.y<=b)/\v.length=6/\Bd 100 v/\xU 6 (Ch w leaves wf n 0 (st0 w m)) o/\(match o with
   | none=>can=false
   | some (who,u)=>can=true/\v=u/\(xE w n 0).map (zZ rs)=who):=by
 have hln:=h.len
 have zr:z.re.y=z.y:=rfl
 suffices hmain:zP Pg 59 [.agg ⟨wkc w.days p l c q m d w.rest w.run w.hours⟩,.bool leaves,.func (.func fw) ⟨[]⟩ ⟨fc⟩] z.re fun vv s=>New z.re s/\∃ (v:List Int) (can:Bool) (o:yRR) (rs:List Int) (br:Nat),vv=.tuple ⟨[.slice (some ⟨br,0,none⟩) l l,.agg ⟨six v⟩,.bool can]⟩/\yG s (some ⟨br,0,none⟩) l rs/\z.y<=br/\v.length=6/\Bd 100 v/\xU 6 (Ch w leaves wf n 0 (st0 w m)) o/\(match o with
   | none=>can=false
   | some (who,u)=>can=true/\v=u/\(xE w n 0).map (zZ rs)=who) by
  obtain ⟨vv,z',h1,h2,v,can,o,rs,br,rfl,h3,h4,h5,h6,h7,h8⟩:=zP.new hmain (by
   rintro vv s s' ⟨v,can,o,rs,br,h1,h2,h3⟩ hl;exact ⟨v,can,o,rs,br,h1,SlV.le h2 hl,h3⟩) (by
   rintro vv s hr ⟨v,can,o,rs,br,rfl,h2,h3⟩;exact Bool.noConfusion (show false=true from hr))
  exact ⟨v,can,o,rs,_,_,z',h1,h2,h3,fun b hb=>by obtain ⟨a,e,rfl⟩:=hb;cases e;exact h4,h5,h6,h7,h8⟩
 obtain ⟨t1,ht1⟩:∃ t1,t1=z.re.row (wkc w.days p l c q m d w.rest w.run w.hours) 6:=⟨_,rfl⟩
 have n1:t1.y=z.y+1:=by rw [ht1];rfl
 have M1:New z.re t1:=by rw [ht1];exact New.row _ _ _
 have w1:Row t1 ⟨z.y,0,none⟩ (wkc w.days p l c q m d w.rest w.run w.hours):=by rw [ht1];exact xP z.re _ _
 obtain ⟨t2,ht2⟩:∃ t2,t2=t1.row (zK 0 0 0 0 0 0) 1:=⟨_,rfl⟩
 have n2:t2.y=z.y+2:=by rw [ht2];show t1.y+1=_;omega
 have M2:New z.re t2:=by rw [ht2];exact M1.row'
 have v2:Own t2 (z.y+1) (zK 0 0 0 0 0 0) 1:=by rw [ht2,<- n1];exact zC _ _ _
 obtain ⟨t3,ht3⟩:∃ t3,t3=t2.add (.map []):=⟨_,rfl⟩
 have n3:t3.y=z.y+3:=by rw [ht3];show t2.y+1=_;omega
 have M23:New t2 t3:=by rw [ht3];exact New.add _ _
 have M3:New z.re t3:=M2.trans M23
 have mp3:zGE Pg t3 (z.y+2) yON zDB (fun _=>none):=by rw [ht3,<- n2];exact zGE.new t2
 let K:PlK:=⟨z,z.y+3,z.y+2,w,p,l,c,q,m,d,leaves,fw,[],fc,wf,n⟩
 obtain ⟨t4,ht4⟩:∃ t4,t4=t3.row K.row 9:=⟨_,rfl⟩
 have n4:t4.y=z.y+4:=by rw [ht4];show t3.y+1=_;omega
 have M34:New t3 t4:=by rw [ht4];exact New.row _ _ _
 have M4:New z.re t4:=M3.trans M34
 have pr4:Row t4 ⟨z.y+3,0,none⟩ K.row:=by rw [ht4,<- n3];exact xP _ _ _
 have okK:K.Ok:=⟨h,sh,sn,dn,n7,vd,by show z.y<=z.y+2;omega,by show z.y+2≠z.y+3;omega,wfc,wfl,wfb,by show w.duties.length<=12;rw [hln.1];exact sn.l12,bel,good⟩
 have L4:Le z t4:=(le0 z).trans M4.le
 have W4:PlW K t4 (fun _=>none) (fun _=>False):=⟨L4,pr4,mp3.le M34.le,fun b hb=>hb.elim,fun D st e he=>by cases he⟩
 have c1:=yDA (c:=c) (d:=d) (h.le L4) sn.m6
 have hst:∀ k,k<m->StG (st0 w m k):=fun k hk=>by
  unfold st0;rw [if_pos hk];have hd:=sn.dr k hk;exact StG.before ⟨hd.1,hd.2.1⟩ ⟨hd.2.2.1,hd.2.2.2.1⟩ ⟨hd.2.2.2.2.1,hd.2.2.2.2.2⟩
 obtain ⟨z5,e,o,F',X',c2,k5,W5,E5,bo,x1,x2,_⟩:=xOZ okK n t4 _ _ 0 (st0 w m) (by show 0+n=n;omega) W4 hst
 have M5:New z.re z5:=M4.of_only k5 (fun b hb=>by have hb:b=z.y+2:=hb;show z.y<=b;omega)
 have n5:=k5.y
 have w5:Row z5 ⟨z.y,0,none⟩ (wkc w.days p l c q m d w.rest w.run w.hours):=k5.rw' (((w1.le (by rw [ht2];exact Le.row _ _ _)).le M23.le).le M34.le) (fun h=>by have h:z.y=z.y+2:=h;omega)
 have v5:Own z5 (z.y+1) (zK 0 0 0 0 0 0) 1:=k5.own' ((v2.le M23.le).le M34.le) (fun h=>by have h:z.y+1=z.y+2:=h;omega)
 obtain ⟨t6,ht6⟩:∃ t6,t6=(z5.row [iV 0,iV 0,iV 0,iV 0,iV 0,iV 0,.slice none 0 0,.bool false] 8).own z5.y (zEM e) 8:=⟨_,rfl⟩
 have n6:t6.y=z5.y+1:=by rw [ht6];rfl
 have M56:New z5 t6:=by rw [ht6];exact (New.row _ _ _).own (Nat.le_refl _)
 have e6:Own t6 z5.y (zEM e) 8:=by rw [ht6];exact (zC _ _ _).put
 have w6:=w5.le M56.le
 have h3:zB Pg t6 31 ⟨z.y,1,none⟩=some (.slice p l c):=w6.ld zAV rfl
 have zt3:zAD Pg 3=some (iV 0):=by kernel_rfl
 have h4:=xTB (P:=Pg) (Z:=t6) (st:=26) (e:=3) (n:=1) (by kernel_rfl) zt3 (len:=l) (by have:=sn.l12;omega)
 obtain ⟨t7,ht7⟩:∃ t7,t7=t6.row (yZ (Value.int .i64 0).cells.toList l) 1:=⟨_,rfl⟩
 have n7':t7.y=z5.y+2:=by rw [ht7];show t6.y+1=_;omega
 have M67:New t6 t7:=by rw [ht7];exact New.row _ _ _
 have r7:Own t7 t6.y ((List.replicate l (0:Int)).map zY) 1:=by rw [ht7,<- zTP];exact zC _ _ _
 rw [<- ht7] at h4
 have w7:=w6.le M67.le
 have h5:zB Pg t7 3 ⟨z.y,0,none⟩=some (iV w.days):=w7.ld zU rfl
 have M7:New z.re t7:=(M5.trans M56).trans M67
 have hx:∀ b,X' b->b<z5.y:=fun b hb=>(W5.xb b hb).1
 have e7:EndP t7 X' e o:=(E5.le M56.le).le M67.le
 have hnd:=zKA (w:=w) (r:=n) (D:=0)
 have J0:RunJ z w p l c q m d z5.y t6.y X' e o (xE w 0 0) 0 t7 (List.replicate l 0):=⟨M7,w7,(v5.le M56.le).le M67.le,e6.le M67.le,r7,by simp,e7,⟨by omega,by simp [xE]⟩,fun who u _=>⟨rfl,by simp [xE]⟩⟩
 have hol:∀ who u,o=some (who,u)->e.can=true/\e.v=u/\who.length=(xE w n 0).length:=by
  rintro who u rfl;have ht:e.can=true/\e.v=u/\_:=E5.tell;exact ⟨ht.1,ht.2.1,(yXM bo.1).1⟩
 have hflen:(xE w n 0).length<=100:=by
  have:=yFY (w:=w) (r:=n) (D:=0);have h1:=sn.l12;have:n*w.duties.length<=7*12:=Nat.mul_le_mul n7 (by omega);omega
 let P0:St->Prop:=fun y=>∃ at_ rs,RunJ z w p l c q m d z5.y t6.y X' e o (xE w n 0) at_ y rs
 have hL:ySQ z.y (some ⟨t6.y,0,none⟩) l l (z.y+1) z5.y w.days 0 0 t7 P0:=by
  refine xDA (Inv:=fun k a i y=>∃ (D:Nat) (rs:List Int),i=D/\D+k=n/\RunJ z w p l c q m d z5.y t6.y X' e o (xE w D 0) a y rs) ?_ n 0 0 t7 ⟨0,_,rfl,by omega,J0⟩;rintro k a i y ⟨D,rs,rfl,hk,J⟩;by_cases hD:D<n;rotate_left
  ·have:D=n:=by omega
   subst this;exact xRK ⟨a,rs,J⟩ (by omega)
  have hfd:=xGF (w:=w) hD;have hdl:(yF w D l).length<=l:=zDG;have hl12:=sn.l12;have g1:zB Pg y 34 ⟨z.y,0,none⟩=some (.agg ⟨wkc w.days p l c q m d w.rest w.run w.hours⟩):=J.wk.ldN xV xB (k:=0) rfl rfl (nle rfl);obtain ⟨p2,c3,y2,g2,N2,I2,f2⟩:=yPW (Z:=y) (D:=D) (c:=c) (d:=d) (h.le ((le0 z).trans J.nw.le)) (by have:=sn.l12;omega);have J2:RunJ z w p l c q m d z5.y t6.y X' e o (xE w D 0) a y2 rs:=⟨J.nw.trans N2,J.wk.le N2.le,J.wo.le N2.le,J.en.le N2.le,J.ro.le N2.le,J.len,J.ep.le N2.le,J.atb,J.is⟩;refine xRL g1 g2 (P2:=fun a y=>∃ rs,RunJ z w p l c q m d z5.y t6.y X' e o (xE w D 0++yF w D l) a y rs) (xCZ (Inv:=fun k a i y=>∃ (s:Nat) (rs:List Int),i=s/\s+k=(yF w D l).length/\yG y p2 (yF w D l).length (zNU (yF w D l))/\RunJ z w p l c q m d z5.y t6.y X' e o (xE w D 0++(yF w D l).take s) a y rs) ?_ (yF w D l).length a 0 y2 ⟨0,rs,rfl,by omega,I2,by simpa using J2⟩) ?_ (by omega)
  ·rintro k2 a2 i2 y3 ⟨s,rs3,rfl,hk2,I3,J3⟩;by_cases hs:s<(yF w D l).length;rotate_left
   ·have hse:s=(yF w D l).length:=by omega
    rw [hse,List.take_length] at J3;exact xRH ⟨rs3,J3⟩ (by omega)
   obtain ⟨qa,rfl,_⟩:=I3.some hs;have hgs:(yF w D l)[s]?=some (yF w D l)[s]:=List.getElem?_eq_getElem hs;generalize (yF w D l)[s]=i at hgs;have ld1:zB Pg y3 3 (zJ qa (Int.toNat (s:Int)*1))=some (iV (i:Int)):=I3.at rfl (by simp [zNU,hgs]);have ld2:zB Pg y3 4 ⟨z5.y,7,none⟩=some (.bool e.can):=J3.en.rw.ld xHU rfl;have hi:i<l:=(zLU.1 (List.mem_of_getElem? hgs)).1;have etk:(yF w D l).take (s+1)=(yF w D l).take s++[i]:=by rw [List.take_add_one,hgs];rfl
   have hlenL:(xE w D 0++(yF w D l).take (s+1)).length=(xE w D 0++(yF w D l).take s).length+1:=by rw [etk];simp;omega
   have hfl:xE w n 0=(xE w D 0++(yF w D l).take s)++(i::((yF w D l).drop (s+1)++xE w (n-D-1) (D+1))):=by
    rw [hfd,hln.1];conv=>lhs;rw [<- List.take_append_drop (s+1) (yF w D l),etk]
    simp
   have hni:i ∉ xE w D 0++(yF w D l).take s:=fun hm=>by
    rw [hfl] at hnd;exact (List.nodup_append.1 hnd).2.2 i hm i List.mem_cons_self rfl
   have hll:=congrArg List.length hfl;rw [List.length_append,List.length_cons] at hll;have hat:=J3.atb;cases hc:e.can with
   | false =>
    rw [hc] at ld2;have hn:∀ who u,¬ o=some (who,u):=fun who u ho=>by
     have:=(hol who u ho).1;rw [hc] at this;cases this
    exact xRI ld1 ld2 ⟨k2-1,by omega,s+1,rs3,by omega,by omega,I3,J3.nw,J3.wk,J3.wo,J3.en,J3.ro,J3.len,J3.ep,⟨hat.1,by rw [hlenL];omega⟩,fun who u ho=>absurd ho (hn who u)⟩ (by omega) ⟨by omega,by omega⟩ ⟨by omega,by have:=sn.l12;omega⟩
   | true =>
    rw [hc] at ld2;obtain ⟨who,u,ho⟩:∃ who u,o=some (who,u):=by
     cases o with
     | none=>have ht:e.can=false:=E5.tell;rw [hc] at ht;cases ht
     | some r=>exact ⟨r.1,r.2,rfl⟩
    obtain ⟨hat2,hmp⟩:=J3.is who u ho;have hwl:=(hol who u ho).2.2;have ht:e.can=true/\e.v=u/\yG y3 e.p e.l who:=by have:=J3.ep.tell;rw [ho] at this;exact this
    have Iw:=ht.2.2;have ewl:=Iw.len;subst hat2;generalize hLn:(xE w D 0++(yF w D l).take s).length=N at *;have hNw:N<who.length:=by omega
    obtain ⟨ra,hra,_⟩:=Iw.some (by omega:N<e.l);have ld3:zB Pg y3 26 ⟨z5.y,6,none⟩=some (.slice (some ra) e.l e.c):=by rw [<- hra];exact J3.en.rw.ld yV rfl
    have hgw:who[N]?=some who[N]:=List.getElem?_eq_getElem hNw;generalize who[N]=x at hgw;have ld4:zB Pg y3 3 (zJ ra (Int.toNat ((N:Nat):Int)*1))=some (iV x):=Iw.at hra (by simp [hgw]);have hir:i<rs3.length:=by rw [J3.len];exact hi
    have st5:=xSQ (x:=x) J3.ro hir;have kS:Only (·=t6.y) y3 (y3.own t6.y ((rs3.set i x).map zY) 1):=Only.own (.inr rfl);have hz6:z.y+2<=z5.y:=by omega
    refine xRJ ld1 ld2 ld3 ld4 st5 ⟨k2-1,by omega,s+1,rs3.set i x,by omega,by omega,kS.slv' I3 (fun a ea hh=>?_),J3.nw.own (by omega),kS.rw' J3.wk (fun hh=>by have hh:z.y=t6.y:=hh;omega),kS.own' J3.wo (fun hh=>by have hh:z.y+1=t6.y:=hh;omega),kS.own' J3.en (fun hh=>by have hh:z5.y=t6.y:=hh;omega),J3.ro.put,by simp [J3.len],J3.ep.only kS (fun b hb hh=>by have:=hx b hb;omega),⟨by omega,by omega⟩,fun who' u' ho'=>?_⟩ (by omega) ⟨by omega,by omega⟩ ⟨by omega,by omega⟩ ⟨by omega,by omega⟩ ⟨by omega,by omega⟩ ⟨by omega,by have:=sn.l12;omega⟩
    ·cases ea
     have:=f2 qa.block ⟨qa,rfl,rfl⟩;have hyz:=J.ro.lt;omega
    ·rw [ho] at ho';cases ho'
     refine ⟨by omega, ?_⟩
     rw [hlenL,etk,<- List.append_assoc,List.map_append,xJG hir hni,hmp,List.map_cons,List.map_nil,zXT hir,if_pos rfl,List.take_add_one,hgw];rfl
  ·rintro a2 y3 ⟨rs3,J3⟩;refine xCX ⟨k-1,by omega,D+1,rs3,by omega,by omega, ?_⟩ ?_
   ·rw [yWM,hln.1];exact J3
   ·have:=J3.atb;have hll:(xE w D 0++yF w D l).length<=100:=by
     have:=congrArg List.length hfd;rw [hln.1] at this;simp only [List.length_append] at this hflen ⊢;omega
    exact ⟨by omega,by omega⟩
 have k0:∀ y,P0 y->zXS z.y (some ⟨t6.y,0,none⟩) l l (z.y+1) z5.y w.days y (fun vv s=>New z.re s/\∃ (v:List Int) (can:Bool) (o:yRR) (rs:List Int) (br:Nat),vv=.tuple ⟨[.slice (some ⟨br,0,none⟩) l l,.agg ⟨six v⟩,.bool can]⟩/\yG s (some ⟨br,0,none⟩) l rs/\z.y<=br/\v.length=6/\Bd 100 v/\xU 6 (Ch w leaves wf n 0 (st0 w m)) o/\(match o with
   | none=>can=false
   | some (who,u)=>can=true/\v=u/\(xE w n 0).map (zZ rs)=who)):=by
  rintro y ⟨a,rs,J⟩
  have g1:zB Pg y 98 ⟨z5.y,0,none⟩=some (.agg ⟨zK (e.v.getD 0 0) (e.v.getD 1 0) (e.v.getD 2 0) (e.v.getD 3 0) (e.v.getD 4 0) (e.v.getD 5 0)⟩):=J.en.rw.ldN zCT wQ (k:=0) rfl rfl (nle rfl)
  have g2:zB Pg y 4 ⟨z5.y,7,none⟩=some (.bool e.can):=J.en.rw.ld xHU rfl
  have g3:=J.wo.store (P:=Pg) (k:=0) (t:=98) (v:=.agg ⟨zK (e.v.getD 0 0) (e.v.getD 1 0) (e.v.getD 2 0) (e.v.getD 3 0) (e.v.getD 4 0) (e.v.getD 5 0)⟩) (vs:=zK (e.v.getD 0 0) (e.v.getD 1 0) (e.v.getD 2 0) (e.v.getD 3 0) (e.v.getD 4 0) (e.v.getD 5 0)) (ds:=zK (e.v.getD 0 0) (e.v.getD 1 0) (e.v.getD 2 0) (e.v.getD 3 0) (e.v.getD 4 0) (e.v.getD 5 0)) rfl wQ rfl (nle rfl) rfl
  have kS:Only (·=z.y+1) y (y.own (z.y+1) (zK (e.v.getD 0 0) (e.v.getD 1 0) (e.v.getD 2 0) (e.v.getD 3 0) (e.v.getD 4 0) (e.v.getD 5 0)) 1):=Only.own (.inr rfl)
  have e2:=kS.own' J.en (fun hh=>by have hh:z5.y=z.y+1:=hh;omega)
  have r2:=kS.own' J.ro (fun hh=>by have hh:t6.y=z.y+1:=hh;omega)
  have g4:(z5.y<(y.own (z.y+1) (zK (e.v.getD 0 0) (e.v.getD 1 0) (e.v.getD 2 0) (e.v.getD 3 0) (e.v.getD 4 0) (e.v.getD 5 0)) 1).y/\zM RD (.bool e.can)=true)/\zB Pg (y.own (z.y+1) (zK (e.v.getD 0 0) (e.v.getD 1 0) (e.v.getD 2 0) (e.v.getD 3 0) (e.v.getD 4 0) (e.v.getD 5 0)) 1) 4 ⟨z5.y,7,none⟩=some (.bool e.can):=⟨⟨e2.lt,rfl⟩,e2.rw.ld xHU rfl⟩
  have g5:zB Pg (y.own (z.y+1) (zK (e.v.getD 0 0) (e.v.getD 1 0) (e.v.getD 2 0) (e.v.getD 3 0) (e.v.getD 4 0) (e.v.getD 5 0)) 1) 98 ⟨z.y+1,0,none⟩=some (.agg ⟨zK (e.v.getD 0 0) (e.v.getD 1 0) (e.v.getD 2 0) (e.v.getD 3 0) (e.v.getD 4 0) (e.v.getD 5 0)⟩):=J.wo.put.rw.ldN zCT wQ (k:=0) rfl rfl (nle rfl)
  refine xCY g1 g2 g3 g4 g5 ⟨J.nw.own (by omega),e.v,e.can,o,rs,t6.y,by rw [zGO],xLF r2 J.len,by omega,E5.len,E5.bd,bo, ?_⟩ J.en.lt J.wo.lt
  cases ho:o with
  | none =>
   have ht:=E5.tell;rw [ho] at ht;exact ht
  | some r =>
   obtain ⟨h1,h2,h3⟩:=hol r.1 r.2 ho;refine ⟨h1,h2, ?_⟩
   have h4:=(J.is r.1 r.2 ho).2;rw [h4,<- h3,List.take_length]
 subst ht7 ht6 ht4 ht3 ht2 ht1
 exact xWQ c1 c2 h3 h4 h5 hL k0
end
section
variable {z:St} {w:Wk} {p q:Option Addr} {l m c d:Nat}
structure MostL (w:Wk) (rs:List Int):Prop where
 ros:Ros w (zZ rs)
 legal:vY w (zZ rs) (late w)
 most:∀ ros',Ros w ros'->vY w ros' (late w)->vO w ros'<=vO w (zZ rs)
def xQL (w:Wk) (l:Nat) (v:Value) (s:St):Prop :=
 (xC w≠0/\v=.tuple ⟨[.slice none 0 0,iV 0,iV (xC w)]⟩) \/
 (xC w=0/\∃ rs pr cr,v=.tuple ⟨[.slice pr l cr,iV (vO w (zZ rs)),iV 0]⟩/\yG s pr l rs/\MostL w rs)
theorem xGN (D:Nat) (a:List Int) (h:a.length<=12):Bd 12 (zED D a):=by
 intro x hx;have:=List.length_filter_le (fun r:Int=>decide (r≠-1)) a;unfold zED zEZ at hx;simp only [List.mem_cons,List.not_mem_nil,or_false] at hx;rcases hx with rfl | rfl | rfl | rfl | rfl | rfl <;> omega
theorem xQK (h:WkP z 85 88 w p l q m) (hsh:zBC w):∃ v z',zD Tryz.prog 37 [.agg ⟨wkc w.days p l c q m d w.rest w.run w.hours⟩] z v z'/\New z z'/\xQL w l v z':=by
 have hln:=h.len;suffices hmain:zP Tryz.prog 37 [.agg ⟨wkc w.days p l c q m d w.rest w.run w.hours⟩] z.re fun v s=>New z.re s/\xQL w l v s by
  obtain ⟨v,s,h1,h2,h3⟩:=zP.new hmain (by
   rintro v s s' (h | ⟨h0,rs,pr,cr,h1,h2,h3⟩) hl
   ·exact .inl h
   ·exact .inr ⟨h0,rs,pr,cr,h1,SlV.le h2 hl,h3⟩) (by
   rintro v s hr (h | ⟨h0,rs,pr,cr,rfl,h2,h3⟩)
   ·exact .inl h
   ·cases pr with
    | some a=>exact Bool.noConfusion (show false=true from hr)
    | none=>exact .inr ⟨h0,rs,none,cr,rfl,zFF h2,h3⟩)
  exact ⟨v,s,h1,h2,h3⟩
 obtain ⟨t1,ht1⟩:∃ t1,t1=z.re.row (wkc w.days p l c q m d w.rest w.run w.hours) 6:=⟨_,rfl⟩;have M1:New z.re t1:=by rw [ht1];exact New.row _ _ _
 have h1:=h.le ((le0 z).trans M1.le);have k1:=zKY (c:=c) (d:=d) h1 hsh;by_cases hf:xC w=0;rotate_left
 ·subst ht1;exact xVH k1 ⟨New.row _ _ _,.inl ⟨hf,rfl⟩⟩ hf
 have hs:=Sane.of hf hsh hln.1 hln.2;obtain ⟨n,hn,hn1,hn7,hv⟩:=yJM hf;obtain ⟨v,can,o,rs,p2,c2,z2,k2,N2,I2,f2,v6,vb,bo,ho⟩:=xZC (c:=c) (d:=d) (leaves:=true) (fw:=65) (fc:=[]) (wf:=zED) h1 hsh hs hn hn7 hv.toDays
  (fun z' hz D pw lw cw who hi hlw=>xVI hi (by omega)) (fun D a=>rfl) xGN (fun k hk=>rfl) rfl
 have hst:∀ k,k<w.drivers.length->st0 w m k=before (drQ w k):=fun k hk=>by unfold st0;rw [if_pos (by omega)]
 have br:=xXM hv hst bo;rw [zGO] at k2;cases o with
 | none=>exact br.elim
 | some r =>
  obtain ⟨who,u⟩:=r;obtain ⟨hc,hvu,hmp⟩:can=true/\v=u/\(xE w n 0).map (zZ rs)=who:=ho;subst hvu;obtain ⟨b1,b2⟩:=br;obtain ⟨r1,r2,r3,r4⟩:=b2 _ hmp;have hv0:v.getD 0 0=vO w (zZ rs):=by rw [r3];rfl
  have M3:New z2 ((z2.row (zK 0 0 0 0 0 0) 1).own z2.y (zK (v.getD 0 0) (v.getD 1 0) (v.getD 2 0) (v.getD 3 0) (v.getD 4 0) (v.getD 5 0)) 1):=(New.row _ _ _).own (Nat.le_refl _);have nx:New z.re ((z2.row (zK 0 0 0 0 0 0) 1).own z2.y (zK (v.getD 0 0) (v.getD 1 0) (v.getD 2 0) (v.getD 3 0) (v.getD 4 0) (v.getD 5 0)) 1)/\xQL w l (.tuple ⟨[.slice p2 l c2,iV (v.getD 0 0),iV 0]⟩) ((z2.row (zK 0 0 0 0 0 0) 1).own z2.y (zK (v.getD 0 0) (v.getD 1 0) (v.getD 2 0) (v.getD 3 0) (v.getD 4 0) (v.getD 5 0)) 1):=⟨(M1.trans N2).trans M3,.inr ⟨hf,rs,p2,c2,by rw [hv0],SlV.le I2 M3.le,⟨r1,r2,r4⟩⟩⟩;subst ht1;exact xVG k1 k2 nx hf
end
theorem xHR:AppT Pg 31 31 85 5:=zME (by kernel_rfl)
theorem xHT:AppT Pg 32 32 88 6:=zME (by kernel_rfl)
theorem xOJ (x:Dty):zCL Pg 85 5 (zBT x):=.inr ⟨zNB,uK,_,rfl,rfl⟩
theorem xOK (p q r:Option Addr) (l c m d n e:Nat) (x y z:Int):zCL Pg 88 6 (.agg ⟨zN p l c q m d r n e x y z⟩):=.inr ⟨yRH,zRI,_,rfl,rfl⟩
section
variable {Z:St} {w:Wk} {p q r t:Option Addr} {l m c d rl rc tl tc:Nat} {rs ts:List Int}
def yBY (τ:St) (S:Nat->Prop) (v:Value) (x:Drv):Prop:=∃ p l c q m d r n e,v=.agg ⟨zN p l c q m d r n e x.off x.row x.used⟩/\yG τ p l x.knows/\yG τ q m x.leave/\yG τ r n x.wish/\∀ b,AtP p b\/AtP q b\/AtP r b->¬ S b
theorem yBY.v {τ:St} {S:Nat->Prop} {v:Value} {x:Drv} (h:yBY τ S v x):zTO τ v x:=by
 obtain ⟨p,l,c,q,m,d,r,n,e,h1,h2,h3,h4,_⟩:=h;exact ⟨p,l,c,q,m,d,r,n,e,h1,h2,h3,h4⟩
theorem yBY.only {τ τ':St} {S T:Nat->Prop} {v:Value} {x:Drv} (h:yBY τ S v x) (k:Only S τ τ') (hT:∀ b,b<τ.y->T b->S b):yBY τ' T v x:=by
 obtain ⟨p,l,c,q,m,d,r,n,e,h1,h2,h3,h4,h5⟩:=h;refine ⟨p,l,c,q,m,d,r,n,e,h1,k.slv' h2 (fun a e=>h5 _ (.inl ⟨a,e,rfl⟩)),k.slv' h3 (fun a e=>h5 _ (.inr (.inl ⟨a,e,rfl⟩))),k.slv' h4 (fun a e=>h5 _ (.inr (.inr ⟨a,e,rfl⟩))), ?_⟩
 intro b hb ht;have hlt:b<τ.y:=by
  rcases hb with ⟨a,e,rfl⟩ | ⟨a,e,rfl⟩ | ⟨a,e,rfl⟩
  ·exact wA h2 a e
  ·exact wA h3 a e
  ·exact wA h4 a e
 exact h5 b hb (hT b hlt ht)
theorem zTH (h:WkP Z 92 76 w p l q m) (hl:l<=1000) (hm:m<=1000) (hsh:zBC w):∃ p' c' q' d' Z',zD Pg 17 [.agg ⟨wkc w.days p l c q m d w.rest w.run w.hours⟩] Z (.agg ⟨wkc w.days p' l c' q' m d' w.rest w.run w.hours⟩) Z'/\New Z Z'/\WkP Z' 85 88 w p' l q' m:=by
 have hl1:=h.len.1;have hl2:=h.len.2;obtain ⟨B,hB⟩:∃ B,B=Z.re.y:=⟨_,rfl⟩;obtain ⟨τ0,hτ0⟩:∃ τ0,τ0=((((Z.re.row (wkc w.days p l c q m d w.rest w.run w.hours) 6).row (wkc 0 none 0 0 none 0 0 0 0 0) 6).row (wkc 0 none 0 0 none 0 0 0 0 0) 6).own (Z.re.y+2) (wkc w.days none 0 0 none 0 0 w.rest w.run w.hours) 6):=⟨_,rfl⟩;have o1:Own τ0 B (wkc w.days p l c q m d w.rest w.run w.hours) 6:=by rw [hτ0,hB];exact (zC Z.re _ _).row.row.own (by show Z.y≠Z.y+2;omega)
 have o2:Own τ0 (B+1) (wkc 0 none 0 0 none 0 0 0 0 0) 6:=by rw [hτ0,hB];exact (zC (Z.re.row (wkc w.days p l c q m d w.rest w.run w.hours) 6) _ _).row.own (by show Z.y+1≠Z.y+2;omega)
 have o3:Own τ0 (B+2) (wkc w.days none 0 0 none 0 0 w.rest w.run w.hours) 6:=by rw [hτ0,hB];exact (zC ((Z.re.row (wkc w.days p l c q m d w.rest w.run w.hours) 6).row (wkc 0 none 0 0 none 0 0 0 0 0) 6) (wkc 0 none 0 0 none 0 0 0 0 0) 6).put
 have hN0:New Z.re τ0:=by rw [hτ0];exact ((New.row _ _ _).row'.row').own (by show Z.y<=Z.y+2;omega)
 have hn0:τ0.y=B+3:=by rw [hτ0,hB];rfl
 have key:zP Pg 17 [.agg ⟨wkc w.days p l c q m d w.rest w.run w.hours⟩] Z.re fun v s=>New Z.re s/\∃ p' c' q' d',v=.agg ⟨wkc w.days p' l c' q' m d' w.rest w.run w.hours⟩/\WkP s 85 88 w p' l q' m:=by
  refine xVE (P0:=fun τ=>New Z.re τ/\∃ ps cs,Own τ B (wkc w.days p l c q m d w.rest w.run w.hours) 6/\Own τ (B+1) (wkc 0 none 0 0 none 0 0 0 0 0) 6/\Own τ (B+2) (wkc w.days ps l cs none 0 0 w.rest w.run w.hours) 6/\SlV Pg τ 85 5 ps l (w.duties.map zBT)/\(∀ b,AtP ps b->B+3<=b/\b<τ.y)) ?_ ?_
  ·rw [<- hτ0];have:=yYT (BA:=B) (BB:=B+1) (BC:=B+2) (Inv:=fun k i4 τ=>New Z.re τ/\∃ i:Nat,i4=i/\i+k=l/\∃ ps cs,Own τ B (wkc w.days p l c q m d w.rest w.run w.hours) 6/\Own τ (B+1) (wkc 0 none 0 0 none 0 0 0 0 0) 6/\Own τ (B+2) (wkc w.days ps i cs none 0 0 w.rest w.run w.hours) 6/\Gr Pg τ (B+3) 85 5 ps i cs ((w.duties.take i).map zBT)/\B+3<=τ.y)
    (Q0:=fun τ=>New Z.re τ/\∃ ps cs,Own τ B (wkc w.days p l c q m d w.rest w.run w.hours) 6/\Own τ (B+1) (wkc 0 none 0 0 none 0 0 0 0 0) 6/\Own τ (B+2) (wkc w.days ps l cs none 0 0 w.rest w.run w.hours) 6/\SlV Pg τ 85 5 ps l (w.duties.map zBT)/\(∀ b,AtP ps b->B+3<=b/\b<τ.y)) ?_ l 0 τ0
    ⟨hN0,0,rfl,by omega,none,0,o1,o2,o3,by simpa using Gr.nil,by omega⟩
   ·subst hB;exact this
   rintro k i4 τ ⟨hN,i,rfl,hk,ps,cs,w1,w2,w3,hg,hnx⟩;by_cases hi:i<l
   ·obtain ⟨a,rfl,x,hx,ld⟩:=wZ (SlV.le h.dty ((le0 Z).trans hN.le)) hi;have hcp:New τ ((τ.row (zF 0 0 0 0 0) 5).own τ.y (zF x.day x.on x.lo x.hi x.route) 5):=(New.row _ _ _).own (Nat.le_refl _);have k3:=(w3.row (ds:=zF 0 0 0 0 0) (m:=5)).own (ds:=zF x.day x.on x.lo x.hi x.route) (m:=5) (show B+2≠τ.y by have:=w3.lt;omega);obtain ⟨p4,c4,τ2,g1,g2,g3,g4⟩:=yPE (zBT x) (τ:=(τ.row (zF 0 0 0 0 0) 5).own τ.y (zF x.day x.on x.lo x.hi x.route) 5) xHR hg hcp.le (xOJ x) (by omega) hnx;have hS:∀ b,AtP ps b->B+3<=b:=fun b hb=>(hg.bd hb).1
    have hO:Only (AtP ps) τ τ2:=((hcp.row').only (S:=AtP ps)).trans g3 (fun _ _ x=>x) (by intro m' h1 h2 b h3 h4;have:=hg.bd h4;exact h2 b this.2 h4);have v1:=hO.own' w1 (fun x=>by have:=hS _ x;omega);have v2:=hO.own' w2 (fun x=>by have:=hS _ x;omega);have v3:=hO.own' w3 (fun x=>by have:=hS _ x;omega);have e5:∀ b,AtP p4 b->B+3<=b:=fun b hb=>(g2.bd hb).1
    have hN2:New Z.re (τ2.own (B+2) (wkc w.days p4 (i+1) c4 none 0 0 w.rest w.run w.hours) 6):=(hN.of_only hO (fun b hb=>by have:=hS b hb;omega)).own (by omega);have hn2:τ.y<=τ2.y:=hO.y;refine xQA (w1.ld rfl zBG (k:=1) rfl) ld (k3.ld rfl zAV (k:=1) rfl) g1 (v3.store (k:=1) (vs:=[.slice p4 (i+1) c4]) (ds:=wkc w.days p4 (i+1) c4 none 0 0 w.rest w.run w.hours) rfl xWM rfl (by simp) rfl)
     ⟨k-1,by omega,hN2,i+1,by omega,by omega,p4,c4,v1.own (by omega),v2.own (by omega),v3.put, ?_,by show B+3<=τ2.y;omega⟩ (by omega) (by omega) (by omega)
    rw [wD hx,List.map_append];exact g2.only (S:=(·=B+2)) (Only.own (.inr rfl)) (by rintro b hb rfl;have:=e5 _ hb;omega)
   ·have:i=l:=by omega
    subst this;rw [List.take_of_length_le (by omega)] at hg;exact xPZ (w1.ld rfl zBG (k:=1) rfl) ⟨hN,ps,cs,w1,w2,w3,hg.slv,fun b hb=>hg.bd hb⟩ (by omega)
  ·rintro τ1 ⟨hN1,ps,cs,x1,x2,x3,hs1,hsb⟩;have hz:Z.re.y=B:=hB.symm;rw [hz];refine yYR (P2:=fun τ=>New Z.re τ/\∃ qs ds,Own τ (B+1) (wkc 0 none 0 0 none 0 0 0 0 0) 6/\Own τ (B+2) (wkc w.days ps l cs qs m ds w.rest w.run w.hours) 6/\SlV Pg τ 85 5 ps l (w.duties.map zBT)/\(∀ b,AtP ps b->B+3<=b)/\(∃ vs,SlV Pg τ 88 6 qs m vs/\∀ (i:Nat) (x:Drv),w.drivers[i]?=some x->∃ v,vs[i]?=some v/\yBY τ (·<=B+2) v x)/\(∀ b,AtP qs b->B+3<=b))
    (yYS (Inv:=fun k i6 τ=>New Z.re τ/\∃ i:Nat,i6=i/\i+k=m/\∃ qs ds vs,Own τ B (wkc w.days p l c q m d w.rest w.run w.hours) 6/\Own τ (B+1) (wkc 0 none 0 0 none 0 0 0 0 0) 6/\Own τ (B+2) (wkc w.days ps l cs qs i ds w.rest w.run w.hours) 6/\SlV Pg τ 85 5 ps l (w.duties.map zBT)/\(∀ b,AtP ps b->¬ AtP qs b/\b<τ.y) /\
     Gr Pg τ (B+3) 88 6 qs i ds vs/\(∀ (j:Nat) (x:Drv),j<i->w.drivers[j]?=some x->∃ v,vs[j]?=some v/\yBY τ (fun b=>AtP qs b\/b<=B+2) v x)) ?_ m 0 τ1 ⟨hN1,0,rfl,by omega,none,0,[],x1,x2,x3,hs1,fun b hb=>⟨AtP.none,(hsb b hb).2⟩,Gr.nil,fun j x hj=>by omega⟩) ?_
   ·rintro k i6 τ ⟨hN,i,rfl,hk,qs,ds,vs,w1,w2,w3,hs,hd,hg,hrow⟩;have hnx:B+3<=τ.y:=w3.lt;have hvl:=hg.len_eq;by_cases hi:i<m
    ·obtain ⟨a,rfl,p',l',c',r',n',d',s',j',e',ld,hkn,hlv,hws,_⟩:=(h.le ((le0 Z).trans hN.le)).vld xBY zAB hi;have hx:w.drivers[i]?=some (drQ w i):=by
      unfold drQ;rw [List.getD_eq_getElem?_getD,List.getElem?_eq_getElem (by omega)];rfl
     obtain ⟨t1,ht1⟩:∃ t1,t1=(τ.row (zN none 0 0 none 0 0 none 0 0 0 0 0) 6).own τ.y (zN p' l' c' r' n' d' s' j' e' (drQ w i).off (drQ w i).row (drQ w i).used) 6:=⟨_,rfl⟩;have hcp:New τ t1:=by rw [ht1];exact (New.row _ _ _).own (Nat.le_refl _)
     have nx1:t1.y=τ.y+1:=by rw [ht1];rfl
     have oD:Own t1 τ.y (zN p' l' c' r' n' d' s' j' e' (drQ w i).off (drQ w i).row (drQ w i).used) 6:=by rw [ht1];exact (zC τ (zN none 0 0 none 0 0 none 0 0 0 0 0) 6).put
     have k3:=w3.le hcp.le;have hsx:=hsh _ (zQO (by omega:i<w.drivers.length));have en1:=hkn.len;have en2:=hlv.len;have en3:=hws.len;obtain ⟨q1,d1,t2,c2,n2,i2,f2⟩:=zNY (c:=c') (SlV.le hkn hcp.le) (by omega);obtain ⟨q3,d3,t4,c4,n4,i4,f4⟩:=zNY (c:=d') (SlV.le (SlV.le hlv hcp.le) n2.le) (by omega);obtain ⟨q5,d5,t6,c6,n6,i6,f6⟩:=zNY (c:=e') (SlV.le (SlV.le (SlV.le hws hcp.le) n2.le) n4.le) (by omega);have n16:New τ t6:=((hcp.trans n2).trans n4).trans n6;have oD2:=oD.le n2.le;have oD4:=oD2.le n4.le;have oD6:=oD4.le n6.le;have k32:=k3.le n2.le;have k34:=k32.le n4.le;have k36:=k34.le n6.le;have J2:=SlV.le (SlV.le i2 n4.le) n6.le;have J4:=SlV.le i4 n6.le;obtain ⟨p8,c8,t8,g1,g2,g3,g4⟩:=yPE (.agg ⟨zN q1 l' d1 q3 n' d3 q5 j' d5 (drQ w i).off (drQ w i).row (drQ w i).used⟩) (τ:=t6) xHT hg n16.le (xOK _ _ _ _ _ _ _ _ _ _ _ _) (by omega) hnx;have hS:∀ b,AtP qs b->B+3<=b:=fun b hb=>(hg.bd hb).1
     have hO:Only (AtP qs) τ t8:=((n16.row').only (S:=AtP qs)).trans g3 (fun _ _ x=>x) (by intro m' h1 h2 b h3 h4;have:=hg.bd h4;exact h2 b this.2 h4);have hOx:Only (fun b=>AtP qs b\/b<=B+2) τ t8:=hO.mono (fun _ _ x=>.inl x);have v1:=hO.own' w1 (fun x=>by have:=hS _ x;omega);have v2:=hO.own' w2 (fun x=>by have:=hS _ x;omega);have v3:=hO.own' w3 (fun x=>by have:=hS _ x;omega);have e5:∀ b,AtP p8 b->B+3<=b:=fun b hb=>(g2.bd hb).1
     obtain ⟨t9,ht9⟩:∃ t9,t9=t8.own (B+2) (wkc w.days ps l cs p8 (i+1) c8 w.rest w.run w.hours) 6:=⟨_,rfl⟩;have k9:Only (·=B+2) t8 t9:=by rw [ht9];exact Only.own (.inr rfl)
     have hN9:New Z.re t9:=(hN.of_only hO (fun b hb=>by have:=hS b hb;omega)).of_only k9 (by rintro b rfl;omega);have n2x:=n2.nx;have n4x:=n4.nx;have n6x:=n6.nx;have hn8:=hO.y;have g3n:=g3.y;have g3n':t6.y+1<=t8.y:=g3n;have st:=v3.store (P:=Pg) (k:=2) (t:=32) (v:=.slice p8 (i+1) c8) (vs:=[.slice p8 (i+1) c8]) (ds:=wkc w.days ps l cs p8 (i+1) c8 w.rest w.run w.hours) rfl xWL rfl (by simp) rfl;have bqs:∀ {n:Nat},τ.y<=n->yX RD n (.slice qs i ds)=true:=fun hn=>yQ (fun a e=>by have:=(hg.bd ⟨a,e,rfl⟩).2;omega)
     have lk:∀ {z:St},Own z τ.y (zN p' l' c' r' n' d' s' j' e' (drQ w i).off (drQ w i).row (drQ w i).used) 6->zB Pg z 26 ⟨τ.y,1,none⟩=some (.slice r' n' d'):=fun o=>o.rw.ld yV rfl
     have lk2:∀ {z:St},Own z τ.y (zN p' l' c' r' n' d' s' j' e' (drQ w i).off (drQ w i).row (drQ w i).used) 6->zB Pg z 26 ⟨τ.y,2,none⟩=some (.slice s' j' e'):=fun o=>o.rw.ld yV rfl
     have lk3:∀ {z:St},Own z τ.y (zN p' l' c' r' n' d' s' j' e' (drQ w i).off (drQ w i).row (drQ w i).used) 6->zB Pg z 3 ⟨τ.y,3,none⟩=some (iV (drQ w i).off):=fun o=>o.rw.ld zU rfl
     have lk4:∀ {z:St},Own z τ.y (zN p' l' c' r' n' d' s' j' e' (drQ w i).off (drQ w i).row (drQ w i).used) 6->zB Pg z 3 ⟨τ.y,4,none⟩=some (iV (drQ w i).row):=fun o=>o.rw.ld zU rfl
     have lk5:∀ {z:St},Own z τ.y (zN p' l' c' r' n' d' s' j' e' (drQ w i).off (drQ w i).row (drQ w i).used) 6->zB Pg z 3 ⟨τ.y,5,none⟩=some (iV (drQ w i).used):=fun o=>o.rw.ld zU rfl
     have lw:∀ {z:St},Own z (B+2) (wkc w.days ps l cs qs i ds w.rest w.run w.hours) 6->zB Pg z 32 ⟨B+2,2,none⟩=some (.slice qs i ds):=fun o=>o.rw.ld zAU rfl
     have hlv':∀ a,r'=some a->a.block<τ.y:=wA hlv;have hws':∀ a,s'=some a->a.block<τ.y:=wA hws;have fin:zWQ B (B+1) (B+2) (i:Int) τ (fun i6' Z'=>∃ k',k' < k/\(New Z.re Z'/\∃ i:Nat,i6'=i/\i+k'=m/\∃ qs ds vs,Own Z' B (wkc w.days p l c (some a) m d w.rest w.run w.hours) 6/\Own Z' (B+1) (wkc 0 none 0 0 none 0 0 0 0 0) 6/\Own Z' (B+2) (wkc w.days ps l cs qs i ds w.rest w.run w.hours) 6/\SlV Pg Z' 85 5 ps l (w.duties.map zBT)/\(∀ b,AtP ps b->¬ AtP qs b/\b<Z'.y) /\
     Gr Pg Z' (B+3) 88 6 qs i ds vs/\(∀ (j:Nat) (x:Drv),j<i->w.drivers[j]?=some x->∃ v,vs[j]?=some v/\yBY Z' (fun b=>AtP qs b\/b<=B+2) v x))) (fun τ=>New Z.re τ/\∃ qs ds,Own τ (B+1) (wkc 0 none 0 0 none 0 0 0 0 0) 6/\Own τ (B+2) (wkc w.days ps l cs qs m ds w.rest w.run w.hours) 6/\SlV Pg τ 85 5 ps l (w.duties.map zBT)/\(∀ b,AtP ps b->B+3<=b)/\(∃ vs,SlV Pg τ 88 6 qs m vs/\∀ (i:Nat) (x:Drv),w.drivers[i]?=some x->∃ v,vs[i]?=some v/\yBY τ (·<=B+2) v x)/\(∀ b,AtP qs b->B+3<=b)):=by
      rw [ht1] at c2 oD;refine xPY (w1.ld rfl zBF (k:=2) rfl) ld (by rw [<- ht1];exact lw k3) c2 (lk oD2) c4 (lk2 oD4) c6 (lk3 oD6) (lk4 oD6) (lk5 oD6) g1 st
       (zE (zO oD2.lt) zI) (zE (yQ fun a e=>by have:=hlv' a e;omega) zI) (zE (zO oD4.lt) zI) (zE (yQ fun a e=>by have:=hws' a e;omega) zI)
       (zE (zO oD6.lt) zI) (zE (zO oD6.lt) zI) (zE (zO oD6.lt) zI)
       (zE (yYI (wA J2) (wA J4) (wA i6)) zI)
       (zE (bqs (by show τ.y<=t6.y+1;omega)) (zE (zON (by show t6.y<t6.y+1;omega)) zI))
       (zE (zO (by show B+2<t8.y;omega)) (zE (yQ fun a e=>(g2.bd ⟨a,e,rfl⟩).2) zI))
       ⟨⟨k32.lt,rfl⟩,lw k32⟩ ⟨⟨k34.lt,rfl⟩,lw k34⟩ ⟨⟨k36.lt,rfl⟩,lw k36⟩ ⟨⟨(k36.row (ds:=zN q1 l' d1 q3 n' d3 q5 j' d5 (drQ w i).off (drQ w i).row (drQ w i).used) (m:=6)).lt,rfl⟩,lw k36.row⟩
       (lk oD) ⟨⟨oD2.lt,rfl⟩,lk oD2⟩ (lk2 oD) ⟨⟨oD2.lt,rfl⟩,lk2 oD2⟩ ⟨⟨oD4.lt,rfl⟩,lk2 oD4⟩
       (lk3 oD) ⟨⟨oD2.lt,rfl⟩,lk3 oD2⟩ ⟨⟨oD4.lt,rfl⟩,lk3 oD4⟩ ⟨⟨oD6.lt,rfl⟩,lk3 oD6⟩
       (lk4 oD) ⟨⟨oD2.lt,rfl⟩,lk4 oD2⟩ ⟨⟨oD4.lt,rfl⟩,lk4 oD4⟩ ⟨⟨oD6.lt,rfl⟩,lk4 oD6⟩
       (lk5 oD) ⟨⟨oD2.lt,rfl⟩,lk5 oD2⟩ ⟨⟨oD4.lt,rfl⟩,lk5 oD4⟩ ⟨⟨oD6.lt,rfl⟩,lk5 oD6⟩
       (wA hkn)
       ⟨k-1,by omega,by rw [<- ht9];exact hN9,i+1,by omega,by omega,p8,c8,_, ?_, ?_, ?_, ?_, ?_,by rw [<- ht9];exact g2.only k9 (by rintro b hb rfl;have:=e5 _ hb;omega), ?_⟩ (by omega) (by omega) (by omega) (by omega)
      ·exact v1.own (by omega)
      ·exact v2.own (by omega)
      ·exact v3.put
      ·refine (hO.slv' hs (fun a e hb=>(hd a.block ⟨a,e,rfl⟩).1 hb)).own (.inr fun a e hb=>?_);have:=(hsb a.block ⟨a,e,rfl⟩).1;omega
      ·intro b hb;refine ⟨fun h4=>?_,by have:=(hd b hb).2;show b<t8.y;omega⟩
       rcases g4 b h4 with h5 | h5
       ·exact (hd b hb).1 h5
       ·have:=(hd b hb).2;have:=n16.nx;omega
      ·intro j x hj hxj;rw [<- ht9];have fromOld:∀ b,b<τ.y->(AtP p8 b\/b<=B+2)->(AtP qs b\/b<=B+2):=by
        rintro b hb (h4 | h4)
        ·rcases g4 b h4 with h5 | h5
         ·exact .inl h5
         ·have:=n16.nx;omega
        ·exact .inr h4
       have k9':Only (fun b=>AtP p8 b\/b<=B+2) t8 t9:=k9.mono (fun _ _ e=>.inr (by omega));by_cases hji:j<i
       ·obtain ⟨v,hv,hdo⟩:=hrow j x hji hxj;refine ⟨v,by rw [List.getElem?_append_left (by omega)];exact hv, ?_⟩
        have h8:yBY t8 (fun b=>AtP p8 b\/b<=B+2) v x:=hdo.only hOx fromOld;exact h8.only k9' (fun _ _ e=>e)
       ·have:j=i:=by omega
        subst this;rw [hx] at hxj;cases hxj
        refine ⟨_,by rw [List.getElem?_append_right (by omega),hvl,Nat.sub_self];rfl, ?_⟩
        have hnew:∀ b,τ.y<=b->b<t6.y->¬ (AtP p8 b\/b<=B+2):=by
         rintro b h1 h2 (h4 | h4)
         ·rcases g4 b h4 with h5 | h5
          ·have:=(hg.bd h5).2;omega
          ·omega
         ·omega
        have hqs:∀ b,τ.y<=b->¬ AtP qs b:=fun b h1 h5=>by have:=(hg.bd h5).2;omega
        have tr:Only (AtP qs) t6 t8:=(Only.row t6 _ 6:Only (AtP qs) t6 _).trans g3 (fun _ _ x=>x) (by intro m' h1 h2 b h3 h4;have:=hg.bd h4;exact h2 b (by have:=n16.nx;omega) h4);have b1:∀ b,AtP q1 b->τ.y<=b/\b<t6.y:=fun b hb=>⟨by have:=f2 b hb;omega,by obtain ⟨a,e,rfl⟩:=hb;exact wA J2 a e⟩
        have b3:∀ b,AtP q3 b->τ.y<=b/\b<t6.y:=fun b hb=>⟨by have:=f4 b hb;omega,by obtain ⟨a,e,rfl⟩:=hb;exact wA J4 a e⟩
        have b5:∀ b,AtP q5 b->τ.y<=b/\b<t6.y:=fun b hb=>⟨by have:=f6 b hb;omega,by obtain ⟨a,e,rfl⟩:=hb;exact wA i6 a e⟩
        have h8:yBY t8 (fun b=>AtP p8 b\/b<=B+2) (.agg ⟨zN q1 l' d1 q3 n' d3 q5 j' d5 (drQ w j).off (drQ w j).row (drQ w j).used⟩) (drQ w j):=by
         refine ⟨q1,l',d1,q3,n',d3,q5,j',d5,rfl,tr.slv' J2 (fun a e=>hqs _ (b1 _ ⟨a,e,rfl⟩).1),tr.slv' J4 (fun a e=>hqs _ (b3 _ ⟨a,e,rfl⟩).1),tr.slv' i6 (fun a e=>hqs _ (b5 _ ⟨a,e,rfl⟩).1), ?_⟩
         rintro b (hb | hb | hb)
         ·exact hnew b (b1 b hb).1 (b1 b hb).2
         ·exact hnew b (b3 b hb).1 (b3 b hb).2
         ·exact hnew b (b5 b hb).1 (b5 b hb).2
        exact h8.only k9' (fun _ _ e=>e)
     exact fin
    ·have:i=m:=by omega
     subst this;exact xPX (w1.ld rfl zBF (k:=2) rfl) ⟨hN,qs,ds,w2,w3,hs,fun b hb=>(hsb b hb).1,⟨vs,hg.slv,fun j x hx=>by
      obtain ⟨v,h1,h2⟩:=hrow j x (by have:=(List.getElem?_eq_some_iff.1 hx).1;omega) hx;exact ⟨v,h1,h2.only (Only.refl _ _) (fun b _ e=>.inr e)⟩⟩,fun b hb=>(hg.bd hb).1⟩ (by omega)
   ·rintro τ ⟨hN,qs,ds,w2,w3,hs,e1,⟨vs,hv,hrow⟩,e2⟩;have hlt3:=w3.lt;have k9:Only (fun b=>b=B+1) τ (τ.own (B+1) (wkc w.days ps l cs qs m ds w.rest w.run w.hours) 6):=Only.own (.inr rfl);refine yYQ (w3.ldN xV xB (k:=0) rfl rfl (by simp)) (w2.store (vs:=wkc w.days ps l cs qs m ds w.rest w.run w.hours) (ds:=wkc w.days ps l cs qs m ds w.rest w.run w.hours) rfl xB rfl (by simp) rfl) (w2.put.rw.ldN xV xB (k:=0) rfl rfl (by simp)) ⟨hN.own (by omega),ps,cs,qs,ds,rfl, ?_, ?_⟩
    ·exact hs.own (.inr fun a e hb=>by have:=e1 a.block ⟨a,e,rfl⟩;omega)
    ·refine ⟨vs,hv.own (.inr fun a e hb=>by have:=e2 a.block ⟨a,e,rfl⟩;omega),by omega,fun i x hx=>?_⟩
     obtain ⟨v,h1,h2⟩:=hrow i x hx;exact ⟨v,h1,(h2.only (k9.mono (T:=(·<=B+2)) (fun _ _ e=>by omega)) (fun _ _ e=>e)).v⟩
 obtain ⟨v,Z',h1,h2,p',c',q',d',rfl,h3⟩:=zP.new (Q:=fun v s=>∃ p' c' q' d',v=.agg ⟨wkc w.days p' l c' q' m d' w.rest w.run w.hours⟩/\WkP s 85 88 w p' l q' m) key (by rintro v s s' ⟨p',c',q',d',rfl,g⟩ hle;exact ⟨p',c',q',d',rfl,g.le hle⟩) (by
  rintro v s hv ⟨p',c',q',d',rfl,g⟩;cases p' with
  | some a=>exact Bool.noConfusion (show false=true from hv)
  | none=>cases q' with
   | some a=>exact Bool.noConfusion (show false=true from hv)
   | none =>
    obtain ⟨vs,g1,g2,g3⟩:=g.drv;have hm0:m=0:=by
     have:=g1.1.2;have h2:=g1.1.1;by_cases e:m=0
     ·exact e
     ·obtain ⟨a,ea,_⟩:=g1.some (show 0<m by omega);cases ea
    refine ⟨none,c',none,d',rfl,zFF g.dty,vs,zFF g1,g2,fun i x hx=>?_⟩
    have:=(List.getElem?_eq_some_iff.1 hx).1;omega)
 exact ⟨p',c',q',d',Z',h1,h2,h3⟩
end
section
variable {Z:St} {w:Wk} {p q:Option Addr} {l m c d:Nat}
theorem xAZ:zZ (zAR w)=late w:=by
 funext i;unfold zZ zAR late dtQ;rw [List.getD_eq_getElem?_getD,List.getD_eq_getElem?_getD,List.getElem?_map];cases w.duties[i]? <;> rfl
theorem xLU (rs:List Int):(List.range rs.length).map (zZ rs)=rs:=by
 apply List.ext_getElem (by simp);intro i h1 h2;simp [zZ,h2]
theorem xOO {rs:List Int} (hl:rs.length=w.duties.length) (h:∀ y∈rs, -1<=y):(((rs.filter fun x=>decide (0<=x)).length:Nat):Int)=vO w (zZ rs):=by
 have e:(rs.filter fun x=>decide (0<=x))=rs.filter fun x=>decide (x≠-1):=by
  apply List.filter_congr;intro x hx;have:=h x hx;by_cases g:x=-1
  ·subst g;rfl
  ·rw [decide_eq_true (by omega),decide_eq_true g]
 rw [e];unfold vO;rw [<- hl];conv=>lhs;rw [<- xLU rs,List.filter_map,List.length_map]
 rfl
theorem yHN {x:List Int} (hl:x.length=w.duties.length):Ros w (zZ x)↔∀ y∈x, -1<=y/\y<(w.drivers.length:Int):=by
 constructor
 ·intro h y hy;obtain ⟨i,hi,rfl⟩:=List.getElem_of_mem hy;have:=h.ros i (by omega);unfold zZ at this;rw [List.getD_eq_getElem?_getD,List.getElem?_eq_getElem hi] at this;exact this
 ·intro h;refine ⟨fun i hi=>?_⟩
  unfold zZ;rw [List.getD_eq_getElem?_getD,List.getElem?_eq_getElem (by omega:i<x.length)];exact h _ (List.getElem_mem _)
end
section
variable {Z z:St} {w:Wk} {p q r:Option Addr} {l m c d rl rc:Nat} {xs:List Int}
def zRN (w:Wk):Bool:=zIC w && decide (xC w=0)
def zDX (w:Wk):Bool:=zRN w && (decide (w.duties.length<=8) && decide (w.drivers.length<=4))
theorem xRR (h:WkP z 92 76 w p l q m):zD Tryz.prog 64 [.agg ⟨wkc w.days p l c q m d w.rest w.run w.hours⟩] z (.bool (zRN w)) z:=by
 have L1:=(le0 z).trans (Le.row z.re (wkc w.days p l c q m d w.rest w.run w.hours) 6);have k1:=xYT (c:=c) (d:=d) (h.le L1);unfold zRN;cases b0:zIC w with
 | false =>
  rw [b0] at k1;exact (xJM k1 ⟨rfl,Nat.le_refl _⟩).pure
 | true =>
 rw [b0] at k1;have k2:=xJU (c:=c) (d:=d) (h.le L1) (zXE b0).1;by_cases hf:xC w=0
 ·exact (xJO k1 k2 ⟨by rw [decide_eq_true hf];rfl,Nat.le_refl _⟩ hf).pure
 ·exact (xJN k1 k2 ⟨by rw [decide_eq_false hf];rfl,Nat.le_refl _⟩ hf).pure
theorem xTE (h:WkP z 92 76 w p l q m):zD Tryz.prog 36 [.agg ⟨wkc w.days p l c q m d w.rest w.run w.hours⟩] z (.bool (zDX w)) z:=by
 have hln:=h.len.1;have hm:=h.len.2;have L1:=(le0 z).trans (Le.row z.re (wkc w.days p l c q m d w.rest w.run w.hours) 6);have k1:=xRR (c:=c) (d:=d) (h.le L1);unfold zDX;cases b0:zRN w with
 | false =>
  rw [b0] at k1;exact (xMB k1 ⟨rfl,Nat.le_refl _⟩).pure
 | true =>
 rw [b0] at k1;by_cases g5:l<=8
 ·by_cases g3:m<=4
  ·exact (xME k1 ⟨by simp [hln,hm,g5,g3],Nat.le_refl _⟩ (by omega) (by omega)).pure
  ·exact (xMD k1 ⟨by simp [hln,hm,g3],Nat.le_refl _⟩ (by omega) (by omega)).pure
 ·exact (xMC k1 ⟨by simp [hln,hm,g5],Nat.le_refl _⟩ (by omega)).pure
theorem zCJ (h:zDX w=true):zBC w/\xC w=0/\w.duties.length<=8/\w.drivers.length<=4:=by
 unfold zDX zRN at h;rw [Bool.and_eq_true,Bool.and_eq_true,Bool.and_eq_true,decide_eq_true_iff,decide_eq_true_iff,decide_eq_true_iff] at h;exact ⟨(zXE h.1.1).1,h.1.2,h.2.1,h.2.2⟩
theorem yDX {eQ:Int} (hf:xC w=0):zCQ w xs eQ=true↔(xs.length=w.duties.length/\Ros w (zZ xs))/\vY w (zZ xs) (late w)/\eQ<=vO w (zZ xs):=by
 unfold zCQ;rw [Bool.and_eq_true,Bool.and_eq_true,Bool.and_eq_true,decide_eq_true_iff,decide_eq_true_iff,decide_eq_true_iff,zLP,xAZ,yEY];constructor
 ·rintro ⟨_,⟨h1,h2⟩,h3,h4⟩;have hr:Ros w (zZ xs):=⟨fun i hi=>h2 i (by omega)⟩;refine ⟨⟨h1,hr⟩,h3, ?_⟩
  have e:((yAO xs:Nat):Int)=vO w (zZ xs):=xOO h1 fun y hy=>((yHN h1).1 hr y hy).1
  omega
 ·rintro ⟨⟨h1,h2⟩,h3,h4⟩;refine ⟨hf,⟨h1,fun i hi=>h2.ros i (by omega)⟩,h3, ?_⟩
  have e:((yAO xs:Nat):Int)=vO w (zZ xs):=xOO h1 fun y hy=>((yHN h1).1 h2 y hy).1
  omega
end
theorem zRL {ox oy:Operand} {t:TypeId} {a b:Int} (h:b≠0):vP Pg .rem t ox oy (iV a) (iV b)=some (iV (a.tmod b)):=by
 simp [vP,zDO,yIY,h]
abbrev yQT (x:Int):Value:=.int .u8 x
section
variable {Z z:St} {w:Wk} {p q r pw:Option Addr} {l m c d rl rc lw cw:Nat} {xs ws:List Int}
theorem xVJ (h:WkP z 92 76 w p l q m) (hw:SlV Pg z 5 1 pw lw (ws.map yQT)) (hb:∀ x∈ws,0<=x/\x<=255) (hl:l<=12) (hm6:m<=6) :
  ∃ out p' c' z',zD Pg 39 [.agg ⟨wkc w.days p l c q m d w.rest w.run w.hours⟩,.slice pw lw cw] z (.slice p' l c') z'/\New z z'/\yG z' p' l out/\∀ y∈out, -1<=y/\y<(m:Int):=by
 obtain ⟨t1,ht1⟩:∃ t1,t1=z.re.row (wkc w.days p l c q m d w.rest w.run w.hours) 6:=⟨_,rfl⟩;have n1:t1.y=z.y+1:=by rw [ht1];rfl
 have M1:New z.re t1:=by rw [ht1];exact New.row _ _ _
 have w1:Row t1 ⟨z.y,0,none⟩ (wkc w.days p l c q m d w.rest w.run w.hours):=by rw [ht1];exact xP z.re _ _
 suffices hmain:zP Pg 39 [.agg ⟨wkc w.days p l c q m d w.rest w.run w.hours⟩,.slice pw lw cw] z.re fun v s=>New z.re s/\∃ out p' c',v=.slice p' l c'/\yG s p' l out/\∀ y∈out, -1<=y/\y<(m:Int) by
  obtain ⟨v,s,h1,h2,out,p',c',rfl,h3,h4⟩:=zP.new hmain (by
   rintro v s s' ⟨out,p',c',e,g1,g2⟩ hle;exact ⟨out,p',c',e,SlV.le g1 hle,g2⟩) (by
   rintro v s hr ⟨out,p',c',rfl,g1,g2⟩;cases p' with
   | some a=>exact Bool.noConfusion (show false=true from hr)
   | none=>exact ⟨out,none,c',rfl,zFF g1,g2⟩)
  exact ⟨out,p',c',s,h1,h2,h3,h4⟩
 let Jn:Nat->Option Addr->Nat->Nat->St->Prop:=fun j p5 l5 c5 y=>∃ out:List Int,New z.re y/\Row y ⟨z.y,0,none⟩ (wkc w.days p l c q m d w.rest w.run w.hours)/\Ax y (z.y+1) 1 p5 l5 c5 (out.map zY)/\l5=j/\out.length=j/\∀ y∈out, -1<=y/\y<(m:Int)
 have hL:yBU pw lw cw z.y none 0 0 0 t1 (fun p5 l5 c5 y=>Jn l p5 l5 c5 y):=by
  refine yRO (Inv:=fun k p5 l5 c5 i y=>∃ j:Nat,i=(j:Int)/\j+k=l/\Jn j p5 l5 c5 y) ?_ l none 0 0 0 t1 ⟨0,rfl,by omega,[],M1,w1,Ax.nil,rfl,rfl,fun y hy=>by cases hy⟩;rintro k p5 l5 c5 i y ⟨j,rfl,hk,out,J1,J2,J3,rfl,J4,J5⟩;have h1:zB Pg y 22 ⟨z.y,1,none⟩=some (.slice p l c):=J2.ld zBG rfl;have h2:zB Pg y 23 ⟨z.y,2,none⟩=some (.slice q m d):=J2.ld zBF rfl;by_cases hj:l5<l;rotate_left
  ·have:l5=l:=by omega
   subst this;exact xHW h1 ⟨out,J1,J2,J3,rfl,J4,J5⟩ (by omega)
  have yn:z.y<y.y:=J2.lt;have step:∀ x:Int, -1<=x/\x<(m:Int)->∃ p4 c4 s4,yC Pg 26 26 (.slice p5 l5 c5) (.slice (some ⟨y.y,0,none⟩) 1 1) (y.row [iV x] 1)=some (.slice p4 (l5+1) c4,s4)/\∃ k',k' < k/\∃ j':Nat,(l5:Int)+1=(j':Int)/\j'+k'=l/\Jn j' p4 (l5+1) c4 s4:=fun x hx=>by
   obtain ⟨t3,ht3⟩:∃ t3,t3=y.row [iV x] 1:=⟨_,rfl⟩;have M3:New y t3:=by rw [ht3];exact New.row _ _ _
   have r3:Row t3 ⟨y.y,0,none⟩ [iV x]:=by rw [ht3];exact xP _ _ _
   have nx3:=M3.nx;obtain ⟨p4,c4,s4,ap4,A4,O4,b4⟩:=Ax.append (P:=Pg) (k:=1) (m:=1) (n0:=z.y+1) uJ (J3.le M3.le) (r3.sl rfl) (by omega) rfl (by omega);have N4:New z.re s4:=(J1.trans M3).of_only O4 (fun b hb=>by have:=(J3.bd b hb).1;show z.y<=b;omega);have w4:=O4.rw' (J2.le M3.le) (fun hb=>by have hb:AtP p5 z.y:=hb;have:=(J3.bd _ hb).1;omega);rw [ht3] at ap4;exact ⟨p4,c4,s4,ap4,k-1,by omega,l5+1,by omega,by omega,out++[x],N4,w4,by rw [List.map_append];exact A4,rfl,by simp [J4],fun y hy=>by
    rcases List.mem_append.1 hy with hy | hy
    ·exact J5 y hy
    ·rw [List.mem_singleton.1 hy];exact hx⟩
  by_cases g1:0<lw;rotate_left
  ·obtain ⟨p4,c4,s4,ap4,nx⟩:=step (-1) ⟨by omega,by omega⟩;exact xHX h1 ap4 nx (by omega) (by omega) ⟨by omega,by omega⟩
  by_cases g2:0<m;rotate_left
  ·obtain ⟨p4,c4,s4,ap4,nx⟩:=step (-1) ⟨by omega,by omega⟩;exact xHY h1 h2 ap4 nx (by omega) (by omega) (by omega) ⟨by omega,by omega⟩
  have hw1:SlV Pg y 5 1 pw lw (ws.map yQT):=SlV.le hw ((le0 z).trans J1.le);have hmod:l5 % lw<lw:=Nat.mod_lt _ g1;obtain ⟨aw,rfl,x,hx,ldx⟩:=wZ (f:=yQT) hw1 hmod;have hxb:=hb x (List.mem_of_getElem? hx);have eT:(l5:Int).tmod (lw:Int)=((l5 % lw:Nat):Int):=by rw [Int.tmod_eq_emod_of_nonneg (by omega)];omega
  have rm1:vP Pg .rem 3 (.tmp 25) (.tmp 27) (iV (l5:Int)) (iV (lw:Int))=some (iV ((l5 % lw:Nat):Int)):=by rw [zRL (by omega),eT]
  have rm2:vP Pg .rem 3 (.tmp 31) (.tmp 35) (iV x) (iV ((m:Int)+1))=some (iV (x.tmod ((m:Int)+1))):=zRL (by omega);have e2:x.tmod ((m:Int)+1)=x % ((m:Int)+1):=Int.tmod_eq_emod_of_nonneg (by omega);have e3:=Int.emod_nonneg x (show (m:Int)+1≠0 by omega);have e4:=Int.emod_lt_of_pos x (show 0<(m:Int)+1 by omega);obtain ⟨p4,c4,s4,ap4,nx⟩:=step (x.tmod ((m:Int)+1)-1) ⟨by omega,by omega⟩;exact xHZ h1 h2 rm1 ldx rm2 ap4 nx (by omega) (by omega) (by omega) ⟨by omega,by omega⟩ ⟨by omega,by omega⟩ ⟨by omega,by omega⟩ ⟨by omega,by omega⟩ ⟨by omega,by omega⟩
 subst ht1;refine xQN hL ?_
 rintro p5 l5 c5 y ⟨out,J1,J2,J3,rfl,J4,J5⟩;exact yRN ⟨J1,out,p5,c5,rfl,Ax.slv (by rw [wH _ .i64];exact J3) (by simp [J4]) (fun v hv=>by obtain ⟨x,_,rfl⟩:=List.mem_map.1 hv;exact vV x),J5⟩
end
structure EasV (a b:Drv):Prop where
 knows:∀ r,a.knows.contains r=true->b.knows.contains r=true
 leave:∀ r,b.leave.contains r=true->a.leave.contains r=true
 off:b.off<=a.off
 row:b.row<=a.row
 used:b.used<=a.used
theorem EasV.refl (a:Drv):EasV a a:=⟨fun _ h=>h,fun _ h=>h,Int.le_refl _,Int.le_refl _,Int.le_refl _⟩
structure EasD (w x:Wk):Prop where
 dt:x.duties=w.duties
 len:x.drivers.length=w.drivers.length
 rest:x.rest<=w.rest
 run:w.run<=x.run
 hours:w.hours<=x.hours
 dr:∀ k,k<w.drivers.length->EasV (drQ w k) (drQ x k)
 ok:xC x=0
 sh:zBC x
section
variable {w x:Wk} {l m:Nat} {ros:Nat->Int} {xs ys:List Int}
theorem EasD.dty (E:EasD w x) (i:Nat):dtQ x i=dtQ w i:=by unfold dtQ;rw [E.dt]
theorem EasD.legal (E:EasD w x) (hs:Sane w l m) (hln:w.duties.length=l) (hm:w.drivers.length=m) (h:vY w ros (late w)):vY x ros (late x):=by
 refine Eas.legal (f:=fun i=>i) ⟨fun i h=>by rw [<- E.dt];exact h,fun i j _ _ h=>h,fun i _=>E.dty i,fun i _=>by unfold late;rw [E.dty i],fun i _=>.inl rfl,E.len,fun k r hk=>(E.dr k hk).knows r,fun k r hk=>(E.dr k hk).leave r,fun k hk=>(E.dr k hk).off,fun k hk=>⟨(E.dr k hk).row,(hs.dr k (by omega)).2.2.1⟩,fun k hk=>(E.dr k hk).used,⟨E.rest,hs.rest.1⟩,E.run,E.hours,fun j hj=>?_,fun j hj=>?_⟩ h
 ·have:=hs.duty j (by omega);show (dtQ w j).on<=(dtQ w j).hi;omega
 ·have:=hs.duty j (by omega);omega
theorem EasD.rosk (E:EasD w x) (h:Ros w ros):Ros x ros:=⟨fun i hi=>by rw [E.len];exact h.ros i (by rw [<- E.dt];exact hi)⟩
theorem EasD.cover (E:EasD w x):vO x ros=vO w ros:=by unfold vO;rw [E.dt]
theorem EasD.prove (E:EasD w x) (hf:xC w=0) (hs:Sane w l m) (hln:w.duties.length=l) (hm:w.drivers.length=m) (h:zCQ w xs 0=true):zCQ x xs 0=true:=by
 obtain ⟨⟨g1,g2⟩,g3,g4⟩:=(yDX hf).1 h;exact (yDX E.ok).2 ⟨⟨by rw [E.dt];exact g1,E.rosk g2⟩,E.legal hs hln hm g3,by rw [E.cover];exact g4⟩
theorem EasD.legalB (E:EasD w x) (hs:Sane w l m) (hln:w.duties.length=l) (hm:w.drivers.length=m) (h:leQ w ys=true):leQ x ys=true:=by
 unfold leQ at h ⊢;rw [decide_eq_true_iff,xAZ,yEY] at h ⊢;exact E.legal hs hln hm h
theorem EasD.spares (E:EasD w x) (hs:Sane w l m) (hln:w.duties.length=l) (hm:w.drivers.length=m) {i j:Nat}:∀ y∈xM w ys i j,y∈xM x ys i j:=by
 intro y hy;unfold xM at hy ⊢;obtain ⟨k,hk,rfl⟩:=List.mem_map.1 hy;obtain ⟨h1,h2⟩:=List.mem_filter.1 hk;exact List.mem_map.2 ⟨k,List.mem_filter.2 ⟨h1,E.legalB hs hln hm h2⟩,rfl⟩
theorem EasD.most (E:EasD w x) (hs:Sane w l m) (hln:w.duties.length=l) (hm:w.drivers.length=m) {rs rt:List Int} (B:MostL w rs) (B':MostL x rt):vO w (zZ rs)<=vO x (zZ rt):=by
 have:=B'.most _ (E.rosk B.ros) (E.legal hs hln hm B.legal);rw [E.cover] at this;exact this
theorem yZS {lo hi:Int} (h:xW xs lo hi=true):xs.Pairwise (· < ·)/\∀ y∈xs,lo<=y/\y<=hi:=by
 unfold xW at h;rw [zAP] at h;have hg:∀ i (hi:i<xs.length),xs.getD i 0=xs[i]:=fun i hi=>by rw [List.getD_eq_getElem?_getD,List.getElem?_eq_getElem hi];rfl
 have step:∀ i (hi:i+1<xs.length),xs[i]<xs[i+1]:=by
  intro i hi';have h1:=h (i+1) hi';rw [Bool.and_eq_true,Bool.or_eq_true,decide_eq_true_iff,Nat.add_sub_cancel,hg i (by omega),hg (i+1) hi'] at h1;rcases h1.2 with h2 | h2
  ·exact absurd h2 (by simp)
  ·exact h2
 have far:∀ d i (hi:i+d+1<xs.length),xs[i]<xs[i+d+1]:=by
  intro d;induction d with
  | zero=>intro i hi;exact step i hi
  | succ d ih=>intro i hi;exact Int.lt_trans (ih i (by omega)) (step (i+d+1) hi)
 refine ⟨List.pairwise_iff_getElem.2 fun i j hi hj hij=>?_,fun y hy=>?_⟩
 ·obtain ⟨d,rfl⟩:∃ d,j=i+d+1:=⟨j-i-1,by omega⟩;exact far d i hj
 ·obtain ⟨i,hi,rfl⟩:=List.getElem_of_mem hy;have h1:=h i hi;rw [Bool.and_eq_true,vK,hg i hi] at h1;exact h1.1
theorem yZR {lo hi:Int} (h1:xs.Pairwise (· < ·)) (h2:∀ x∈xs,lo<=x/\x<=hi):xW xs lo hi=true:=by
 unfold xW;rw [zAP];intro i hi';have e1:xs.getD i 0=xs[i]:=by rw [List.getD_eq_getElem?_getD,List.getElem?_eq_getElem hi'];rfl
 rw [Bool.and_eq_true,vK,e1];refine ⟨h2 _ (List.getElem_mem hi'), ?_⟩
 cases i with
 | zero=>rfl
 | succ i =>
  have e2:xs.getD (i+1-1) 0=xs[i]:=by rw [Nat.add_sub_cancel,List.getD_eq_getElem?_getD,List.getElem?_eq_getElem (by omega:i<xs.length)];rfl
  rw [e2,Bool.or_eq_true,decide_eq_true_iff];exact .inr (List.pairwise_iff_getElem.1 h1 i (i+1) (by omega) hi' (by omega))
def zAG:List Int->Int->List Int
 | [],n=>[n]
 | a::l,n=>if n<=a then (if n<a then n::a::l else a::l) else a::zAG l n
theorem zRR {n:Int}:∀ {xs:List Int},(∀ y∈xs,y<n)->zAG xs n=xs++[n]
 | [],_=>rfl
 | a::l,h=>by
  have:=h a List.mem_cons_self;unfold zAG;rw [if_neg (by omega),zRR fun y hy=>h y (List.mem_cons_of_mem _ hy)];rfl
theorem yDW {n x:Int}:∀ {xs:List Int},(∃ y∈xs,n<=y)->zAG (xs++[x]) n=zAG xs n++[x]
 | [],h=>by obtain ⟨y,h,_⟩:=h;cases h
 | a::l,h=>by
  rw [List.cons_append];unfold zAG;by_cases h1:n<=a
  ·rw [if_pos h1,if_pos h1];by_cases h2:n<a
   ·rw [if_pos h2,if_pos h2];rfl
   ·rw [if_neg h2,if_neg h2];rfl
  ·rw [if_neg h1,if_neg h1,yDW]
   ·rfl
   ·obtain ⟨y,hy,hn⟩:=h;rcases List.mem_cons.1 hy with rfl | hy
    ·exact absurd hn h1
    ·exact ⟨y,hy,hn⟩
theorem xAA {n x:Int} (h:n<=x):∀ {xs:List Int},(∀ y∈xs,y<n)->zAG (xs++[x]) n=xs++if n<x then [n,x] else [x]
 | [],_=>by
  show (if n<=x then (if n<x then n::x::[] else x::[]) else x::zAG [] n)=_;rw [if_pos h];by_cases h2:n<x
  ·rw [if_pos h2];rfl
  ·rw [if_neg h2];rfl
 | a::l,hh=>by
  have:=hh a List.mem_cons_self;rw [List.cons_append];unfold zAG;rw [if_neg (by omega),xAA h fun y hy=>hh y (List.mem_cons_of_mem _ hy)];rfl
theorem zYH {n y:Int}:∀ {xs:List Int},y∈zAG xs n->y=n\/y∈xs
 | [],h=>by unfold zAG at h;exact .inl (List.mem_singleton.1 h)
 | a::l,h=>by
  unfold zAG at h;split at h
  ·split at h
   ·rcases List.mem_cons.1 h with h | h
    ·exact .inl h
    ·exact .inr h
   ·exact .inr h
  ·rcases List.mem_cons.1 h with h | h
   ·exact .inr (h ▸ List.mem_cons_self)
   ·rcases zYH h with h | h
    ·exact .inl h
    ·exact .inr (List.mem_cons_of_mem _ h)
theorem yNX {n y:Int}:∀ {xs:List Int},y∈xs->y∈zAG xs n
 | a::l,h=>by
  unfold zAG;split
  ·split
   ·exact List.mem_cons_of_mem _ h
   ·exact h
  ·rcases List.mem_cons.1 h with rfl | h
   ·exact List.mem_cons_self
   ·exact List.mem_cons_of_mem _ (yNX h)
theorem zYI {n:Int}:∀ {xs:List Int},(zAG xs n).length<=xs.length+1
 | []=>Nat.le_refl _
 | a::l=>by
  have:=zYI (n:=n) (xs:=l);unfold zAG;split
  ·split <;> simp
  ·simpa using this
theorem yZZ {n:Int}:∀ {xs:List Int},xs.Pairwise (· < ·)->(zAG xs n).Pairwise (· < ·)
 | [],_=>List.pairwise_singleton _ _
 | a::l,h=>by
  have h':=List.pairwise_cons.1 h;unfold zAG;split
  ·split
   ·rename_i h1 h2;refine List.pairwise_cons.2 ⟨fun y hy=>?_,h⟩;rcases List.mem_cons.1 hy with rfl | hy
    ·exact h2
    ·exact Int.lt_trans h2 (h'.1 y hy)
   ·exact h
  ·rename_i h1;refine List.pairwise_cons.2 ⟨fun y hy=>?_,yZZ h'.2⟩;rcases zYH hy with rfl | hy
   ·omega
   ·exact h'.1 y hy
theorem yPQ (h1:x.duties.length<=12) (h2:x.drivers.length<=6) (h3:vC x=true) (h4:∀ y∈x.duties,vW x y=true) (h5:∀ y∈x.drivers,uN x y=true):xC x=0:=by
 unfold xC;rw [if_neg (by omega),h3,List.all_eq_true.2 h4,List.all_eq_true.2 h5];rfl
theorem yJK {y:Drv} (h1:xW y.knows 0 15=true) (h2:xW y.leave 0 (x.days-1)=true) (h3:xW y.wish 0 (x.days-1)=true) (h4:-10080<=y.off/\y.off<=1440) (h5:0<=y.row/\y.row<=14) (h6:0<=y.used/\y.used<=x.hours):uN x y=true:=by
 unfold uN;simp only [Bool.and_eq_true,vK];exact ⟨h1,h2,h3,h4,h5,h6⟩
theorem xTL (h1:1<=x.days/\x.days<=7) (h2:0<=x.rest/\x.rest<=3000) (h3:1<=x.run/\x.run<=14) (h4:0<=x.hours/\x.hours<=20000):vC x=true:=by
 unfold vC;simp only [Bool.and_eq_true,vK];exact ⟨h1,h2,h3,h4⟩
theorem yVP (h:zDX w=true):∀ y∈w.drivers,y.knows.length<=20/\y.leave.length<=20/\y.wish.length<=20:=by
 unfold zDX zRN at h;rw [Bool.and_eq_true,Bool.and_eq_true,Bool.and_eq_true,decide_eq_true_iff,decide_eq_true_iff,decide_eq_true_iff] at h;have h1:=h.1.1;unfold zIC at h1;rw [Bool.and_eq_true,Bool.and_eq_true,decide_eq_true_eq,decide_eq_true_eq] at h1;obtain ⟨h1,h2,h3⟩:=h1;intro y hy;rw [List.take_of_length_le (by omega)] at h1;have:=List.all_eq_true.1 h1 y hy;unfold zIQ at this;rw [Bool.and_eq_true,Bool.and_eq_true,decide_eq_true_eq,decide_eq_true_eq,decide_eq_true_eq] at this;omega
def ySO (w:Wk) (k:Nat) (d:Drv):Wk:=⟨w.days,w.duties,w.drivers.set k d,w.rest,w.run,w.hours⟩
theorem xJB {k j:Nat} {d:Drv} (hk:k<w.drivers.length):drQ (ySO w k d) j=if j=k then d else drQ w j:=by
 unfold drQ ySO;simp only;rw [List.getD_eq_getElem?_getD,List.getD_eq_getElem?_getD,List.getElem?_set];by_cases e:k=j
 ·subst e;rw [if_pos rfl,if_pos hk,if_pos rfl];rfl
 ·rw [if_neg e,if_neg (Ne.symm e)]
theorem zXN {k:Nat} {d:Drv} (hl:zDX w=true) (hk:k<w.drivers.length) (h:EasV (drQ w k) d) (hd:uN w d=true) (h20:d.knows.length<=1000/\d.leave.length<=1000/\d.wish.length<=1000):EasD w (ySO w k d):=by
 obtain ⟨hsh,hf,_,_⟩:=zCJ hl;obtain ⟨f1,f2,f3,f4,f5⟩:=zAS hf;refine ⟨rfl,by simp [ySO],Int.le_refl _,Int.le_refl _,Int.le_refl _,fun j hj=>?_,yPQ f1 (by simpa [ySO] using f2) f3 f4 fun y hy=>?_,fun y hy=>?_⟩
 ·rw [xJB hk];by_cases e:j=k
  ·rw [if_pos e,e];exact h
  ·rw [if_neg e];exact EasV.refl _
 ·rcases List.mem_or_eq_of_mem_set hy with hy | rfl
  ·exact f5 y hy
  ·exact hd
 ·rcases List.mem_or_eq_of_mem_set hy with hy | rfl
  ·exact hsh y hy
  ·exact h20
theorem zJX {r u h:Int} (hl:zDX w=true) (h1:0<=r/\r<=w.rest) (h2:w.run<=u/\u<=14) (h3:w.hours<=h/\h<=20000):EasD w ⟨w.days,w.duties,w.drivers,r,u,h⟩:=by
 obtain ⟨hsh,hf,_,_⟩:=zCJ hl;obtain ⟨f1,f2,f3,f4,f5⟩:=zAS hf;obtain ⟨g1,g2,g3,g4⟩:=zHH f3;refine ⟨rfl,rfl,h1.2,h2.1,h3.1,fun j hj=>EasV.refl _,yPQ f1 f2 (xTL g1 ⟨h1.1,by show r<=3000;omega⟩ ⟨by show 1<=u;omega,h2.2⟩ ⟨by show 0<=h;omega,h3.2⟩) f4 fun y hy=>?_,hsh⟩
 obtain ⟨e1,e2,e3,e4,e5,e6⟩:=zLV (f5 y hy);exact yJK e1 e2 e3 e4 e5 ⟨e6.1,by show y.used<=h;omega⟩
end
end Go.Proofs.YtgfiniccfpfplaaGreat
