import Derived.Test.YtgfiniccfpfplaaGreatRP
import Derived.Test.YtgfiniccfpfplaaGreatSH

namespace Go.Proofs.YtgfiniccfpfplaaGreat
open Go Go.Lay
set_option linter.unusedVariables false
set_option linter.unusedSimpArgs false
set_option maxRecDepth 20000
section
variable {w:Wk} {ros tru:Nat→Int} {l m:Nat}
structure StB (s:Std) (n:Nat):Prop where
 free:-10080≤s.free∧s.free≤100000
 day:-1≤s.day∧s.day≤6
 row:0≤s.row∧s.row≤15+s.day
 used:0≤s.used∧s.used≤20000+1440*n
theorem StB.take {s:Std} {x:Dty} {e:Int} {n:Nat} (h:StB s n) (hx:0≤x.day∧x.day≤6) (he:x.on≤e∧e≤x.on+1440) (ho:0≤x.on∧x.on≤1439) (hd:s.day≤x.day):StB (take s x e) (n+1):=by
 have h1:=h.free;have h2:=h.day;have h3:=h.row;have h4:=h.used
 unfold Go.Proofs.YtgfiniccfpfplaaGreat.take
 by_cases e1:s.day=x.day
 ·rw [if_pos e1]
  exact ⟨h1,h2,h3,by simp only;omega⟩
 ·rw [if_neg e1]
  refine ⟨by simp only;omega,⟨by simp only;omega,hx.2⟩, ?_,by simp only;omega⟩
  simp only
  by_cases e2:s.day=x.day-1
  ·rw [if_pos e2];omega
  ·rw [if_neg e2];omega
end
end Go.Proofs.YtgfiniccfpfplaaGreat

namespace Go.Proofs.YtgfiniccfpfplaaGreat
open Go Go.Lay
set_option linter.unusedVariables false
set_option linter.unusedSimpArgs false
set_option maxRecDepth 20000
section
variable {σ τ:St} {w:Wk} {p q r t:Option Addr} {l m c d rc tc:Nat} {rs ts:List Int}
theorem on_c {D:Nat}:∃ a1 a2 σ',zE Tryz.prog 75 [.agg ⟨wkc w.days p l c q m d w.rest w.run w.hours⟩,iV (D:Int)] σ (.func (.func 91) ⟨[]⟩ ⟨[.pointer (some ⟨a1,0,none⟩),.pointer (some ⟨a2,0,none⟩)]⟩) σ'∧New σ σ'∧σ.next≤a2∧Row σ' ⟨a1,0,none⟩ (wkc w.days p l c q m d w.rest w.run w.hours)∧Row σ' ⟨a2,0,none⟩ [yC D]:=by
 obtain ⟨v,σ',h1,h2,a1,a2,rfl,h3,h4,h5⟩:=zQ.new (σ:=σ) (P:=Tryz.prog) (f:=75) (args:=[.agg ⟨wkc w.days p l c q m d w.rest w.run w.hours⟩,iV (D:Int)]) (Q:=fun v s=>∃ a1 a2,v=.func (.func 91) ⟨[]⟩ ⟨[.pointer (some ⟨a1,0,none⟩),.pointer (some ⟨a2,0,none⟩)]⟩∧σ.next≤a2∧Row s ⟨a1,0,none⟩ (wkc w.days p l c q m d w.rest w.run w.hours)∧Row s ⟨a2,0,none⟩ [yC D])
  (on_ra ⟨(New.row _ _ _).row',σ.re.next,σ.re.next+1,rfl,by show σ.next≤σ.next+1;omega,(xG _ _ _).row,xG (σ.re.row (wkc w.days p l c q m d w.rest w.run w.hours) 6) _ _⟩) (by rintro v s s' ⟨a1,a2,rfl,g1,g2,g3⟩ hle;exact ⟨a1,a2,rfl,g1,g2.le hle,g3.le hle⟩) (by rintro v s hr ⟨a1,a2,rfl,_⟩;cases hr)
 exact ⟨a1,a2,σ',h1,h2,h3,h4,h5⟩
end
end Go.Proofs.YtgfiniccfpfplaaGreat

namespace Go.Proofs.YtgfiniccfpfplaaGreat
open Go Go.Lay
set_option linter.unusedVariables false
set_option linter.unusedSimpArgs false
set_option maxRecDepth 20000
def zOH (xs:List Nat):List Int:=xs.map fun i:Nat=>(i:Int)
section
variable {σ:St} {w:Wk} {p q:Option Addr} {l m c d D:Nat}
theorem yIZ (h:WkP σ 85 88 w p l q m) (hl:l≤1000):∃ p' c' σ',zE Tryz.prog 85 [.agg ⟨wkc w.days p l c q m d w.rest w.run w.hours⟩,iV (D:Int)] σ (.slice p' (yD w D l).length c') σ'∧New σ σ'∧yI σ' p' (yD w D l).length (zOH (yD w D l))∧∀ b,AtP p' b→σ.next≤b:=by
 have hln:=h.len.1
 have hle:∀ s,(yD w D s).length≤s:=fun s=>by
  unfold yD
  have:=List.length_filter_le (fun i=>decide ((dty w i).day=(D:Int))) (List.range s)
  simpa using this
 obtain ⟨σ1,hσ1⟩:∃ σ1,σ1=(σ.re.row (wkc w.days p l c q m d w.rest w.run w.hours) 6).row [.slice none 0 0] 1:=⟨_,rfl⟩
 have N1:New σ.re σ1:=by rw [hσ1];exact (New.row _ _ _).row'
 have x1:σ1.next=σ.next+2:=by rw [hσ1];rfl
 have o1:Own σ1 (σ.next+1) [.slice none 0 0] 1:=by rw [hσ1];exact zC (σ.re.row (wkc w.days p l c q m d w.rest w.run w.hours) 6) [.slice none 0 0] 1
 obtain ⟨a1,a2,τ,k1,n1,ha2,r1,r2⟩:=on_c (σ:=σ1) (w:=w) (p:=p) (q:=q) (l:=l) (m:=m) (c:=c) (d:=d) (D:=D)
 have N2:=N1.trans n1
 have L2:Le σ τ:=(le0 σ).trans N2.le
 have nx2:=n1.nx
 have hd2:yBT τ 85 p l w.duties:=SlV.le h.dty L2
 have hpb:∀ a,p=some a→a.block<σ.next:=xK h.dty
 have ha2t:a2<τ.next:=r2.lt
 rw [hσ1] at k1
 let J:Nat→St→Prop:=fun s z=>Row z ⟨a2,0,none⟩ [yC D]∧yBT z 85 p l w.duties∧τ.next≤z.next∧∃ p' c',Own z (σ.next+1) [.slice p' (yD w D s).length c'] 1∧Gr Tryz.prog z (τ.next+2) 3 1 p' (yD w D s).length c' ((zOH (yD w D s)).map yC)∧Le σ z
 refine zQ.newSl (yTW k1 (Pn:=fun z=>J l z∧yR z.heap τ.next=some .defd∧τ.next<z.next∧∀ m,m≤σ.next→m≤τ.low→m≤z.low) (yIY (zf:=fun z _=>z) (fun z _=>Le.refl z) (fun z _=>Nat.le_refl _) (w:=w) (pp:=p) (q:=q) (l:=l) (m:=m) (c:=c) (d:=d) (D:=D) (a1:=a1) (a2:=a2) (n0:=σ.next) (J:=fun s z=>J s z) (fun g0=>rfl) r1 (by omega) (by omega) (fun s z hz=>⟨hz.1,hz.2.1⟩) ⟨r2,hd2,Nat.le_refl _,none,0,o1.le n1.le,by simpa [yD,zOH] using Gr.nil,L2⟩ ?_ ?_ ?_ ?_) ?_)
 ·rintro s z z' ⟨h1,h2,h3,p',c',h4,h5,h6⟩ hk
  refine ⟨hk.rw h1,hk.slv h2,Nat.le_trans h3 hk.next,p',c',hk.own h4,hk.gr h5,⟨Nat.le_trans h6.next hk.next,fun b hb=>by rw [hk.old b hb];exact h6.get b hb⟩⟩
 ·rintro s z hs hd ⟨h1,h2,h3,p',c',h4,h5,h6⟩
  have e:yD w D (s+1)=yD w D s:=by rw [yDT,if_neg hd]
  refine ⟨h1,h2,h3,p',c', ?_, ?_,h6⟩
  ·rw [e];exact h4
  ·rw [e];exact h5
 ·rintro s z z1 lo g0 db hs hd hlo hlp hz1 ⟨h1,h2,h3,p',c',h4,h5,h6⟩ hnx
  have e:yD w D (s+1)=yD w D s++[s]:=by rw [yDT,if_pos hd]
  have hlt:lo<z.next:=by omega
  have k01:Only (fun y=>y=lo) z z1:=by
   rw [hz1]
   exact (Only.re (S:=fun y=>y=lo) z).trans' (Only.put (S:=fun y=>y=lo) (.inr rfl)) (fun b _ e=>.inl e)
  have u1:Own z1 (σ.next+1) [.slice p' (yD w D s).length c'] 1:=k01.own' h4 (by omega)
  have v1:Gr Tryz.prog z1 (τ.next+2) 3 1 p' (yD w D s).length c' ((zOH (yD w D s)).map yC):=h5.only k01 (fun b hb e=>by have:=(h5.bd hb).1;omega)
  have nx1:=k01.next
  have hs2:=hle s
  obtain ⟨p2,c2,z2,g1,g2,g3,g4⟩:=yII (yC (s:Int)) zDS v1 (Le.refl z1) (zBQ _) (by omega) (by omega)
  have hS:∀ b,AtP p' b→τ.next+2≤b:=fun b hb=>(v1.bd hb).1
  have k12:Only (AtP p') z1 z2:=(Only.row z1 [yC (s:Int)] 1).trans' g3 (fun b _ e=>.inl e)
  have u2:=k12.own' u1 (fun hb=>by have:=hS _ hb;omega)
  have st:=u2.store (P:=Tryz.prog) (k:=0) (t:=26) (v:=.slice p2 ((yD w D s).length+1) c2) (vs:=[.slice p2 ((yD w D s).length+1) c2]) (ds:=[.slice p2 ((yD w D s).length+1) c2]) rfl yKV rfl (by simp) rfl
  obtain ⟨z3,hz3⟩:∃ z3,z3=z2.own (σ.next+1) [.slice p2 ((yD w D s).length+1) c2] 1:=⟨_,rfl⟩
  rw [← hz3] at st
  have k23:Only (fun y=>y=σ.next+1) z2 z3:=by rw [hz3];exact Only.own (.inr rfl)
  have k13:Only (fun y=>y=σ.next+1∨AtP p' y) z1 z3:=(k12.mono (fun _ _ e=>.inr e)).trans' k23 (fun b _ e=>.inl (.inl e))
  have k03:Only (fun y=>y=lo∨y=σ.next+1∨AtP p' y) z z3:=(k01.mono (fun _ _ e=>.inl e)).trans' k13 (fun b _ e=>.inl (.inr e))
  refine ⟨z3,yOB hlp hz1 (u1.ld (k:=0) rfl yV rfl) g1 st rfl,⟨k03.rw' h1 ?_,k03.slv' h2 ?_,by have:=k03.next;omega,p2,c2, ?_, ?_, ?_⟩,_,k13, ?_⟩
  ·rintro (hb | hb | hb)
   ·have hb:a2=lo:=hb;omega
   ·have hb:a2=σ.next+1:=hb;omega
   ·have:=hS _ hb;have:τ.next+2≤a2:=this;omega
  ·rintro a ea (hb | hb | hb)
   ·have:=hpb a ea;omega
   ·have:=hpb a ea;omega
   ·have:=hS _ hb;have:=hpb a ea;omega
  ·rw [e,List.length_append,hz3];exact u2.put
  ·rw [e,List.length_append]
   have e2:(zOH (yD w D s++[s])).map yC=(zOH (yD w D s)).map yC++[yC (s:Int)]:=by simp [zOH]
   rw [e2]
   exact g2.only k23 (fun b hb e=>by have:=(g2.bd hb).1;omega)
  ·refine ⟨Nat.le_trans h6.next k03.next,fun b hb=>?_⟩
   rw [k03.get b (by omega) ?_]
   ·exact h6.get b hb
   ·rintro (e | e | e)
    ·omega
    ·omega
    ·have:=hS _ e;omega
  ·rintro y (e | e)
   ·exact ⟨by omega,by omega,by omega⟩
   ·have:=hS _ e;exact ⟨by omega,by omega,by omega⟩
 ·rintro z h1 h2 h3 h4
  exact ⟨h1,h2,h3,h4⟩
 ·rintro z ⟨⟨h1,h2,h3,p',c',h4,h5,h6⟩,h7,h8,h9⟩
  have st:=h4.store (P:=Tryz.prog) (k:=0) (t:=26) (v:=.slice p' (yD w D l).length c') (vs:=[.slice p' (yD w D l).length c']) (ds:=[.slice p' (yD w D l).length c']) rfl yKV rfl (by simp) rfl
  have hB:σ.next+1<τ.next:=by omega
  obtain ⟨z2,k1,k2,k3,k4⟩:=yFI (ms:=[τ.next]) (σ:=z.own (σ.next+1) [.slice p' (yD w D l).length c'] 1) (fun y hy=>by
   rcases List.mem_singleton.1 hy with rfl
   show yR (St.put _ _ _).heap _=_
   rw [St.put_get,if_neg (by omega)];exact h7) (by simp)
  have o2:Own z2 (σ.next+1) [.slice p' (yD w D l).length c'] 1:=h4.put.at_ (k3 _ (fun e=>by have:=List.mem_singleton.1 e;omega)) (by rw [k2];exact Nat.le_refl _)
  have g2:Gr Tryz.prog (z.own (σ.next+1) [.slice p' (yD w D l).length c'] 1) (τ.next+2) 3 1 p' (yD w D l).length c' ((zOH (yD w D l)).map yC):=h5.only (S:=(·=σ.next+1)) (Only.own (.inr rfl)) (fun b hb e=>by have:=(h5.bd hb).1;omega)
  have sl:yI z2 p' (yD w D l).length (zOH (yD w D l)):=by
   have:=g2.slv
   refine ⟨⟨this.1.1, ?_⟩,this.2⟩
   cases p' with
   | none=>exact this.1.2
   | some a =>
    have hr:=this.1.2
    have hb:=(h5.bd ⟨a,rfl,rfl⟩)
    refine ⟨?_,by rw [k2];exact hr.lt⟩
    have e:yR z2.heap a.block=yR (z.own (σ.next+1) [.slice (some a) (yD w D l).length c'] 1).heap a.block:=k3 _ (fun e=>by have:=List.mem_singleton.1 e;omega)
    have:=hr.rd
    unfold yU at this ⊢
    rw [e];exact this
  have N:New σ.re z2:=by
   refine ⟨⟨by rw [k2];exact h6.next,fun b hb=>?_⟩,fun m g1 g2=>k4 m ?_ (fun y hy=>by have:=List.mem_singleton.1 hy;have g2:m≤σ.next:=g2;omega)⟩
   ·have hb:b<σ.next:=hb
    rw [k3 b (fun e=>by have:=List.mem_singleton.1 e;omega)]
    show yR (St.put _ _ _).heap b=_
    rw [St.put_get,if_neg (by omega)];exact h6.get b hb
   ·have g2:m≤σ.next:=g2
    have:=h9 m g2 (N2.low m g1 g2)
    show m≤min _ _;omega
  exact yDU (h4.ld (k:=0) rfl yV rfl) st k1 (o2.ld (k:=0) rfl yV rfl) ⟨N,p',c',rfl,sl,fun b hb=>by have:=(h5.bd hb).1;show σ.next≤b;omega⟩
end
end Go.Proofs.YtgfiniccfpfplaaGreat
