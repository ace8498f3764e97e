
import Derived.Test.YtgfiniccfpfplaaGreatSF
import Derived.Test.YtgfiniccfpfplaaGreatRN
namespace Go.Proofs.YtgfiniccfpfplaaGreat
open Go Go.Lay
open Tryz renaming prog -> Pg
set_option linter.unusedVariables false
set_option linter.unusedSimpArgs false
set_option maxRecDepth 20000
@[reducible] def zTV (w:Wk) (p:Option Addr) (l c:Nat) (q:Option Addr) (m d:Nat) (leaves:Bool) (wfv:Value) (bm:Nat):List Value:=[iV w.days,.slice p l c,.slice q m d,iV w.rest,iV w.run,iV w.hours,.bool leaves,wfv,.map (some bm)]
section
variable {Z:St} {b n:Nat} {f:Nat->Std}
theorem yXK (o:Own Z b (stL f) n) {i k:Nat} {x:Int} (hi:i<6) (hx:[(f i).free,(f i).row,(f i).used,(f i).day][k]?=some x):zB Pg Z 3 ⟨b,0+Int.toNat (i:Int)*4+k,none⟩=some (yB x):=by
 rw [Int.toNat_natCast];have hk:k<4:=by have:=(List.getElem?_eq_some_iff.1 hx).1;simpa using this
 have key:(stL f)[0+i*4+k]?=some (yB x):=by
  match i,hi,k,hk with
  | 0,_,0,_=>exact congrArg (Option.map yB) hx
  | 0,_,1,_=>exact congrArg (Option.map yB) hx
  | 0,_,2,_=>exact congrArg (Option.map yB) hx
  | 0,_,3,_=>exact congrArg (Option.map yB) hx
  | 1,_,0,_=>exact congrArg (Option.map yB) hx
  | 1,_,1,_=>exact congrArg (Option.map yB) hx
  | 1,_,2,_=>exact congrArg (Option.map yB) hx
  | 1,_,3,_=>exact congrArg (Option.map yB) hx
  | 2,_,0,_=>exact congrArg (Option.map yB) hx
  | 2,_,1,_=>exact congrArg (Option.map yB) hx
  | 2,_,2,_=>exact congrArg (Option.map yB) hx
  | 2,_,3,_=>exact congrArg (Option.map yB) hx
  | 3,_,0,_=>exact congrArg (Option.map yB) hx
  | 3,_,1,_=>exact congrArg (Option.map yB) hx
  | 3,_,2,_=>exact congrArg (Option.map yB) hx
  | 3,_,3,_=>exact congrArg (Option.map yB) hx
  | 4,_,0,_=>exact congrArg (Option.map yB) hx
  | 4,_,1,_=>exact congrArg (Option.map yB) hx
  | 4,_,2,_=>exact congrArg (Option.map yB) hx
  | 4,_,3,_=>exact congrArg (Option.map yB) hx
  | 5,_,0,_=>exact congrArg (Option.map yB) hx
  | 5,_,1,_=>exact congrArg (Option.map yB) hx
  | 5,_,2,_=>exact congrArg (Option.map yB) hx
  | 5,_,3,_=>exact congrArg (Option.map yB) hx
 exact o.ld rfl zS key
theorem stL_row (o:Own Z b (stL f) n) {i:Nat} (hi:i<6) (x:Int):zQ Pg (evL [.pointer (some ⟨b,0+Int.toNat (i:Int)*4+1,none⟩),yB x]) Z (.store 3 (.tmp 0) (.tmp 1))=some (undef,Z.own b (stL (upd f i ⟨(f i).free,x,(f i).used,(f i).day⟩)) n):=by
 rw [Int.toNat_natCast];match i,hi with
 | 0,_=>exact o.store (k:=1) (vs:=[yB x]) rfl vG rfl (by simp [stL]) rfl
 | 1,_=>exact o.store (k:=5) (vs:=[yB x]) rfl vG rfl (by simp [stL]) rfl
 | 2,_=>exact o.store (k:=9) (vs:=[yB x]) rfl vG rfl (by simp [stL]) rfl
 | 3,_=>exact o.store (k:=13) (vs:=[yB x]) rfl vG rfl (by simp [stL]) rfl
 | 4,_=>exact o.store (k:=17) (vs:=[yB x]) rfl vG rfl (by simp [stL]) rfl
 | 5,_=>exact o.store (k:=21) (vs:=[yB x]) rfl vG rfl (by simp [stL]) rfl
theorem stL_free (o:Own Z b (stL f) n) {i:Nat} (hi:i<6) (x:Int):zQ Pg (evL [.pointer (some ⟨b,0+Int.toNat (i:Int)*4+0,none⟩),yB x]) Z (.store 3 (.tmp 0) (.tmp 1))=some (undef,Z.own b (stL (upd f i ⟨x,(f i).row,(f i).used,(f i).day⟩)) n):=by
 rw [Int.toNat_natCast];match i,hi with
 | 0,_=>exact o.store (k:=0) (vs:=[yB x]) rfl vG rfl (by simp [stL]) rfl
 | 1,_=>exact o.store (k:=4) (vs:=[yB x]) rfl vG rfl (by simp [stL]) rfl
 | 2,_=>exact o.store (k:=8) (vs:=[yB x]) rfl vG rfl (by simp [stL]) rfl
 | 3,_=>exact o.store (k:=12) (vs:=[yB x]) rfl vG rfl (by simp [stL]) rfl
 | 4,_=>exact o.store (k:=16) (vs:=[yB x]) rfl vG rfl (by simp [stL]) rfl
 | 5,_=>exact o.store (k:=20) (vs:=[yB x]) rfl vG rfl (by simp [stL]) rfl
end
section
variable {Z:St} {w:Wk} {p q:Option Addr} {l m c d Bp bm:Nat} {leaves:Bool} {wfv:Value}
def wN (w:Wk) (D j:Nat) (st:Nat->Std):Nat->Std:=fun k=>if k<j then zQK w D (st k) else st k
theorem yXY {D j:Nat} {st:Nat->Std}:upd (wN w D j st) j (zQK w D (st j))=wN w D (j+1) st:=by
 funext k;unfold upd wN;by_cases e:k=j
 ·subst e;rw [if_pos rfl,if_pos (by omega)]
 ·rw [if_neg e];by_cases h:k<j
  ·rw [if_pos h,if_pos (by omega)]
  ·rw [if_neg h,if_neg (by omega)]
theorem pastJ_all {D:Nat} {st:Nat->Std} (hm:w.drivers.length=m):wN w D m st=zCH w D st:=by
 funext k;unfold wN zCH;rw [hm]
theorem past_c {D:Nat} {st:Nat->Std} (hp:Row Z ⟨Bp,0,none⟩ (zTV w p l c q m d leaves wfv bm)) (hm:w.drivers.length=m) (hm6:m<=6) (hD:D<=7) (hrest:0<=w.rest/\w.rest<=3000):zD Pg 101 [.pointer (some ⟨Bp,0,none⟩),iV (D:Int),.agg ⟨stL st⟩] Z (.agg ⟨stL (zCH w D st)⟩) Z:=by
 obtain ⟨τ0,hτ0⟩:∃ τ0,τ0=(Z.re.row (stL st) 4).row zFU 4:=⟨_,rfl⟩;have N0:New Z.re τ0:=by rw [hτ0];exact (New.row _ _ _).row'
 have o1:Own τ0 Z.next (stL st) 4:=by rw [hτ0];exact (zC Z.re (stL st) 4).row
 have o2:Own τ0 (Z.next+1) (stL fun _=>zVA) 4:=by rw [hτ0,<- yBV];exact zC (Z.re.row (stL st) 4) zFU 4
 have hp':∀ {τ},Le Z τ->Row τ ⟨Bp,0,none⟩ (zTV w p l c q m d leaves wfv bm):=fun h=>hp.le h
 have hr0:Row τ0 ⟨Bp,0,none⟩ (zTV w p l c q m d leaves wfv bm):=hp' ((le0 Z).trans N0.le);have l1:zB Pg τ0 32 (zM ⟨Bp,0,none⟩ 2)=some (.slice q m d):=hr0.load1 uV rfl;rw [hτ0] at l1;have e0:stL st=stL (wN w D 0 st):=by congr 1
 refine (past_ra l1 (ySS (Inv:=fun k i τ=>New Z.re τ/\∃ j:Nat,i=j/\j+k=m/\Own τ Z.next (stL (wN w D j st)) 4/\Own τ (Z.next+1) (stL fun _=>zVA) 4)
  (Q0:=fun τ=>New Z.re τ/\Own τ Z.next (stL (zCH w D st)) 4/\Own τ (Z.next+1) (stL fun _=>zVA) 4) ?_ m 0 _ ⟨by rw [<- yBV] at *;exact hτ0 ▸ N0,0,rfl,by omega,by rw [<- e0];exact hτ0 ▸ o1,hτ0 ▸ o2⟩) ?_).pure
 ·rintro k i τ ⟨hN,j,rfl,hk,w1,w2⟩;have hlt:=w2.lt;by_cases hj:j<m
  ·have hj6:j<6:=by omega
   have ej:wN w D j st j=st j:=by unfold wN;rw [if_neg (by omega)]
   have ld:=yXK (k:=3) (x:=(st j).day) w1 hj6 (by rw [ej];rfl);by_cases hd:(st j).day=(D:Int)
   ·refine past_s1b ld ⟨k-1,by omega,hN,j+1,by omega,by omega, ?_,w2⟩ (by omega) (by omega) hd (by omega);have e1:wN w D (j+1) st=wN w D j st:=by
     rw [<- yXY];funext k';unfold upd;by_cases e:k'=j
     ·subst e;rw [if_pos rfl,ej];unfold zQK;rw [if_pos hd]
     ·rw [if_neg e]
    rw [e1];exact w1
   ·have st1:=stL_row w1 hj6 0;have k1:Own (τ.own Z.next (stL (upd (wN w D j st) j ⟨(wN w D j st j).free,0,(wN w D j st j).used,(wN w D j st j).day⟩)) 4) Z.next (stL (upd (wN w D j st) j ⟨(wN w D j st j).free,0,(wN w D j st j).used,(wN w D j st j).day⟩)) 4:=w1.put;obtain ⟨τ1,hτ1⟩:∃ τ1,τ1=τ.own Z.next (stL (upd (wN w D j st) j ⟨(wN w D j st j).free,0,(wN w D j st j).used,(wN w D j st j).day⟩)) 4:=⟨_,rfl⟩;rw [<- hτ1] at st1 k1;have N1:New Z.re τ1:=by rw [hτ1];exact hN.own (by show Z.next<=Z.next;omega)
    have u2:Own τ1 (Z.next+1) (stL fun _=>zVA) 4:=by rw [hτ1];exact w2.own (by omega)
    have eu:upd (wN w D j st) j ⟨(wN w D j st j).free,0,(wN w D j st j).used,(wN w D j st j).day⟩ j=⟨(st j).free,0,(st j).used,(st j).day⟩:=by unfold upd;rw [if_pos rfl,ej]
    have ld2:=yXK (k:=0) (x:=(st j).free) k1 hj6 (by rw [eu];rfl);have ld3:zB Pg τ1 3 (zM ⟨Bp,0,none⟩ 3)=some (iV w.rest):=(hp' ((le0 Z).trans N1.le)).load1 zS rfl;have kr:Row (τ1.row [iV (st j).free,iV (((D:Int)+1)*1440-w.rest)] 1) ⟨τ1.next,0,none⟩ [iV (st j).free,iV (((D:Int)+1)*1440-w.rest)]:=xP _ _ _;have cl:=latest_c (c:=2) kr;have st2:=stL_free (k1.row (ds:=[iV (st j).free,iV (((D:Int)+1)*1440-w.rest)]) (m:=1)) hj6 (max (st j).free (((D:Int)+1)*1440-w.rest));rw [eu] at st2;refine past_s1a ld st1 ld2 ld3 cl st2 ⟨k-1,by omega,N1.row'.own (by show Z.next<=Z.next;omega),j+1,by omega,by omega, ?_,(u2.row (ds:=[iV (st j).free,iV (((D:Int)+1)*1440-w.rest)]) (m:=1)).own (by omega)⟩ (by omega) (by omega) hd (by omega) (by omega) (by omega) (by omega);have e2:upd (upd (wN w D j st) j ⟨(wN w D j st j).free,0,(wN w D j st j).used,(wN w D j st j).day⟩) j ⟨max (st j).free (((D:Int)+1)*1440-w.rest),0,(st j).used,(st j).day⟩=wN w D (j+1) st:=by
     rw [<- yXY];funext k';unfold upd;by_cases e:k'=j
     ·rw [if_pos e,if_pos e];unfold zQK;rw [if_neg hd]
     ·rw [if_neg e,if_neg e,if_neg e]
    rw [<- e2];exact (k1.row (ds:=[iV (st j).free,iV (((D:Int)+1)*1440-w.rest)]) (m:=1)).put
  ·have:j=m:=by omega
   subst this;exact past_s1c ⟨hN,by rw [<- pastJ_all hm];exact w1,w2⟩ (by omega)
 ·rintro τ ⟨hN,w1,w2⟩;exact ySR (vZ w1) (zVK w2 _) (vZ w2.put) ⟨rfl,(hN.own (b:=Z.next+1) (n:=4) (cs:=stL (zCH w D st)) (by show Z.next<=Z.next+1;omega)).lw⟩
theorem idxQ_c {bq g:Nat} {gc:List Value} {R:Nat->Bool} (hq:Row Z ⟨bq,0,none⟩ yCS) (hc:∀ j:Nat,j<5->∀ τ,Le Z τ->zD Pg g (.agg ⟨[.int .u8 (j:Int),.func (.func (92+j)) ⟨[]⟩ ⟨[]⟩]⟩::gc) τ (.bool (R j)) τ) :
  ∃ n:Int,zD Pg 131 [.slice (some ⟨bq,0,none⟩) 5 5,.func (.func g) ⟨[]⟩ ⟨gc⟩] Z (iV n) Z/\(0<=n↔(List.range 5).any R=true):=by
 have hq0:=hq.re;by_cases h:(List.range 5).any R=true
 ·have hex:∃ j,j<5/\R j=true/\∀ i,i<j->R i=false:=by
   have:∃ j,j<5/\R j=true:=by
    obtain ⟨j,hj,e⟩:=List.any_eq_true.1 h;exact ⟨j,List.mem_range.1 hj,e⟩
   obtain ⟨j0,hj0,e0⟩:=this;have key:∀ n,(∃ j,j<n/\j<5/\R j=true)->∃ j,j<5/\R j=true/\∀ i,i<j->R i=false:=by
    intro n;induction n with
    | zero=>rintro ⟨j,h,_⟩;omega
    | succ n ih =>
     rintro ⟨j,h1,h2,h3⟩;by_cases hx:∃ j,j<n/\j<5/\R j=true
     ·exact ih hx
     ·have:j=n:=by
       by_cases e:j<n
       ·exact absurd ⟨j,e,h2,h3⟩ hx
       ·omega
      subst this;refine ⟨j,h2,h3,fun i hi=>?_⟩
      cases e:R i with
      | false=>rfl
      | true=>exact absurd ⟨i,hi,by omega,e⟩ hx
   exact key 5 ⟨j0,hj0,hj0,e0⟩
  obtain ⟨j0,hj0,e0,hb⟩:=hex;refine ⟨(j0:Int),(yYY (zYS (Inv:=fun k i τ=>τ=Z.re/\∃ j:Nat,i=j/\j+k=5/\j<=j0) (Qr:=fun x τ=>τ=Z.re/\x=(j0:Int)) (Q0:=fun τ=>False) ?_ 5 0 Z.re ⟨rfl,0,rfl,by omega,by omega⟩) (fun x τ h=>yUE ⟨by rw [h.2],by rw [h.1];exact Nat.le_refl _⟩) (fun τ h=>h.elim)).pure,⟨fun _=>h,fun _=>by omega⟩⟩
  rintro k i τ ⟨rfl,j,rfl,hk,hj⟩;have ld:=zVO hq0 (show j<5 by omega);have cc:=hc j (by omega) Z.re (le0 Z);by_cases e:j=j0
  ·subst e;rw [e0] at cc;exact idxQ_s1a ld cc ⟨rfl,rfl⟩ (by omega) (by omega)
  ·rw [hb j (by omega)] at cc;exact yNF ld cc ⟨k-1,by omega,rfl,j+1,by omega,by omega,by omega⟩ (by omega) (by omega) (by omega)
 ·have hb:∀ i,i<5->R i=false:=fun i hi=>by
   cases e:R i with
   | false=>rfl
   | true=>exact absurd (List.any_eq_true.2 ⟨i,List.mem_range.2 hi,e⟩) h
  refine ⟨-1,(yYY (zYS (Inv:=fun k i τ=>τ=Z.re/\∃ j:Nat,i=j/\j+k=5) (Qr:=fun x τ=>False) (Q0:=fun τ=>τ=Z.re) ?_ 5 0 Z.re ⟨rfl,0,rfl,by omega⟩) (fun x τ h=>h.elim) (fun τ h=>yUF ⟨rfl,by rw [h];exact Nat.le_refl _⟩)).pure,⟨fun e=>absurd e (by omega),fun e=>absurd e h⟩⟩
  rintro k i τ ⟨rfl,j,rfl,hk⟩;by_cases hj:j<5
  ·have ld:=zVO hq0 hj;have cc:=hc j hj Z.re (le0 Z);rw [hb j hj] at cc;exact yNF ld cc ⟨k-1,by omega,rfl,j+1,by omega,by omega⟩ (by omega) (by omega) (by omega)
  ·exact idxQ_s1c rfl (by omega)
theorem conQ_c {bq g:Nat} {gc:List Value} {R:Nat->Bool} (hq:Row Z ⟨bq,0,none⟩ yCS) (hc:∀ j:Nat,j<5->∀ τ,Le Z τ->zD Pg g (.agg ⟨[.int .u8 (j:Int),.func (.func (92+j)) ⟨[]⟩ ⟨[]⟩]⟩::gc) τ (.bool (R j)) τ) :
  zD Pg 126 [.slice (some ⟨bq,0,none⟩) 5 5,.func (.func g) ⟨[]⟩ ⟨gc⟩] Z (.bool ((List.range 5).any R)) Z:=by
 obtain ⟨n,c1,hn⟩:=idxQ_c (Z:=Z.re) (gc:=gc) hq.re (fun j hj τ hτ=>hc j hj τ ((le0 Z).trans hτ));cases e:(List.range 5).any R with
 | true=>exact (conQ_ra c1 ⟨rfl,Nat.le_refl _⟩ (hn.2 e)).pure
 | false=>exact (conQ_rb c1 ⟨rfl,Nat.le_refl _⟩ (fun h=>by rw [hn.1 h] at e;cases e)).pure
theorem allQ_c {bq g:Nat} {gc:List Value} {R:Nat->Bool} (hq:Row Z ⟨bq,0,none⟩ yCS) (hc:∀ j:Nat,j<5->∀ τ,Le Z τ->zD Pg g (.agg ⟨[.int .u8 (j:Int),.func (.func (92+j)) ⟨[]⟩ ⟨[]⟩]⟩::gc) τ (.bool (R j)) τ) :
  zD Pg 116 [.slice (some ⟨bq,0,none⟩) 5 5,.func (.func g) ⟨[]⟩ ⟨gc⟩] Z (.bool ((List.range 5).all R)) Z:=by
 obtain ⟨τ0,hτ0⟩:∃ τ0,τ0=Z.re.row [.func (.func g) ⟨[]⟩ ⟨gc⟩] 1:=⟨_,rfl⟩;have N0:New Z.re τ0:=by rw [hτ0];exact New.row _ _ _
 have o0:Row τ0 ⟨Z.next,0,none⟩ [.func (.func g) ⟨[]⟩ ⟨gc⟩]:=by rw [hτ0];exact xP _ _ _
 have L0:Le Z τ0:=(le0 Z).trans N0.le;have c1:=conQ_c (Z:=τ0) (g:=127) (gc:=[.pointer (some ⟨Z.next,0,none⟩)]) (R:=fun j=>!R j) (hq.le L0) (fun j hj τ hτ=>by
  have L1:Le τ0 (τ.re.row [.int .u8 (j:Int),.func (.func (92+j)) ⟨[]⟩ ⟨[]⟩] 2):=(hτ.trans (le0 τ)).trans (Le.row _ _ _);have ld:zB Pg (τ.re.row [.int .u8 (j:Int),.func (.func (92+j)) ⟨[]⟩ ⟨[]⟩] 2) 164 ⟨Z.next,0,none⟩=some (.func (.func g) ⟨[]⟩ ⟨gc⟩):=(o0.le L1).ld agg164 rfl;have cc:=hc j hj _ (L0.trans L1);cases e:R j with
  | true=>rw [e] at cc;exact (allQ1_ra ld cc ⟨rfl,Nat.le_refl _⟩).pure
  | false=>rw [e] at cc;exact (allQ1_rb ld cc ⟨rfl,Nat.le_refl _⟩).pure)
 have hall:(List.range 5).all R=!(List.range 5).any fun j=>!R j:=by
  rw [List.all_eq_not_any_not]
 rw [hall];rw [hτ0] at c1;cases e:(List.range 5).any fun j=>!R j with
 | true=>rw [e] at c1;exact (allQ_ra c1 ⟨rfl,Nat.le_refl _⟩).pure
 | false=>rw [e] at c1;exact (allQ_rb c1 ⟨rfl,Nat.le_refl _⟩).pure
theorem may_c {k i:Nat} {s:Std} (hp:Row Z ⟨Bp,0,none⟩ (zTV w p l c q m d leaves wfv bm)) (h:WkP Z 85 88 w p l q m) (hsh:zAQ w) (hk:k<m) (hi:i<l) (hs:StOk s) (hx:DtOk (dty w i)) (he:0<=(dty w i).hi/\(dty w i).hi<=1000000) :
  ∃ s',zD Pg 99 [.pointer (some ⟨Bp,0,none⟩),iV (k:Int),iV (i:Int),zOA s] Z (.tuple ⟨[zOA s',.bool (zGA w k i s)]⟩) Z/\(zGA w k i s=true->s'=take s (dty w i) (dty w i).hi):=by
 have hln:=h.len.1;obtain ⟨t0,ht0⟩:∃ t0,t0=((((Z.re.row [.pointer (some ⟨Bp,0,none⟩)] 1).row [iV (k:Int)] 1).row (zK s.free s.row s.used s.day) 4).row (zK 0 0 0 0) 4):=⟨_,rfl⟩;have N0:New Z.re t0:=by rw [ht0];exact (((New.row _ _ _).row').row').row'
 have x0:t0.next=Z.next+4:=by rw [ht0];rfl
 have L0:Le Z t0:=(le0 Z).trans N0.le;obtain ⟨t1,ht1⟩:∃ t1,t1=(t0.row (zF 0 0 0 0 0) 5).own (Z.next+4) (zF (dty w i).day (dty w i).on (dty w i).lo (dty w i).hi (dty w i).route) 5:=⟨_,rfl⟩;have N1:New Z.re t1:=by rw [ht1];exact N0.row'.own (by show Z.next<=Z.next+4;omega)
 have L1:Le Z t1:=(le0 Z).trans N1.le;have x1:t1.next=Z.next+5:=by rw [ht1];show t0.next+1=_;omega
 have r0:Row t0 ⟨Bp,0,none⟩ (zTV w p l c q m d leaves wfv bm):=hp.le L0;have oA:Row t1 ⟨Z.next,0,none⟩ [.pointer (some ⟨Bp,0,none⟩)]:=by rw [ht1,ht0];exact (xP Z.re [.pointer (some ⟨Bp,0,none⟩)] 1).row.row.row.row.own (by show Z.next≠_;omega)
 have oB:Row t1 ⟨Z.next+1,0,none⟩ [iV (k:Int)]:=by rw [ht1,ht0];exact (xP (Z.re.row [.pointer (some ⟨Bp,0,none⟩)] 1) [iV (k:Int)] 1).row.row.row.own (by show Z.next+1≠_;omega)
 have oC:Own t1 (Z.next+2) (zK s.free s.row s.used s.day) 4:=by rw [ht1,ht0];exact (zC ((Z.re.row [.pointer (some ⟨Bp,0,none⟩)] 1).row [iV (k:Int)] 1) (zK s.free s.row s.used s.day) 4).row.row.own (by show Z.next+2≠_;omega)
 have oD:Own t1 (Z.next+3) (zK 0 0 0 0) 4:=by rw [ht1,ht0];exact (zC (((Z.re.row [.pointer (some ⟨Bp,0,none⟩)] 1).row [iV (k:Int)] 1).row (zK s.free s.row s.used s.day) 4) (zK 0 0 0 0) 4).row.own (by show Z.next+3≠_;omega)
 have oE:Row t1 ⟨Z.next+4,0,none⟩ (zF (dty w i).day (dty w i).on (dty w i).lo (dty w i).hi (dty w i).route):=by
  rw [ht1,<- x0];exact ((zC t0 (zF 0 0 0 0 0) 5).put).rw
 obtain ⟨a,rfl,y,hy,ly⟩:=vF (SlV.le h.dty L0) hi;have gy:dty w i=y:=by unfold dty;rw [List.getD_eq_getElem?_getD,hy];rfl
 rw [<- gy] at ly;have l1:zB Pg t0 31 (zM ⟨Bp,0,none⟩ 1)=some (.slice (some a) l c):=r0.load1 zBB rfl;obtain ⟨bq,t2,kq,n2,hbq,rq⟩:=zTU (Z:=t1);have N2:New Z.re t2:=N1.trans n2;have L2:Le Z t2:=(le0 Z).trans N2.le;have oA2:=oA.le n2.le;have oB2:=oB.le n2.le;have oC2:=oC.le n2.le;have oD2:=oD.le n2.le;have oE2:=oE.le n2.le;have nx2:=n2.nx;have ca:=allQ_c (Z:=t2) (g:=117) (gc:=[.pointer (some ⟨Z.next,0,none⟩),.pointer (some ⟨Z.next+1,0,none⟩),.pointer (some ⟨Z.next+4,0,none⟩),.pointer (some ⟨Z.next+2,0,none⟩)]) (R:=fun j=>holds w j (drv w k) (dty w i) s) rq (fun j hj τ hτ=>by
  have LT:Le t2 (τ.re.row [.int .u8 (j:Int),.func (.func (92+j)) ⟨[]⟩ ⟨[]⟩] 2):=(hτ.trans (le0 τ)).trans (Le.row _ _ _);have LS:=L2.trans LT;have q1:zB Pg (τ.re.row [.int .u8 (j:Int),.func (.func (92+j)) ⟨[]⟩ ⟨[]⟩] 2) 125 ⟨Z.next,0,none⟩=some (.pointer (some ⟨Bp,0,none⟩)):=(oA2.le LT).ld uG rfl;have q2:zB Pg (τ.re.row [.int .u8 (j:Int),.func (.func (92+j)) ⟨[]⟩ ⟨[]⟩] 2) 34 ⟨Bp,0,none⟩=some (.agg ⟨wkc w.days (some a) l c q m d w.rest w.run w.hours⟩):=(hp.le LS).ldN (k:=0) xM yT (ds:=wkc w.days (some a) l c q m d w.rest w.run w.hours) rfl rfl (by simp);have q3:zB Pg (τ.re.row [.int .u8 (j:Int),.func (.func (92+j)) ⟨[]⟩ ⟨[]⟩] 2) 3 ⟨Z.next+1,0,none⟩=some (iV (k:Int)):=(oB2.le LT).ld zS rfl;have q4:zB Pg (τ.re.row [.int .u8 (j:Int),.func (.func (92+j)) ⟨[]⟩ ⟨[]⟩] 2) 85 ⟨Z.next+4,0,none⟩=some (.agg ⟨zF (dty w i).day (dty w i).on (dty w i).lo (dty w i).hi (dty w i).route⟩):=(oE2.le LT).ldN (k:=0) zOU vX rfl rfl (by simp);have q5:zB Pg (τ.re.row [.int .u8 (j:Int),.func (.func (92+j)) ⟨[]⟩ ⟨[]⟩] 2) 107 ⟨Z.next+2,0,none⟩=some (.agg ⟨zK s.free s.row s.used s.day⟩):=(oC2.le LT).ldN (k:=0) vN xB rfl rfl (by simp);have ck:=ask_c (c:=c) (d:=d) (h.le LS) hsh hk hs hx hj;exact (may1_ra q1 q2 q3 q4 q5 ck ⟨rfl,Nat.le_refl _⟩).pure)
 have q5:zB Pg t2 107 ⟨Z.next+2,0,none⟩=some (.agg ⟨zK s.free s.row s.used s.day⟩):=oC2.ldN (k:=0) vN xB rfl rfl (by simp);have stD:∀ {z:St} {x:Std},Own z (Z.next+3) (zK 0 0 0 0) 4->zQ Pg (evL [.pointer (some ⟨Z.next+3,0,none⟩),.agg ⟨zK x.free x.row x.used x.day⟩]) z (.store 107 (.tmp 0) (.tmp 1))=some (undef,z.own (Z.next+3) (zK x.free x.row x.used x.day) 4):=fun {z x} o =>
  o.store (k:=0) (vs:=zK x.free x.row x.used x.day) rfl xB rfl (by simp) rfl
 have ht0':=ht0;rw [ht1] at kq;rw [ht0] at l1 ly kq;cases hall:(List.range 5).all (fun j=>holds w j (drv w k) (dty w i) s) with
 | false =>
  rw [hall] at ca;have em:zGA w k i s=false:=by unfold zGA;rw [hall];rfl
  rw [em];have oD3:=oD2.put (ds:=zK s.free s.row s.used s.day);refine ⟨s,(may_rc l1 ly kq ca q5 (stD oD2) (oD3.ldN (k:=0) vN xB rfl rfl (by simp)) ⟨rfl,(N2.own (b:=Z.next+3) (n:=4) (cs:=zK s.free s.row s.used s.day) (by show Z.next<=Z.next+3;omega)).lw⟩ (by omega)).pure,fun e=>by cases e⟩
 | true =>
  rw [hall] at ca;have q6:zB Pg t2 85 ⟨Z.next+4,0,none⟩=some (.agg ⟨zF (dty w i).day (dty w i).on (dty w i).lo (dty w i).hi (dty w i).route⟩):=oE2.ldN (k:=0) zOU vX rfl rfl (by simp);have q7:zB Pg t2 3 ⟨Z.next+4,3,none⟩=some (iV (dty w i).hi):=oE2.ld zS rfl;have ck:=yGC (Z:=t2) (x:=dty w i) (e:=(dty w i).hi) hs hx (by omega);obtain ⟨s',hs'⟩:∃ s',s'=take s (dty w i) (dty w i).hi:=⟨_,rfl⟩;rw [<- hs'] at ck;have st2:zQ Pg (evL [.pointer (some ⟨Z.next+2,0,none⟩),.agg ⟨zK s'.free s'.row s'.used s'.day⟩]) t2 (.store 107 (.tmp 0) (.tmp 1))=some (undef,t2.own (Z.next+2) (zK s'.free s'.row s'.used s'.day) 4) :=
   oC2.store (k:=0) (vs:=zK s'.free s'.row s'.used s'.day) rfl xB rfl (by simp) rfl
  obtain ⟨t3,ht3⟩:∃ t3,t3=t2.own (Z.next+2) (zK s'.free s'.row s'.used s'.day) 4:=⟨_,rfl⟩;have oC3:Own t3 (Z.next+2) (zK s'.free s'.row s'.used s'.day) 4:=by rw [ht3];exact oC2.put
  have oA3:Row t3 ⟨Z.next,0,none⟩ [.pointer (some ⟨Bp,0,none⟩)]:=by rw [ht3];exact oA2.own (by show Z.next≠_;omega)
  have oD3:Own t3 (Z.next+3) (zK 0 0 0 0) 4:=by rw [ht3];exact oD2.own (by omega)
  have N3:New Z.re t3:=by rw [ht3];exact N2.own (by show Z.next<=Z.next+2;omega)
  have p3:Row t3 ⟨Bp,0,none⟩ (zTV w (some a) l c q m d leaves wfv bm):=hp.le ((le0 Z).trans N3.le);rw [<- ht3] at st2;obtain ⟨t4,ht4⟩:∃ t4,t4=t3.own (Z.next+3) (zK s'.free s'.row s'.used s'.day) 4:=⟨_,rfl⟩;have oD4:Own t4 (Z.next+3) (zK s'.free s'.row s'.used s'.day) 4:=by rw [ht4];exact oD3.put
  have oC4:Own t4 (Z.next+2) (zK s'.free s'.row s'.used s'.day) 4:=by rw [ht4];exact oC3.own (by omega)
  have oA4:Row t4 ⟨Z.next,0,none⟩ [.pointer (some ⟨Bp,0,none⟩)]:=by rw [ht4];exact oA3.own (by show Z.next≠_;omega)
  have N4:New Z.re t4:=by rw [ht4];exact N3.own (by show Z.next<=Z.next+3;omega)
  have p4:Row t4 ⟨Bp,0,none⟩ (zTV w (some a) l c q m d leaves wfv bm):=hp.le ((le0 Z).trans N4.le);have st4:=stD (x:=s') oD3;rw [<- ht4] at st4;have x23:t3.next=t2.next:=by rw [ht3];rfl
  have x3:Z.next+5<=t3.next:=by omega
  have x4:t4.next=t3.next:=by rw [ht4];rfl
  have hBp:=hp.lt;have hBp':Bp<Z.next:=hBp;have u3:zB Pg t3 3 (zM ⟨Bp,0,none⟩ 5)=some (iV w.hours):=p3.load1 zS rfl;have u4:zB Pg t4 3 (zM ⟨Bp,0,none⟩ 5)=some (iV w.hours):=p4.load1 zS rfl;have v3:zB Pg t3 3 ⟨Z.next+2,2,none⟩=some (iV s'.used):=oC3.rw.ld zS rfl;have v4:zB Pg t4 3 ⟨Z.next+2,2,none⟩=some (iV s'.used):=oC4.rw.ld zS rfl;have w3:zB Pg t3 125 ⟨Z.next,0,none⟩=some (.pointer (some ⟨Bp,0,none⟩)):=oA3.ld uG rfl;have w4:zB Pg t4 125 ⟨Z.next,0,none⟩=some (.pointer (some ⟨Bp,0,none⟩)):=oA4.ld uG rfl;have em:zGA w k i s=decide (s'.used<=w.hours):=by unfold zGA;rw [hall,hs'];rfl
  rw [em];have lC:zB Pg t3 107 ⟨Z.next+2,0,none⟩=some (.agg ⟨zK s'.free s'.row s'.used s'.day⟩):=oC3.ldN (k:=0) vN xB rfl rfl (by simp);have lD:zB Pg t4 107 ⟨Z.next+3,0,none⟩=some (.agg ⟨zK s'.free s'.row s'.used s'.day⟩):=oD4.ldN (k:=0) vN xB rfl rfl (by simp);have b1:∀ {x:Addr},x.block<t3.next->zJ t3.next [.pointer (some x)]:=fun h=>zE (zP h) zI
  have b2:zJ t3.next [.pointer (some ⟨Z.next+3,0,none⟩),.agg ⟨zK s'.free s'.row s'.used s'.day⟩]:=zE (zP (by show Z.next+3<_;omega)) (zE (yJ rfl) zI);by_cases hu:s'.used<=w.hours
  ·rw [decide_eq_true hu];exact ⟨s',(may_ra l1 ly kq ca q5 q6 q7 ck st2 lC v3 w3 u3 st4 (b1 (by show Z.next+2<_;omega)) (b1 (by show Z.next+2<_;omega)) (b1 (by show Z.next<_;omega)) (b1 (by show Bp<_;omega)) b2
    ⟨⟨by show Z.next+2<_;omega,rfl⟩,v3⟩ ⟨⟨by show Z.next+2<_;omega,rfl⟩,v4⟩ ⟨⟨by show Z.next<_;omega,rfl⟩,w3⟩ ⟨⟨by show Z.next<_;omega,rfl⟩,w4⟩ ⟨⟨by show Bp<_;omega,rfl⟩,u3⟩ ⟨⟨by show Bp<_;omega,rfl⟩,u4⟩ lD ⟨rfl,N4.lw⟩ (by omega) hu).pure,fun _=>hs'⟩
  ·rw [decide_eq_false hu];exact ⟨s',(may_rb l1 ly kq ca q5 q6 q7 ck st2 lC v3 w3 u3 st4 (b1 (by show Z.next+2<_;omega)) (b1 (by show Z.next+2<_;omega)) (b1 (by show Z.next<_;omega)) (b1 (by show Bp<_;omega)) b2
    ⟨⟨by show Z.next+2<_;omega,rfl⟩,v3⟩ ⟨⟨by show Z.next+2<_;omega,rfl⟩,v4⟩ ⟨⟨by show Z.next<_;omega,rfl⟩,w3⟩ ⟨⟨by show Z.next<_;omega,rfl⟩,w4⟩ ⟨⟨by show Bp<_;omega,rfl⟩,u3⟩ ⟨⟨by show Bp<_;omega,rfl⟩,u4⟩ lD ⟨rfl,N4.lw⟩ (by omega) hu).pure,fun e=>by cases e⟩
end
end Go.Proofs.YtgfiniccfpfplaaGreat
