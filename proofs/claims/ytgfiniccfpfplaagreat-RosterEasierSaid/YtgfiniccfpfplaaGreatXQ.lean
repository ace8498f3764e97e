import Derived.Test.YtgfiniccfpfplaaGreatRN
import Derived.Test.YtgfiniccfpfplaaGreatLayD
import Derived.Test.YtgfiniccfpfplaaGreatTy
set_option linter.unusedVariables false
set_option linter.unusedSimpArgs false
set_option maxRecDepth 20000
namespace Go.Proofs.YtgfiniccfpfplaaGreat
open Go Go.Lay
open Tryz renaming prog -> Pg
@[reducible] def zUH (w:Wk) (p:Option Addr) (l c:Nat) (q:Option Addr) (m d:Nat) (leaves:Bool) (wfv:Value) (bm:Nat):List Value:=[iV w.days,.slice p l c,.slice q m d,iV w.rest,iV w.run,iV w.hours,.bool leaves,wfv,.map (some bm)]
section
variable {Z:St} {b n:Nat} {f:Nat->Std}
theorem yZM (o:Own Z b (stL f) n) {i k:Nat} {x:Int} (hi:i<6) (hx:[(f i).free,(f i).row,(f i).used,(f i).day][k]?=some x):zB Pg Z 3 ⟨b,0+Int.toNat (i:Int)*4+k,none⟩=some (zY x):=by
 rw [Int.toNat_natCast];have hk:k<4:=by have:=(List.getElem?_eq_some_iff.1 hx).1;simpa using this
 have key:(stL f)[0+i*4+k]?=some (zY x):=by
  match i,hi,k,hk with
  | 0,_,0,_=>exact congrArg (Option.map zY) hx
  | 0,_,1,_=>exact congrArg (Option.map zY) hx
  | 0,_,2,_=>exact congrArg (Option.map zY) hx
  | 0,_,3,_=>exact congrArg (Option.map zY) hx
  | 1,_,0,_=>exact congrArg (Option.map zY) hx
  | 1,_,1,_=>exact congrArg (Option.map zY) hx
  | 1,_,2,_=>exact congrArg (Option.map zY) hx
  | 1,_,3,_=>exact congrArg (Option.map zY) hx
  | 2,_,0,_=>exact congrArg (Option.map zY) hx
  | 2,_,1,_=>exact congrArg (Option.map zY) hx
  | 2,_,2,_=>exact congrArg (Option.map zY) hx
  | 2,_,3,_=>exact congrArg (Option.map zY) hx
  | 3,_,0,_=>exact congrArg (Option.map zY) hx
  | 3,_,1,_=>exact congrArg (Option.map zY) hx
  | 3,_,2,_=>exact congrArg (Option.map zY) hx
  | 3,_,3,_=>exact congrArg (Option.map zY) hx
  | 4,_,0,_=>exact congrArg (Option.map zY) hx
  | 4,_,1,_=>exact congrArg (Option.map zY) hx
  | 4,_,2,_=>exact congrArg (Option.map zY) hx
  | 4,_,3,_=>exact congrArg (Option.map zY) hx
  | 5,_,0,_=>exact congrArg (Option.map zY) hx
  | 5,_,1,_=>exact congrArg (Option.map zY) hx
  | 5,_,2,_=>exact congrArg (Option.map zY) hx
  | 5,_,3,_=>exact congrArg (Option.map zY) hx
 exact o.ld rfl zU key
theorem xRA (o:Own Z b (stL f) n) {i:Nat} (hi:i<6) (x:Int):zQ Pg (evL [.pointer (some ⟨b,0+Int.toNat (i:Int)*4+1,none⟩),zY x]) Z (.store 3 (.tmp 0) (.tmp 1))=some (undef,Z.own b (stL (upd f i ⟨(f i).free,x,(f i).used,(f i).day⟩)) n):=by
 rw [Int.toNat_natCast];match i,hi with
 | 0,_=>exact o.store (k:=1) (vs:=[zY x]) rfl wE rfl (by simp [stL]) rfl
 | 1,_=>exact o.store (k:=5) (vs:=[zY x]) rfl wE rfl (by simp [stL]) rfl
 | 2,_=>exact o.store (k:=9) (vs:=[zY x]) rfl wE rfl (by simp [stL]) rfl
 | 3,_=>exact o.store (k:=13) (vs:=[zY x]) rfl wE rfl (by simp [stL]) rfl
 | 4,_=>exact o.store (k:=17) (vs:=[zY x]) rfl wE rfl (by simp [stL]) rfl
 | 5,_=>exact o.store (k:=21) (vs:=[zY x]) rfl wE rfl (by simp [stL]) rfl
theorem xIS (o:Own Z b (stL f) n) {i:Nat} (hi:i<6) (x:Int):zQ Pg (evL [.pointer (some ⟨b,0+Int.toNat (i:Int)*4+0,none⟩),zY x]) Z (.store 3 (.tmp 0) (.tmp 1))=some (undef,Z.own b (stL (upd f i ⟨x,(f i).row,(f i).used,(f i).day⟩)) n):=by
 rw [Int.toNat_natCast];match i,hi with
 | 0,_=>exact o.store (k:=0) (vs:=[zY x]) rfl wE rfl (by simp [stL]) rfl
 | 1,_=>exact o.store (k:=4) (vs:=[zY x]) rfl wE rfl (by simp [stL]) rfl
 | 2,_=>exact o.store (k:=8) (vs:=[zY x]) rfl wE rfl (by simp [stL]) rfl
 | 3,_=>exact o.store (k:=12) (vs:=[zY x]) rfl wE rfl (by simp [stL]) rfl
 | 4,_=>exact o.store (k:=16) (vs:=[zY x]) rfl wE rfl (by simp [stL]) rfl
 | 5,_=>exact o.store (k:=20) (vs:=[zY x]) rfl wE rfl (by simp [stL]) rfl
end
section
variable {Z:St} {w:Wk} {p q:Option Addr} {l m c d Bp bm:Nat} {leaves:Bool} {wfv:Value}
def wV (w:Wk) (D j:Nat) (st:Nat->Std):Nat->Std:=fun k=>if k<j then zPK w D (st k) else st k
theorem xAE {D j:Nat} {st:Nat->Std}:upd (wV w D j st) j (zPK w D (st j))=wV w D (j+1) st:=by
 funext k;unfold upd wV;by_cases e:k=j
 ·subst e;rw [if_pos rfl,if_pos (by omega)]
 ·rw [if_neg e];by_cases h:k<j
  ·rw [if_pos h,if_pos (by omega)]
  ·rw [if_neg h,if_neg (by omega)]
theorem xES {D:Nat} {st:Nat->Std} (hm:w.drivers.length=m):wV w D m st=zCG w D st:=by
 funext k;unfold wV zCG;rw [hm]
theorem xXF {D:Nat} {st:Nat->Std} (hp:Row Z ⟨Bp,0,none⟩ (zUH w p l c q m d leaves wfv bm)) (hm:w.drivers.length=m) (hm6:m<=6) (hD:D<=7) (hrest:0<=w.rest/\w.rest<=3000):zD Pg 101 [.pointer (some ⟨Bp,0,none⟩),iV (D:Int),.agg ⟨stL st⟩] Z (.agg ⟨stL (zCG w D st)⟩) Z:=by
 obtain ⟨τ0,hτ0⟩:∃ τ0,τ0=(Z.re.row (stL st) 4).row zER 4:=⟨_,rfl⟩;have N0:New Z.re τ0:=by rw [hτ0];exact (New.row _ _ _).row'
 have o1:Own τ0 Z.y (stL st) 4:=by rw [hτ0];exact (zC Z.re (stL st) 4).row
 have o2:Own τ0 (Z.y+1) (stL fun _=>zVQ) 4:=by rw [hτ0,<- yCW];exact zC (Z.re.row (stL st) 4) zER 4
 have hp':∀ {τ},Le Z τ->Row τ ⟨Bp,0,none⟩ (zUH w p l c q m d leaves wfv bm):=fun h=>hp.le h
 have hr0:Row τ0 ⟨Bp,0,none⟩ (zUH w p l c q m d leaves wfv bm):=hp' ((le0 Z).trans N0.le);have l1:zB Pg τ0 32 (zJ ⟨Bp,0,none⟩ 2)=some (.slice q m d):=hr0.load1 zAU rfl;rw [hτ0] at l1;have e0:stL st=stL (wV w D 0 st):=by congr 1
 refine (xSO l1 (yUM (Inv:=fun k i τ=>New Z.re τ/\∃ j:Nat,i=j/\j+k=m/\Own τ Z.y (stL (wV w D j st)) 4/\Own τ (Z.y+1) (stL fun _=>zVQ) 4)
  (Q0:=fun τ=>New Z.re τ/\Own τ Z.y (stL (zCG w D st)) 4/\Own τ (Z.y+1) (stL fun _=>zVQ) 4) ?_ m 0 _ ⟨by rw [<- yCW] at *;exact hτ0 ▸ N0,0,rfl,by omega,by rw [<- e0];exact hτ0 ▸ o1,hτ0 ▸ o2⟩) ?_).pure
 ·rintro k i τ ⟨hN,j,rfl,hk,w1,w2⟩;have hlt:=w2.lt;by_cases hj:j<m
  ·have hj6:j<6:=by omega
   have ej:wV w D j st j=st j:=by unfold wV;rw [if_neg (by omega)]
   have ld:=yZM (k:=3) (x:=(st j).day) w1 hj6 (by rw [ej];rfl);by_cases hd:(st j).day=(D:Int)
   ·refine xKJ ld ⟨k-1,by omega,hN,j+1,by omega,by omega, ?_,w2⟩ (by omega) (by omega) hd (by omega);have e1:wV w D (j+1) st=wV w D j st:=by
     rw [<- xAE];funext k';unfold upd;by_cases e:k'=j
     ·subst e;rw [if_pos rfl,ej];unfold zPK;rw [if_pos hd]
     ·rw [if_neg e]
    rw [e1];exact w1
   ·have st1:=xRA w1 hj6 0;have k1:Own (τ.own Z.y (stL (upd (wV w D j st) j ⟨(wV w D j st j).free,0,(wV w D j st j).used,(wV w D j st j).day⟩)) 4) Z.y (stL (upd (wV w D j st) j ⟨(wV w D j st j).free,0,(wV w D j st j).used,(wV w D j st j).day⟩)) 4:=w1.put;obtain ⟨τ1,hτ1⟩:∃ τ1,τ1=τ.own Z.y (stL (upd (wV w D j st) j ⟨(wV w D j st j).free,0,(wV w D j st j).used,(wV w D j st j).day⟩)) 4:=⟨_,rfl⟩;rw [<- hτ1] at st1 k1;have N1:New Z.re τ1:=by rw [hτ1];exact hN.own (by show Z.y<=Z.y;omega)
    have u2:Own τ1 (Z.y+1) (stL fun _=>zVQ) 4:=by rw [hτ1];exact w2.own (by omega)
    have eu:upd (wV w D j st) j ⟨(wV w D j st j).free,0,(wV w D j st j).used,(wV w D j st j).day⟩ j=⟨(st j).free,0,(st j).used,(st j).day⟩:=by unfold upd;rw [if_pos rfl,ej]
    have ld2:=yZM (k:=0) (x:=(st j).free) k1 hj6 (by rw [eu];rfl);have ld3:zB Pg τ1 3 (zJ ⟨Bp,0,none⟩ 3)=some (iV w.rest):=(hp' ((le0 Z).trans N1.le)).load1 zU rfl;have kr:Row (τ1.row [iV (st j).free,iV (((D:Int)+1)*1440-w.rest)] 1) ⟨τ1.y,0,none⟩ [iV (st j).free,iV (((D:Int)+1)*1440-w.rest)]:=xP _ _ _;have cl:=xMI (c:=2) kr;have st2:=xIS (k1.row (ds:=[iV (st j).free,iV (((D:Int)+1)*1440-w.rest)]) (m:=1)) hj6 (max (st j).free (((D:Int)+1)*1440-w.rest));rw [eu] at st2;refine xKK ld st1 ld2 ld3 cl st2 ⟨k-1,by omega,N1.row'.own (by show Z.y<=Z.y;omega),j+1,by omega,by omega, ?_,(u2.row (ds:=[iV (st j).free,iV (((D:Int)+1)*1440-w.rest)]) (m:=1)).own (by omega)⟩ (by omega) (by omega) hd (by omega) (by omega) (by omega) (by omega);have e2:upd (upd (wV w D j st) j ⟨(wV w D j st j).free,0,(wV w D j st j).used,(wV w D j st j).day⟩) j ⟨max (st j).free (((D:Int)+1)*1440-w.rest),0,(st j).used,(st j).day⟩=wV w D (j+1) st:=by
     rw [<- xAE];funext k';unfold upd;by_cases e:k'=j
     ·rw [if_pos e,if_pos e];unfold zPK;rw [if_neg hd]
     ·rw [if_neg e,if_neg e,if_neg e]
    rw [<- e2];exact (k1.row (ds:=[iV (st j).free,iV (((D:Int)+1)*1440-w.rest)]) (m:=1)).put
  ·have:j=m:=by omega
   subst this;exact xKI ⟨hN,by rw [<- xES hm];exact w1,w2⟩ (by omega)
 ·rintro τ ⟨hN,w1,w2⟩;exact yUL (uL w1) (zVU w2 _) (uL w2.put) ⟨rfl,(hN.own (b:=Z.y+1) (n:=4) (cs:=stL (zCG w D st)) (by show Z.y<=Z.y+1;omega)).lw⟩
theorem xXW {bq g:Nat} {gc:List Value} {R:Nat->Bool} (hq:Row Z ⟨bq,0,none⟩ yDU) (hc:∀ j:Nat,j<5->∀ τ,Le Z τ->zD Pg g (.agg ⟨[.int .u8 (j:Int),.func (.func (92+j)) ⟨[]⟩ ⟨[]⟩]⟩::gc) τ (.bool (R j)) τ) :
  ∃ n:Int,zD Pg 131 [.slice (some ⟨bq,0,none⟩) 5 5,.func (.func g) ⟨[]⟩ ⟨gc⟩] Z (iV n) Z/\(0<=n↔(List.range 5).any R=true):=by
 have hq0:=hq.re;by_cases h:(List.range 5).any R=true
 ·have hex:∃ j,j<5/\R j=true/\∀ i,i<j->R i=false:=by
   have:∃ j,j<5/\R j=true:=by
    obtain ⟨j,hj,e⟩:=List.any_eq_true.1 h;exact ⟨j,List.mem_range.1 hj,e⟩
   obtain ⟨j0,hj0,e0⟩:=this;have key:∀ n,(∃ j,j<n/\j<5/\R j=true)->∃ j,j<5/\R j=true/\∀ i,i<j->R i=false:=by
    intro n;induction n with
    | zero=>rintro ⟨j,h,_⟩;omega
    | succ n ih =>
     rintro ⟨j,h1,h2,h3⟩;by_cases hx:∃ j,j<n/\j<5/\R j=true
     ·exact ih hx
     ·have:j=n:=by
       by_cases e:j<n
       ·exact absurd ⟨j,e,h2,h3⟩ hx
       ·omega
      subst this;refine ⟨j,h2,h3,fun i hi=>?_⟩
      cases e:R i with
      | false=>rfl
      | true=>exact absurd ⟨i,hi,by omega,e⟩ hx
   exact key 5 ⟨j0,hj0,hj0,e0⟩
  obtain ⟨j0,hj0,e0,hb⟩:=hex;refine ⟨(j0:Int),(xBI (zZV (Inv:=fun k i τ=>τ=Z.re/\∃ j:Nat,i=j/\j+k=5/\j<=j0) (Qr:=fun x τ=>τ=Z.re/\x=(j0:Int)) (Q0:=fun τ=>False) ?_ 5 0 Z.re ⟨rfl,0,rfl,by omega,by omega⟩) (fun x τ h=>yWD ⟨by rw [h.2],by rw [h.1];exact Nat.le_refl _⟩) (fun τ h=>h.elim)).pure,⟨fun _=>h,fun _=>by omega⟩⟩
  rintro k i τ ⟨rfl,j,rfl,hk,hj⟩;have ld:=zVY hq0 (show j<5 by omega);have cc:=hc j (by omega) Z.re (le0 Z);by_cases e:j=j0
  ·subst e;rw [e0] at cc;exact xMZ ld cc ⟨rfl,rfl⟩ (by omega) (by omega)
  ·rw [hb j (by omega)] at cc;exact yOV ld cc ⟨k-1,by omega,rfl,j+1,by omega,by omega,by omega⟩ (by omega) (by omega) (by omega)
 ·have hb:∀ i,i<5->R i=false:=fun i hi=>by
   cases e:R i with
   | false=>rfl
   | true=>exact absurd (List.any_eq_true.2 ⟨i,List.mem_range.2 hi,e⟩) h
  refine ⟨-1,(xBI (zZV (Inv:=fun k i τ=>τ=Z.re/\∃ j:Nat,i=j/\j+k=5) (Qr:=fun x τ=>False) (Q0:=fun τ=>τ=Z.re) ?_ 5 0 Z.re ⟨rfl,0,rfl,by omega⟩) (fun x τ h=>h.elim) (fun τ h=>yWE ⟨rfl,by rw [h];exact Nat.le_refl _⟩)).pure,⟨fun e=>absurd e (by omega),fun e=>absurd e h⟩⟩
  rintro k i τ ⟨rfl,j,rfl,hk⟩;by_cases hj:j<5
  ·have ld:=zVY hq0 hj;have cc:=hc j hj Z.re (le0 Z);rw [hb j hj] at cc;exact yOV ld cc ⟨k-1,by omega,rfl,j+1,by omega,by omega⟩ (by omega) (by omega) (by omega)
  ·exact xMY rfl (by omega)
theorem xYE {bq g:Nat} {gc:List Value} {R:Nat->Bool} (hq:Row Z ⟨bq,0,none⟩ yDU) (hc:∀ j:Nat,j<5->∀ τ,Le Z τ->zD Pg g (.agg ⟨[.int .u8 (j:Int),.func (.func (92+j)) ⟨[]⟩ ⟨[]⟩]⟩::gc) τ (.bool (R j)) τ) :
  zD Pg 126 [.slice (some ⟨bq,0,none⟩) 5 5,.func (.func g) ⟨[]⟩ ⟨gc⟩] Z (.bool ((List.range 5).any R)) Z:=by
 obtain ⟨n,c1,hn⟩:=xXW (Z:=Z.re) (gc:=gc) hq.re (fun j hj τ hτ=>hc j hj τ ((le0 Z).trans hτ));cases e:(List.range 5).any R with
 | true=>exact (xTY c1 ⟨rfl,Nat.le_refl _⟩ (hn.2 e)).pure
 | false=>exact (xTX c1 ⟨rfl,Nat.le_refl _⟩ (fun h=>by rw [hn.1 h] at e;cases e)).pure
theorem xYL {bq g:Nat} {gc:List Value} {R:Nat->Bool} (hq:Row Z ⟨bq,0,none⟩ yDU) (hc:∀ j:Nat,j<5->∀ τ,Le Z τ->zD Pg g (.agg ⟨[.int .u8 (j:Int),.func (.func (92+j)) ⟨[]⟩ ⟨[]⟩]⟩::gc) τ (.bool (R j)) τ) :
  zD Pg 116 [.slice (some ⟨bq,0,none⟩) 5 5,.func (.func g) ⟨[]⟩ ⟨gc⟩] Z (.bool ((List.range 5).all R)) Z:=by
 obtain ⟨τ0,hτ0⟩:∃ τ0,τ0=Z.re.row [.func (.func g) ⟨[]⟩ ⟨gc⟩] 1:=⟨_,rfl⟩;have N0:New Z.re τ0:=by rw [hτ0];exact New.row _ _ _
 have o0:Row τ0 ⟨Z.y,0,none⟩ [.func (.func g) ⟨[]⟩ ⟨gc⟩]:=by rw [hτ0];exact xP _ _ _
 have L0:Le Z τ0:=(le0 Z).trans N0.le;have c1:=xYE (Z:=τ0) (g:=127) (gc:=[.pointer (some ⟨Z.y,0,none⟩)]) (R:=fun j=>!R j) (hq.le L0) (fun j hj τ hτ=>by
  have L1:Le τ0 (τ.re.row [.int .u8 (j:Int),.func (.func (92+j)) ⟨[]⟩ ⟨[]⟩] 2):=(hτ.trans (le0 τ)).trans (Le.row _ _ _);have ld:zB Pg (τ.re.row [.int .u8 (j:Int),.func (.func (92+j)) ⟨[]⟩ ⟨[]⟩] 2) 164 ⟨Z.y,0,none⟩=some (.func (.func g) ⟨[]⟩ ⟨gc⟩):=(o0.le L1).ld xYO rfl;have cc:=hc j hj _ (L0.trans L1);cases e:R j with
  | true=>rw [e] at cc;exact (xPO ld cc ⟨rfl,Nat.le_refl _⟩).pure
  | false=>rw [e] at cc;exact (xPN ld cc ⟨rfl,Nat.le_refl _⟩).pure)
 have hall:(List.range 5).all R=!(List.range 5).any fun j=>!R j:=by
  rw [List.all_eq_not_any_not]
 rw [hall];rw [hτ0] at c1;cases e:(List.range 5).any fun j=>!R j with
 | true=>rw [e] at c1;exact (xUW c1 ⟨rfl,Nat.le_refl _⟩).pure
 | false=>rw [e] at c1;exact (xUV c1 ⟨rfl,Nat.le_refl _⟩).pure
theorem xZL {k i:Nat} {s:Std} (hp:Row Z ⟨Bp,0,none⟩ (zUH w p l c q m d leaves wfv bm)) (h:WkP Z 85 88 w p l q m) (hsh:zBC w) (hk:k<m) (hi:i<l) (hs:StOk s) (hx:DtOk (dtQ w i)) (he:0<=(dtQ w i).hi/\(dtQ w i).hi<=1000000) :
  ∃ s',zD Pg 99 [.pointer (some ⟨Bp,0,none⟩),iV (k:Int),iV (i:Int),zMH s] Z (.tuple ⟨[zMH s',.bool (zEW w k i s)]⟩) Z/\(zEW w k i s=true->s'=take s (dtQ w i) (dtQ w i).hi):=by
 have hln:=h.len.1;obtain ⟨t0,ht0⟩:∃ t0,t0=((((Z.re.row [.pointer (some ⟨Bp,0,none⟩)] 1).row [iV (k:Int)] 1).row (zL s.free s.row s.used s.day) 4).row (zL 0 0 0 0) 4):=⟨_,rfl⟩;have N0:New Z.re t0:=by rw [ht0];exact (((New.row _ _ _).row').row').row'
 have x0:t0.y=Z.y+4:=by rw [ht0];rfl
 have L0:Le Z t0:=(le0 Z).trans N0.le;obtain ⟨t1,ht1⟩:∃ t1,t1=(t0.row (zF 0 0 0 0 0) 5).own (Z.y+4) (zF (dtQ w i).day (dtQ w i).on (dtQ w i).lo (dtQ w i).hi (dtQ w i).route) 5:=⟨_,rfl⟩;have N1:New Z.re t1:=by rw [ht1];exact N0.row'.own (by show Z.y<=Z.y+4;omega)
 have L1:Le Z t1:=(le0 Z).trans N1.le;have x1:t1.y=Z.y+5:=by rw [ht1];show t0.y+1=_;omega
 have r0:Row t0 ⟨Bp,0,none⟩ (zUH w p l c q m d leaves wfv bm):=hp.le L0;have oA:Row t1 ⟨Z.y,0,none⟩ [.pointer (some ⟨Bp,0,none⟩)]:=by rw [ht1,ht0];exact (xP Z.re [.pointer (some ⟨Bp,0,none⟩)] 1).row.row.row.row.own (by show Z.y≠_;omega)
 have oB:Row t1 ⟨Z.y+1,0,none⟩ [iV (k:Int)]:=by rw [ht1,ht0];exact (xP (Z.re.row [.pointer (some ⟨Bp,0,none⟩)] 1) [iV (k:Int)] 1).row.row.row.own (by show Z.y+1≠_;omega)
 have oC:Own t1 (Z.y+2) (zL s.free s.row s.used s.day) 4:=by rw [ht1,ht0];exact (zC ((Z.re.row [.pointer (some ⟨Bp,0,none⟩)] 1).row [iV (k:Int)] 1) (zL s.free s.row s.used s.day) 4).row.row.own (by show Z.y+2≠_;omega)
 have oD:Own t1 (Z.y+3) (zL 0 0 0 0) 4:=by rw [ht1,ht0];exact (zC (((Z.re.row [.pointer (some ⟨Bp,0,none⟩)] 1).row [iV (k:Int)] 1).row (zL s.free s.row s.used s.day) 4) (zL 0 0 0 0) 4).row.own (by show Z.y+3≠_;omega)
 have oE:Row t1 ⟨Z.y+4,0,none⟩ (zF (dtQ w i).day (dtQ w i).on (dtQ w i).lo (dtQ w i).hi (dtQ w i).route):=by
  rw [ht1,<- x0];exact ((zC t0 (zF 0 0 0 0 0) 5).put).rw
 obtain ⟨a,rfl,y,hy,ly⟩:=wZ (SlV.le h.dty L0) hi;have gy:dtQ w i=y:=by unfold dtQ;rw [List.getD_eq_getElem?_getD,hy];rfl
 rw [<- gy] at ly;have l1:zB Pg t0 31 (zJ ⟨Bp,0,none⟩ 1)=some (.slice (some a) l c):=r0.load1 zAV rfl;obtain ⟨bq,t2,kq,n2,hbq,rq⟩:=zUG (Z:=t1);have N2:New Z.re t2:=N1.trans n2;have L2:Le Z t2:=(le0 Z).trans N2.le;have oA2:=oA.le n2.le;have oB2:=oB.le n2.le;have oC2:=oC.le n2.le;have oD2:=oD.le n2.le;have oE2:=oE.le n2.le;have nx2:=n2.nx;have ca:=xYL (Z:=t2) (g:=117) (gc:=[.pointer (some ⟨Z.y,0,none⟩),.pointer (some ⟨Z.y+1,0,none⟩),.pointer (some ⟨Z.y+4,0,none⟩),.pointer (some ⟨Z.y+2,0,none⟩)]) (R:=fun j=>holds w j (drQ w k) (dtQ w i) s) rq (fun j hj τ hτ=>by
  have LT:Le t2 (τ.re.row [.int .u8 (j:Int),.func (.func (92+j)) ⟨[]⟩ ⟨[]⟩] 2):=(hτ.trans (le0 τ)).trans (Le.row _ _ _);have LS:=L2.trans LT;have q1:zB Pg (τ.re.row [.int .u8 (j:Int),.func (.func (92+j)) ⟨[]⟩ ⟨[]⟩] 2) 125 ⟨Z.y,0,none⟩=some (.pointer (some ⟨Bp,0,none⟩)):=(oA2.le LT).ld uV rfl;have q2:zB Pg (τ.re.row [.int .u8 (j:Int),.func (.func (92+j)) ⟨[]⟩ ⟨[]⟩] 2) 34 ⟨Bp,0,none⟩=some (.agg ⟨wkc w.days (some a) l c q m d w.rest w.run w.hours⟩):=(hp.le LS).ldN (k:=0) xV xB (ds:=wkc w.days (some a) l c q m d w.rest w.run w.hours) rfl rfl (by simp);have q3:zB Pg (τ.re.row [.int .u8 (j:Int),.func (.func (92+j)) ⟨[]⟩ ⟨[]⟩] 2) 3 ⟨Z.y+1,0,none⟩=some (iV (k:Int)):=(oB2.le LT).ld zU rfl;have q4:zB Pg (τ.re.row [.int .u8 (j:Int),.func (.func (92+j)) ⟨[]⟩ ⟨[]⟩] 2) 85 ⟨Z.y+4,0,none⟩=some (.agg ⟨zF (dtQ w i).day (dtQ w i).on (dtQ w i).lo (dtQ w i).hi (dtQ w i).route⟩):=(oE2.le LT).ldN (k:=0) zNB uK rfl rfl (by simp);have q5:zB Pg (τ.re.row [.int .u8 (j:Int),.func (.func (92+j)) ⟨[]⟩ ⟨[]⟩] 2) 107 ⟨Z.y+2,0,none⟩=some (.agg ⟨zL s.free s.row s.used s.day⟩):=(oC2.le LT).ldN (k:=0) vX xG rfl rfl (by simp);have ck:=xVW (c:=c) (d:=d) (h.le LS) hsh hk hs hx hj;exact (xTA q1 q2 q3 q4 q5 ck ⟨rfl,Nat.le_refl _⟩).pure)
 have q5:zB Pg t2 107 ⟨Z.y+2,0,none⟩=some (.agg ⟨zL s.free s.row s.used s.day⟩):=oC2.ldN (k:=0) vX xG rfl rfl (by simp);have stD:∀ {z:St} {x:Std},Own z (Z.y+3) (zL 0 0 0 0) 4->zQ Pg (evL [.pointer (some ⟨Z.y+3,0,none⟩),.agg ⟨zL x.free x.row x.used x.day⟩]) z (.store 107 (.tmp 0) (.tmp 1))=some (undef,z.own (Z.y+3) (zL x.free x.row x.used x.day) 4):=fun {z x} o =>
  o.store (k:=0) (vs:=zL x.free x.row x.used x.day) rfl xG rfl (by simp) rfl
 have ht0':=ht0;rw [ht1] at kq;rw [ht0] at l1 ly kq;cases hall:(List.range 5).all (fun j=>holds w j (drQ w k) (dtQ w i) s) with
 | false =>
  rw [hall] at ca;have em:zEW w k i s=false:=by unfold zEW;rw [hall];rfl
  rw [em];have oD3:=oD2.put (ds:=zL s.free s.row s.used s.day);refine ⟨s,(xXO l1 ly kq ca q5 (stD oD2) (oD3.ldN (k:=0) vX xG rfl rfl (by simp)) ⟨rfl,(N2.own (b:=Z.y+3) (n:=4) (cs:=zL s.free s.row s.used s.day) (by show Z.y<=Z.y+3;omega)).lw⟩ (by omega)).pure,fun e=>by cases e⟩
 | true =>
  rw [hall] at ca;have q6:zB Pg t2 85 ⟨Z.y+4,0,none⟩=some (.agg ⟨zF (dtQ w i).day (dtQ w i).on (dtQ w i).lo (dtQ w i).hi (dtQ w i).route⟩):=oE2.ldN (k:=0) zNB uK rfl rfl (by simp);have q7:zB Pg t2 3 ⟨Z.y+4,3,none⟩=some (iV (dtQ w i).hi):=oE2.ld zU rfl;have ck:=yHE (Z:=t2) (x:=dtQ w i) (e:=(dtQ w i).hi) hs hx (by omega);obtain ⟨s',hs'⟩:∃ s',s'=take s (dtQ w i) (dtQ w i).hi:=⟨_,rfl⟩;rw [<- hs'] at ck;have st2:zQ Pg (evL [.pointer (some ⟨Z.y+2,0,none⟩),.agg ⟨zL s'.free s'.row s'.used s'.day⟩]) t2 (.store 107 (.tmp 0) (.tmp 1))=some (undef,t2.own (Z.y+2) (zL s'.free s'.row s'.used s'.day) 4) :=
   oC2.store (k:=0) (vs:=zL s'.free s'.row s'.used s'.day) rfl xG rfl (by simp) rfl
  obtain ⟨t3,ht3⟩:∃ t3,t3=t2.own (Z.y+2) (zL s'.free s'.row s'.used s'.day) 4:=⟨_,rfl⟩;have oC3:Own t3 (Z.y+2) (zL s'.free s'.row s'.used s'.day) 4:=by rw [ht3];exact oC2.put
  have oA3:Row t3 ⟨Z.y,0,none⟩ [.pointer (some ⟨Bp,0,none⟩)]:=by rw [ht3];exact oA2.own (by show Z.y≠_;omega)
  have oD3:Own t3 (Z.y+3) (zL 0 0 0 0) 4:=by rw [ht3];exact oD2.own (by omega)
  have N3:New Z.re t3:=by rw [ht3];exact N2.own (by show Z.y<=Z.y+2;omega)
  have p3:Row t3 ⟨Bp,0,none⟩ (zUH w (some a) l c q m d leaves wfv bm):=hp.le ((le0 Z).trans N3.le);rw [<- ht3] at st2;obtain ⟨t4,ht4⟩:∃ t4,t4=t3.own (Z.y+3) (zL s'.free s'.row s'.used s'.day) 4:=⟨_,rfl⟩;have oD4:Own t4 (Z.y+3) (zL s'.free s'.row s'.used s'.day) 4:=by rw [ht4];exact oD3.put
  have oC4:Own t4 (Z.y+2) (zL s'.free s'.row s'.used s'.day) 4:=by rw [ht4];exact oC3.own (by omega)
  have oA4:Row t4 ⟨Z.y,0,none⟩ [.pointer (some ⟨Bp,0,none⟩)]:=by rw [ht4];exact oA3.own (by show Z.y≠_;omega)
  have N4:New Z.re t4:=by rw [ht4];exact N3.own (by show Z.y<=Z.y+3;omega)
  have p4:Row t4 ⟨Bp,0,none⟩ (zUH w (some a) l c q m d leaves wfv bm):=hp.le ((le0 Z).trans N4.le);have st4:=stD (x:=s') oD3;rw [<- ht4] at st4;have x23:t3.y=t2.y:=by rw [ht3];rfl
  have x3:Z.y+5<=t3.y:=by omega
  have x4:t4.y=t3.y:=by rw [ht4];rfl
  have hBp:=hp.lt;have hBp':Bp<Z.y:=hBp;have u3:zB Pg t3 3 (zJ ⟨Bp,0,none⟩ 5)=some (iV w.hours):=p3.load1 zU rfl;have u4:zB Pg t4 3 (zJ ⟨Bp,0,none⟩ 5)=some (iV w.hours):=p4.load1 zU rfl;have v3:zB Pg t3 3 ⟨Z.y+2,2,none⟩=some (iV s'.used):=oC3.rw.ld zU rfl;have v4:zB Pg t4 3 ⟨Z.y+2,2,none⟩=some (iV s'.used):=oC4.rw.ld zU rfl;have w3:zB Pg t3 125 ⟨Z.y,0,none⟩=some (.pointer (some ⟨Bp,0,none⟩)):=oA3.ld uV rfl;have w4:zB Pg t4 125 ⟨Z.y,0,none⟩=some (.pointer (some ⟨Bp,0,none⟩)):=oA4.ld uV rfl;have em:zEW w k i s=decide (s'.used<=w.hours):=by unfold zEW;rw [hall,hs'];rfl
  rw [em];have lC:zB Pg t3 107 ⟨Z.y+2,0,none⟩=some (.agg ⟨zL s'.free s'.row s'.used s'.day⟩):=oC3.ldN (k:=0) vX xG rfl rfl (by simp);have lD:zB Pg t4 107 ⟨Z.y+3,0,none⟩=some (.agg ⟨zL s'.free s'.row s'.used s'.day⟩):=oD4.ldN (k:=0) vX xG rfl rfl (by simp);have b1:∀ {x:Addr},x.block<t3.y->zH t3.y [.pointer (some x)]:=fun h=>zE (zO h) zI
  have b2:zH t3.y [.pointer (some ⟨Z.y+3,0,none⟩),.agg ⟨zL s'.free s'.row s'.used s'.day⟩]:=zE (zO (by show Z.y+3<_;omega)) (zE (yK rfl) zI);by_cases hu:s'.used<=w.hours
  ·rw [decide_eq_true hu];exact ⟨s',(xXQ ⟨l1,ly,kq,ca,q5,q6,q7,ck,st2,lC,v3,w3,u3,st4,(b1 (by show Z.y+2<_;omega)),(b1 (by show Z.y+2<_;omega)),(b1 (by show Z.y<_;omega)),(b1 (by show Bp<_;omega)),b2,⟨⟨by show Z.y+2<_;omega,rfl⟩,v3⟩,⟨⟨by show Z.y+2<_;omega,rfl⟩,v4⟩,⟨⟨by show Z.y<_;omega,rfl⟩,w3⟩,⟨⟨by show Z.y<_;omega,rfl⟩,w4⟩,⟨⟨by show Bp<_;omega,rfl⟩,u3⟩,⟨⟨by show Bp<_;omega,rfl⟩,u4⟩,lD⟩ ⟨rfl,N4.lw⟩ (by omega) hu).pure,fun _=>hs'⟩
  ·rw [decide_eq_false hu];exact ⟨s',(xXP ⟨l1,ly,kq,ca,q5,q6,q7,ck,st2,lC,v3,w3,u3,st4,(b1 (by show Z.y+2<_;omega)),(b1 (by show Z.y+2<_;omega)),(b1 (by show Z.y<_;omega)),(b1 (by show Bp<_;omega)),b2,⟨⟨by show Z.y+2<_;omega,rfl⟩,v3⟩,⟨⟨by show Z.y+2<_;omega,rfl⟩,v4⟩,⟨⟨by show Z.y<_;omega,rfl⟩,w3⟩,⟨⟨by show Z.y<_;omega,rfl⟩,w4⟩,⟨⟨by show Bp<_;omega,rfl⟩,u3⟩,⟨⟨by show Bp<_;omega,rfl⟩,u4⟩,lD⟩ ⟨rfl,N4.lw⟩ (by omega) hu).pure,fun e=>by cases e⟩
end
def zRB (Z:St) (p:Option Addr) (l:Nat) (rs:List (List Int)):Prop:=∃ vs:List Value,SlV Pg Z 26 1 p l vs/\rs.length=l/\∀ (i:Nat) (r:List Int),rs[i]?=some r->∃ q c,vs[i]?=some (Value.slice q r.length c)/\yG Z q r.length r
section
variable {Z:St}
theorem zRB.le {Z':St} {p:Option Addr} {l:Nat} {rs:List (List Int)} (h:zRB Z p l rs) (k:Le Z Z'):zRB Z' p l rs:=by
 obtain ⟨vs,h1,h2,h3⟩:=h;exact ⟨vs,h1.le k,h2,fun i r hi=>by obtain ⟨q,c,g1,g2⟩:=h3 i r hi;exact ⟨q,c,g1,g2.le k⟩⟩
theorem zRB.len {p:Option Addr} {l:Nat} {rs:List (List Int)} (h:zRB Z p l rs):rs.length=l:=h.choose_spec.2.1
theorem zRB.row {p:Option Addr} {l i:Nat} {rs:List (List Int)} (h:zRB Z p l rs) (hi:i<l):∃ a,p=some a/\∃ r q c,rs[i]?=some r/\(∀ τ,Le Z τ->zB Pg τ 26 (zJ a (Int.toNat (i:Int)*1))=some (.slice q r.length c))/\yG Z q r.length r:=by
 obtain ⟨vs,h1,h2,h3⟩:=h;obtain ⟨a,rfl,_⟩:=h1.some hi;obtain ⟨q,c,g1,g2⟩:=h3 i rs[i] (by simp);exact ⟨a,rfl,rs[i],q,c,by simp,fun τ hτ=>(h1.le hτ).at rfl g1,g2⟩
theorem zWR (zs:List Value):∀ N,(yZ zs N).length=N*zs.length
 | 0=>by simp [yZ]
 | N+1=>by simp [yZ,zWR zs N,Nat.add_mul];omega
theorem zTQ {zs:List Value} (h:zs.all cellB=true):∀ N,(yZ zs N).all cellB=true
 | 0=>by simp [yZ]
 | N+1=>by simp only [yZ,List.all_append,zTQ h N,h,Bool.and_self]
theorem xNY {α:Type} {f:α->Value} (hf:∀ x,(f x).cells.toList.all cellB=true) (r:List α):(xF (r.map f)).all cellB=true:=by
 induction r with
 | nil=>rfl
 | cons x r ih=>rw [List.map_cons,show f x::r.map f=[f x]++r.map f from rfl,zCK,List.all_append,ih,Bool.and_true];simpa [xF] using hf x

theorem xTM {N:Nat} (hN:N<=1073741824):∃ p c Z',zD Pg 120 [.slice none 0 0,iV (N:Int)] Z (.slice p 0 c) Z'/\New Z Z'/\Buf Z' Z.y 1 N p 0 c []:=by
 have k0:yR Pg (evL [.slice none 0 0]) Z.re (.call { callee:=.builtin .cap,args:=⟨xJ 1⟩,argTypes:=⟨[26]⟩ })=some (iV 0):=by kernel_rfl
 suffices hmain:zP Pg 120 [.slice none 0 0,iV (N:Int)] Z.re fun v s=>New Z.re s/\∃ p c,v=.slice p 0 c/\Buf s Z.y 1 N p 0 c [] by
  obtain ⟨v,Z',h1,h2,p,c,rfl,h3⟩:=zP.new hmain (by rintro v s s' ⟨p,c,rfl,h⟩ hl;exact ⟨p,c,rfl,h.le hl⟩) (by
   rintro v s hr ⟨p,c,rfl,h⟩;refine ⟨p,c,rfl, ?_⟩
   rcases h with ⟨rfl,e1,_,e2,_⟩ | ⟨b,bc,rfl,_⟩
   ·exact .inl ⟨rfl,e1,rfl,e2,rfl⟩
   ·exact Bool.noConfusion (show false=true from hr))
  exact ⟨p,c,Z',h1,h2,h3⟩
 rcases Nat.eq_zero_or_pos N with h0 | h0
 ·subst h0;exact xNN k0 ⟨New.refl _,none,0,rfl,Buf.nil⟩
 have hz:∃ ei z,Pg.info? 3=some ei/\ei.zero=some z/\ei.bytes<=4096/\zW RD z=true/\Nat.beq z.cells.toList.length 1=true/\z.cells.toList=[iV 0]:=⟨_,_,rfl,rfl,by decide,rfl,rfl,rfl⟩;obtain ⟨ei,z,hei,hz,hby,hrz,hzl,hzz⟩:=hz;have hzc:(yZ z.cells.toList N).length=N*1:=by rw [hzz];exact zWR _ N
 have hcb:(yZ z.cells.toList N).all cellB=true:=by rw [hzz];exact zTQ rfl N
 have g:=xNM (P:=Pg) (Z:=Z.re) (st:=26) (xt:=3) (e:=3) (n:=1) (N:=N) (k:=.i64) (q:=.i64) (z:=z) (by kernel_rfl) (by kernel_rfl) hei hz hby hrz hzl (by omega) hN h0 hzc hcb;have o:Own (Z.re.row (yZ z.cells.toList N) 1) Z.y (yZ z.cells.toList N) 1:=zC _ _ _;have s3:vA Pg Z.re 26 (.slice none 0 0) none (some (iV 0)) none=some (.slice none 0 0):=by kernel_rfl
 obtain ⟨c6,s6,e6⟩:=ySL (P:=Pg) (t:=26) (e:=3) (N:=N) (c:=N+wY) (q:=.i64) (by kernel_rfl) (by kernel_rfl) o h0 (uT N) (zFA N);exact xNO k0 k0 s3 (by simpa using g) (by simpa using s6) ⟨New.row _ _ _,some ⟨Z.y,0,none⟩,c6,rfl,.inr ⟨Z.y,_,rfl,e6,o,hzc,Nat.zero_le _,by simp,Nat.le_refl _,h0⟩⟩
theorem xTU {p:Option Addr} {l c:Nat} {rs:List (List Int)} (h:zRB Z p l rs) (hl:l<=1073741824) (hN:rs.flatten.length<=1073741824) :
  ∃ p' c' Z',zD Pg 104 [.slice p l c] Z (.slice p' rs.flatten.length c') Z'/\New Z Z'/\yG Z' p' rs.flatten.length rs.flatten/\∀ b,AtP p' b->Z.y<=b:=by
 have hlen:=h.len;have h0:=h.le (le0 Z);have hsum:∀ s,((rs.take s).flatten).length<=rs.flatten.length:=fun s=>by
  have e:rs.flatten.length=((rs.take s).flatten).length+((rs.drop s).flatten).length:=by rw [<- List.length_append,<- List.flatten_append,List.take_append_drop]
  omega
 refine zP.newSl (xOQ (P0:=fun n τ=>τ=Z.re/\n=(rs.flatten.length:Int)) (yQD (Inv:=fun k n i τ=>∃ s:Nat,i=s/\s+k=l/\τ=Z.re/\n=(((rs.take s).flatten).length:Int)) ?_ l 0 0 Z.re ⟨0,rfl,by omega,rfl,by simp⟩) ?_)
 ·rintro k n i τ ⟨s,rfl,hk,rfl,rfl⟩;by_cases hs:s<l;rotate_left
  ·exact xGQ ⟨rfl,by rw [List.take_of_length_le (by omega)]⟩ (by omega)
  obtain ⟨a,rfl,r,q,d,hr,ld,hq⟩:=h0.row hs;have e1:((rs.take (s+1)).flatten).length=((rs.take s).flatten).length+r.length:=by rw [wD hr];simp
  have:=hsum (s+1);exact xGR (ld _ (Le.refl _)) ⟨k-1,by omega,s+1,by omega,by omega,rfl,by rw [e1];omega⟩ (by omega) (by omega) (by omega) (by omega) (by omega)
 ·rintro n τ ⟨rfl,rfl⟩;obtain ⟨p1,c1,Z1,k1,n1,b1⟩:=xTM (Z:=Z.re) (N:=rs.flatten.length) hN;refine yQB k1 (P2:=fun p' l' c' τ=>l'=rs.flatten.length/\New Z.re τ/\Buf τ Z.y 1 rs.flatten.length p' l' c' (xF (rs.flatten.map zY))) (yQC (Inv:=fun k p' l' c' i τ=>∃ s:Nat,i=s/\s+k=l/\l'=((rs.take s).flatten).length/\New Z.re τ/\Buf τ Z.y 1 rs.flatten.length p' l' c' (xF (((rs.take s).flatten).map zY))) ?_ l p1 0 c1 0 Z1 ⟨0,rfl,by omega,rfl,n1,by simpa [xF] using b1⟩) ?_
  ·rintro k p' l' c' i τ ⟨s,rfl,hk,rfl,hNw,hb⟩;by_cases hs:s<l;rotate_left
   ·rw [List.take_of_length_le (by omega)] at hb ⊢;exact xGO ⟨rfl,hNw,hb⟩ (by omega)
   obtain ⟨a,rfl,r,q,d,hr,ld,hq⟩:=(h0.le hNw.le).row hs;have e1:((rs.take (s+1)).flatten).length=((rs.take s).flatten).length+r.length:=by rw [wD hr];simp
   have:=hsum (s+1);obtain ⟨τ2,g1,g2,g3,g4,g5⟩:=hb.push (P:=Pg) (st:=26) (xt:=26) (e:=3) (m:=r.length) (d:=d) (q:=q) (xs:=xF (r.map zY)) (zME (by kernel_rfl)) hq.1 (by omega) hN (xNY (fun _=>rfl) r);have N2:New Z.re τ2:=hNw.of_only g3 (fun b hbb=>(hb.bd b hbb).1);refine xGP (ld _ (Le.refl _)) g1 ⟨k-1,by omega,s+1,by omega,by omega,by rw [e1],N2, ?_⟩ (by omega);rw [wD hr,List.flatten_append,List.map_append,zCK];simpa using g2
  ·rintro p' l' c' τ ⟨rfl,hNw,hb⟩;exact yQA ⟨hNw,p',c',rfl,hb.slv (List.length_map _) (by intro v hv;obtain ⟨x,_,rfl⟩:=List.mem_map.1 hv;exact vV x),fun b hbb=>(hb.bd b hbb).1⟩
end
section
variable {Z τ:St} {w:Wk} {p q t:Option Addr} {l m c d tc:Nat} {rv:Value} {X:Nat->Prop} {f:Nat->Std} {A:List Bch} {ts:List Int}
theorem xCK {lo B3 bq k i:Nat} {wl:List Value} {qc qd:Nat} (ht:yG Z t l ts) (hk:k<6) (hi:i<l) (hs:StOk (f k)) (hx:DtOk (dtQ w i)) (hu:-1000000<=zZ ts i/\zZ ts i<=1000000)
  (hJ:J Z wl rv (.slice t l tc) X f A τ) (hB:Row τ ⟨B3,0,none⟩ (zF (dtQ w i).day (dtQ w i).on (dtQ w i).lo (dtQ w i).hi (dtQ w i).route)) (hX4:¬ X (Z.y+4)) {Qn:St->Prop}
  (hQ:∀ z,J Z wl rv (.slice t l tc) X (upd f k (take (f k) (dtQ w i) (zZ ts i))) A z->Only (fun x=>¬ X x) τ z->Qn z) :
  zKO lo Z.y (Z.y+2) (Z.y+3) (Z.y+4) (i:Int) B3 (k:Int) (some ⟨bq,0,none⟩) qc qd τ Qn:=by
 have L:Le Z τ:=(le0 Z).trans hJ.new.le;obtain ⟨a,rfl,x,hxi,l4⟩:=wZ (SlV.le ht L) hi;have gx:zZ ts i=x:=yP hxi;rw [gx] at hu hQ;have l3:zB Tryz.prog τ 26 ⟨Z.y+2,0,none⟩=some (.slice (some a) l tc):=hJ.tr.ld yV rfl;have lb:zB Tryz.prog τ 85 ⟨B3,0,none⟩=some (zBT (dtQ w i)):=hB.ldN (k:=0) zNB uK (ds:=zF (dtQ w i).day (dtQ w i).on (dtQ w i).lo (dtQ w i).hi (dtQ w i).route) rfl rfl (by simp);obtain ⟨g1,g2,g3⟩:=hJ.take hk (take (f k) (dtQ w i) x) hX4;exact yJS (yHF hJ.nw hk) lb l3 l4 (yHE hs hx hu) g1 (hQ _ g2 g3) (by omega) (by omega)
end
structure Same (n0:Nat) (z z':St):Prop where
 y:z.y<=z'.y
 get:∀ y,y<z.y->(∀ tm ps a b st pend db,yJ z.heap y≠some (.loop tm ps a b st pend db))->yJ z'.heap y=yJ z.heap y
 old:∀ y,y<n0->yJ z'.heap y=yJ z.heap y
theorem Same.own {n0:Nat} {z z':St} {b n:Nat} {cs:List Value} (h:Same n0 z z') (k:Own z b cs n):Own z' b cs n:=k.at_ (h.get b k.lt (fun _ _ _ _ _ _ _ e=>by rw [k.get] at e;cases e)) h.y
theorem Same.of_le {n0:Nat} {z z':St} (h:Le z z') (hn:n0<=z.y):Same n0 z z':=⟨h.y,fun y hy _=>h.get y hy,fun y hy=>h.get y (by omega)⟩
theorem Same.rw {n0:Nat} {z z':St} {a:Addr} {cs:List Value} (h:Same n0 z z') (k:Row z a cs):Row z' a cs:=by
 refine ⟨?_,Nat.lt_of_lt_of_le k.lt h.y⟩
 have:=k.rd;unfold yO at this ⊢;rw [h.get a.block k.lt (fun tm ps x y st pend db e=>by rw [e] at this;simp at this)];exact this
theorem Same.slv {n0:Nat} {z z':St} {t n len:Nat} {p:Option Addr} {vs:List Value} (h:Same n0 z z') (k:SlV Pg z t n p len vs):SlV Pg z' t n p len vs:=by
 refine ⟨⟨k.1.1, ?_⟩,k.2⟩
 cases p with
 | none=>exact k.1.2
 | some a=>exact h.rw k.1.2
theorem Same.gr {n0 m0 t n len c:Nat} {p:Option Addr} {vs:List Value} {z z':St} (h:Same n0 z z') (k:Gr Pg z m0 t n p len c vs):Gr Pg z' m0 t n p len c vs:=by
 have key:∀ {v:Value} {cs:List Value},App z m0 n v len cs->App z' m0 n v len cs:=by
  intro v cs ka;cases ka with
  | nil=>exact .nil
  | more g1 g2 g3 g4 g5 g6 g7=>exact .more (by rw [h.get _ g4 (fun _ _ _ _ _ _ _ e=>by rw [g1] at e;cases e)];exact g1) g2 g3 (Nat.lt_of_lt_of_le g4 h.y) g5 g6 g7
 exact ⟨key k.app,k.len_eq,k.el⟩
abbrev wAC (x:Dty):List Value:=zF x.day x.on x.lo x.hi x.route
abbrev yHB (z:St) (x:Dty):St:=(z.row (zF 0 0 0 0 0) 5).own z.y (wAC x) 5
theorem zVS (z:St) (x:Dty):Le z (yHB z x):=(Le.row z (zF 0 0 0 0 0) 5).own (Nat.le_refl _)
theorem xSX {Z:St} {w:Wk} {p q:Option Addr} {l m c d lo a1 a2 D:Nat} (r1:Row Z ⟨a1,0,none⟩ (wkc w.days p l c q m d w.rest w.run w.hours)) (hl:l<=100000) {K:Nat->St->Prop} (h0:K 0 Z)
  (hT:∀ s z,K s z->Row z ⟨a2,0,none⟩ [zY D]/\zVN z 85 p l w.duties) (hJ:∀ s z,s<l->K s z->if (dtQ w s).day=(D:Int) then ∃ z',yZE Pg lo [iV (s:Int),zBT (dtQ w s)] (yHB z (dtQ w s)) (.bool true) z'/\K (s+1) z' else K (s+1) (yHB z (dtQ w s))) :
  zP Pg 91 [.func (.yield lo) ⟨[]⟩ ⟨[]⟩,.pointer (some ⟨a1,0,none⟩),.pointer (some ⟨a2,0,none⟩)] Z fun v s=>v=.tuple ⟨[]⟩/\K l s:=by
 have hn:w.duties.length=l:=by have:=(hT 0 Z h0).2.2.1;simpa using this
 refine xXH (Pr:=fun _=>False) (P0:=fun τ=>K l τ) (r1.load1 zAV (k:=1) rfl)
  (xFJ (Inv:=fun k i τ=>∃ s:Nat,i=s/\s+k=l/\K s τ) (Qr:=fun _=>False) (Q0:=fun τ=>K l τ) ?_ l 0 Z ⟨0,rfl,by omega,h0⟩) (fun _ h=>h.elim) (fun τ h=>xFI ⟨rfl,h⟩)
 rintro k i τ ⟨s,rfl,hk,hj⟩;by_cases hs:s<l;rotate_left
 ·have:s=l:=by omega
  subst this;exact xSU hj (by omega)
 obtain ⟨ra,hd⟩:=hT s τ hj;obtain ⟨a,rfl,x,hx,lx⟩:=wZ hd hs;have ex:x=dtQ w s:=by
  unfold dtQ;rw [List.getD_eq_getElem?_getD,hx];rfl
 subst ex;have l2:zB Pg (yHB τ (dtQ w s)) 3 ⟨a2,0,none⟩=some (iV (D:Int)):=(ra.le (zVS τ (dtQ w s))).ld zU rfl;have h:=hJ s τ hs hj;by_cases ht:(dtQ w s).day=(D:Int)
 ·rw [if_pos ht] at h;obtain ⟨τ',h1,h2⟩:=h;exact xSW lx l2 h1 ⟨k-1,by omega,s+1,by omega,by omega,h2⟩ (by omega) (by omega) ht (by omega)
 ·rw [if_neg ht] at h;exact xSV lx l2 ⟨k-1,by omega,s+1,by omega,by omega,h⟩ (by omega) (by omega) ht (by omega)
theorem zUU {zf:St->Dty->St} (hzf:∀ (z:St) (x:Dty),Le z (zf z x)) (hzl:∀ (z:St) (x:Dty),z.y<=(zf z.re x).low) {w:Wk} {pp q:Option Addr} {l m c d D:Nat} {gx:Operand} {ps:Array Tmp} {a b:Code} {n:Nat} {l0:List (Nat × Value)} {Qn:St->Prop} {τ:St} {a1 a2 n0:Nat} {J:Nat->St->Prop}
  (hg:∀ g0,yI (Fm n (ov l0 g0)) gx=.func (.func 91) ⟨[]⟩ ⟨[.pointer (some ⟨a1,0,none⟩),.pointer (some ⟨a2,0,none⟩)]⟩) (r1:Row τ ⟨a1,0,none⟩ (wkc w.days pp l c q m d w.rest w.run w.hours)) (hl:l<=100000) (hn0:n0<=τ.y)
  (hT:∀ s z,J s z->Row z ⟨a2,0,none⟩ [zY D]/\zVN z 85 pp l w.duties) (h0:J 0 τ) (hJ:∀ s z z',J s z->Same n0 z z'->J s z') (hskip:∀ s z,s<l->(dtQ w s).day≠(D:Int)->J s z->J (s+1) z)
  (hR:∀ s z z1 lo g0 db,s<l->(dtQ w s).day=(D:Int)->lo=τ.y+1->yJ z.heap lo=some (.loop (Fm n (ov l0 g0)) ps.toList a b .ready none db)->z1=(zf z.re (dtQ w s)).put lo (.loop (Fm n (ov l0 g0)) ps.toList a b .busy none db)->J s z->τ.y+2<=z.y ->
   ∃ z4,zFB Pg lo [iV (s:Int),zBT (dtQ w s)] z (Fm n (ov l0 g0)) ps.toList a b db [⟨Unit,.normal,fun _=>[],fun _=>[],fun _ z=>z=z4⟩]/\J (s+1) z4/\∃ S,Only S z1 z4/\∀ y,S y->n0<=y/\y≠τ.y/\y≠τ.y+1)
  (hQ:∀ z,J l z->yJ z.heap τ.y=some .defd->τ.y<z.y->(∀ m,m<=n0->m<=τ.low->m<=z.low)->Qn z):zTM Pg (zX Pg) gx ps a b n l0 [(.normal,Qn)] τ:=by
 refine xDH (fs:=[.pointer (some ⟨a1,0,none⟩),.pointer (some ⟨a2,0,none⟩)]) (f:=91) hg (fun g0=>?_);obtain ⟨τa,hτa⟩:∃ τa,τa=(τ.add .defd).add (.loop (Fm n (ov l0 g0)) ps.toList a b .ready none τ.y):=⟨_,rfl⟩;have hN:New τ τa:=by rw [hτa];exact (New.add _ _).trans (New.add _ _)
 have nxa:τa.y=τ.y+2:=by rw [hτa];rfl
 have Ld:yJ τa.heap τ.y=some .defd:=by rw [hτa,St.add_get,if_neg (by simp),St.add_get,if_pos rfl]
 have Ll:yJ τa.heap (τ.y+1)=some (.loop (Fm n (ov l0 g0)) ps.toList a b .ready none τ.y):=by rw [hτa,St.add_get,if_pos (by simp)]
 have sm_re:∀ z:St,Same n0 z z.re:=fun z=>⟨Nat.le_refl _,fun _ _ _=>rfl,fun _ _=>rfl⟩
 let K:Nat->St->Prop:=fun s z=>J s z/\yJ z.heap τ.y=some .defd/\yJ z.heap (τ.y+1)=some (.loop (Fm n (ov l0 g0)) ps.toList a b .ready none τ.y)/\τa.y<=z.y/\n0<=z.low/\((J s τa.re/\New τa.re z)\/z.low<=τ.y+1)
 have J0:J 0 τa.re:=hJ _ _ _ (hJ _ _ _ h0 (Same.of_le hN.le hn0)) (sm_re τa);have hrun:zP Pg 91 [.func (.yield (τ.y+1)) ⟨[]⟩ ⟨[]⟩,.pointer (some ⟨a1,0,none⟩),.pointer (some ⟨a2,0,none⟩)] τa.re fun v s=>v=.tuple ⟨[]⟩/\K l s:=by
  refine xSX (w:=w) (p:=pp) (D:=D) ((r1.le hN.le).le (le0 _)) hl (K:=K) ⟨J0,Ld,Ll,Nat.le_refl _,by show n0<=τa.y;omega,.inl ⟨J0,New.refl _⟩⟩ (fun s z h=>hT s z h.1) ?_
  rintro s z hs ⟨j1,j2,j3,j4,j5,j6⟩;have zl:=zVS z (dtQ w s);have zn:New z (yHB z (dtQ w s)):=(New.row z (zF 0 0 0 0 0) 5).own (Nat.le_refl _);have kz:K s (yHB z (dtQ w s)):=⟨hJ _ _ _ j1 (Same.of_le zl (by omega)),by rw [zl.get _ (by omega)];exact j2,by rw [zl.get _ (by omega)];exact j3,by have:=zl.y;omega,zn.low _ j5 (by omega),j6.imp (fun h=>⟨h.1,h.2.trans zn⟩) (fun h=>Nat.le_trans (Nat.min_le_left _ _) h)⟩;by_cases ht:(dtQ w s).day=(D:Int);rotate_left
  ·rw [if_neg ht];obtain ⟨k1,k2,k3,k4,k5,k6⟩:=kz;exact ⟨hskip s _ hs ht k1,k2,k3,k4,k5,k6.imp (fun h=>⟨hskip s _ hs ht h.1,h.2⟩) id⟩
  rw [if_pos ht];obtain ⟨j1,j2,j3,j4,j5,j6⟩:=kz;obtain ⟨z,hz⟩:∃ z',z'=yHB z (dtQ w s):=⟨_,rfl⟩;rw [<- hz] at j1 j2 j3 j4 j5 j6 ⊢;obtain ⟨z1,hz1⟩:∃ z1,z1=(zf z.re (dtQ w s)).put (τ.y+1) (.loop (Fm n (ov l0 g0)) ps.toList a b .busy none τ.y):=⟨_,rfl⟩;have zl1:=hzf z.re (dtQ w s);have s0:Same n0 z (zf z.re (dtQ w s)):=⟨zl1.y,fun y hy _=>zl1.get y hy,fun y hy=>zl1.get y (by show y<z.y;omega)⟩;have j3':yJ (zf z.re (dtQ w s)).heap (τ.y+1)=some (.loop (Fm n (ov l0 g0)) ps.toList a b .ready none τ.y):=by rw [zl1.get _ (by show _<z.y;omega)];exact j3
  have s1:Same n0 z z1:=⟨by rw [hz1];exact zl1.y,fun y hy hne=>by
   rw [hz1,St.put_get,if_neg (fun e=>by subst e;exact hne _ _ _ _ _ _ _ j3)];exact zl1.get y hy,fun y hy=>by rw [hz1,St.put_get,if_neg (by omega)];exact zl1.get y (by show y<z.y;omega)⟩
  have nx1:z.y<=z1.y:=by rw [hz1];exact zl1.y
  have L1:yJ z1.heap (τ.y+1)=some (.loop (Fm n (ov l0 g0)) ps.toList a b .busy none τ.y):=by rw [hz1,St.put_get,if_pos rfl]
  have D1:yJ z1.heap τ.y=some .defd:=by rw [hz1,St.put_get,if_neg (by omega),zl1.get _ (by show _<z.y;omega)];exact j2
  obtain ⟨z4,hr,k1,S,k2,k3⟩:=hR s z z1 (τ.y+1) g0 τ.y hs ht rfl j3 hz1 j1 (by omega);have L4:yJ z4.heap (τ.y+1)=some (.loop (Fm n (ov l0 g0)) ps.toList a b .busy none τ.y):=by
   rw [k2.get _ (by omega) (fun h=>(k3 _ h).2.2 rfl)];exact L1
  have D4:yJ z4.heap τ.y=some .defd:=by
   rw [k2.get _ (by omega) (fun h=>(k3 _ h).2.1 rfl)];exact D1
  have n4:=k2.y;obtain ⟨e,z',⟨al,hal,rfl,t,hq⟩,hc⟩:=hr;simp only [In,or_false] at hal;subst hal;have hq:z'=z4:=hq;subst hq;have hcy:=hc (.inl rfl) (by omega) L4 (by omega);have hlow:n0<=z'.low:=k2.low n0 (by have:=hzl z (dtQ w s);rw [hz1];show n0<=min (zf z.re (dtQ w s)).low (τ.y+1);omega) (by omega) (fun y _ hy=>(k3 y hy).1);refine ⟨_,hcy,hJ _ _ _ k1 ⟨Nat.le_refl _,fun y hy hne=>?_,fun y hy=>?_⟩, ?_, ?_, ?_, ?_,.inr ?_⟩
  ·show yJ (z'.put _ _).heap y=_;rw [St.put_get,if_neg (fun e=>by subst e;exact hne _ _ _ _ _ _ _ L4)]
  ·show yJ (z'.put _ _).heap y=_;rw [St.put_get,if_neg (by omega)]
  ·show yJ (z'.put _ _).heap _=_;rw [St.put_get,if_neg (by omega)];exact D4
  ·show yJ (z'.put _ _).heap _=_;rw [St.put_get,if_pos rfl];rfl
  ·show τa.y<=z'.y;omega
  ·show n0<=min _ _;omega
  ·show min _ _<=_;omega
 obtain ⟨v,s,h1,rfl,j1,j2,j3,j4,j5,j6⟩:=hrun;have fin:∀ u z:St,J l u->yJ u.heap τ.y=some .defd->yJ u.heap (τ.y+1)=some (.loop (Fm n (ov l0 g0)) ps.toList a b .ready none τ.y)->τa.y<=u.y->z.heap=u.heap->z.y=u.y->(∀ m,m<=n0->m<=τ.low->m<=z.low)->yRJ [(.normal,Qn)] (xOC none) (z.put (τ.y+1) (.loop (Fm n (ov l0 g0)) ps.toList a b .exhausted none τ.y)):=by
  intro u z i1 i2 i3 i4 e1 e2 e3;refine .inl ⟨rfl,hQ _ (hJ _ _ _ i1 ⟨by show u.y<=z.y;omega,fun y hy hne=>?_,fun y hy=>?_⟩) ?_ (by show τ.y<z.y;omega) (fun m h1 h2=>?_)⟩
  ·rw [St.put_get,if_neg (fun e=>by subst e;exact hne _ _ _ _ _ _ _ i3),e1]
  ·rw [St.put_get,if_neg (by omega),e1]
  ·rw [St.put_get,if_neg (by omega),e1];exact i2
  ·have:=e3 m h1 h2;show m<=min _ _;omega
 by_cases hlw:s.low<=τ.y+1
 ·refine ⟨_,⟨s.heap,s.y,min τa.low s.low⟩,.ready,none,by rw [<- hτa];exact xVS h1 j4 (by omega),j3,.inl ⟨rfl,rfl⟩,fin s _ j1 j2 j3 j4 rfl rfl (fun m h1 h2=>?_)⟩
  have:=hN.low m h2 (by omega);show m<=min _ _;omega
 ·rcases j6 with ⟨g1,g2⟩ | e;rotate_left
  ·exact absurd e hlw
  refine ⟨_,τa,.ready,none,by rw [<- hτa];exact zRS h1 (by omega) rfl,Ll,.inl ⟨rfl,rfl⟩,fin τa.re τa g1 Ld Ll (Nat.le_refl _) rfl rfl (fun m h1 h2=>hN.low m h2 (by omega))⟩
theorem yWU {w:Wk} {pp q:Option Addr} {l m c d D:Nat} {gx:Operand} {ps:Array Tmp} {a b:Code} {n:Nat} {l0:List (Nat × Value)} {Qn:St->Prop} {τ:St} {a1 a2 n0:Nat} {J:Nat->St->Prop}
  (hg:∀ g0,yI (Fm n (ov l0 g0)) gx=.func (.func 91) ⟨[]⟩ ⟨[.pointer (some ⟨a1,0,none⟩),.pointer (some ⟨a2,0,none⟩)]⟩) (r1:Row τ ⟨a1,0,none⟩ (wkc w.days pp l c q m d w.rest w.run w.hours)) (hl:l<=100000) (hn0:n0<=τ.y)
  (hT:∀ s z,J s z->Row z ⟨a2,0,none⟩ [zY D]/\zVN z 85 pp l w.duties) (h0:J 0 τ) (hJ:∀ s z z',J s z->Same n0 z z'->J s z') (hskip:∀ s z,s<l->(dtQ w s).day≠(D:Int)->J s z->J (s+1) z)
  (hR:∀ s z z1 lo g0 db,s<l->(dtQ w s).day=(D:Int)->lo=τ.y+1->yJ z.heap lo=some (.loop (Fm n (ov l0 g0)) ps.toList a b .ready none db)->z1=(yHB z.re (dtQ w s)).put lo (.loop (Fm n (ov l0 g0)) ps.toList a b .busy none db)->J s z->τ.y+2<=z.y ->
   ∃ z4,zFB Pg lo [iV (s:Int),zBT (dtQ w s)] z (Fm n (ov l0 g0)) ps.toList a b db [⟨Unit,.normal,fun _=>[],fun _=>[],fun _ z=>z=z4⟩]/\J (s+1) z4/\∃ S,Only S z1 z4/\∀ y,S y->n0<=y/\y≠τ.y/\y≠τ.y+1)
  (hQ:∀ z,J l z->yJ z.heap τ.y=some .defd->τ.y<z.y->(∀ m,m<=n0->m<=τ.low->m<=z.low)->Qn z):zTM Pg (zX Pg) gx ps a b n l0 [(.normal,Qn)] τ :=
 zUU zVS (fun z x=>by show z.y<=min z.y z.y;omega) hg r1 hl hn0 hT h0 hJ hskip hR hQ
section
variable {w:Wk} {ros tru:Nat->Int} {l m:Nat}
structure StB (s:Std) (n:Nat):Prop where
 free:-10080<=s.free/\s.free<=100000
 day:-1<=s.day/\s.day<=6
 row:0<=s.row/\s.row<=15+s.day
 used:0<=s.used/\s.used<=20000+1440*n
theorem StB.ok {s:Std} {n:Nat} (h:StB s n) (hn:n<=200):StOk s:=by
 have h1:=h.free;have h2:=h.day;have h3:=h.row;have h4:=h.used;exact ⟨by omega,by omega,by omega,by omega⟩
theorem StB.mono {s:Std} {n n':Nat} (h:StB s n) (hn:n<=n'):StB s n':=⟨h.free,h.day,h.row,by have:=h.used;omega⟩
theorem StB.take {s:Std} {x:Dty} {e:Int} {n:Nat} (h:StB s n) (hx:0<=x.day/\x.day<=6) (he:x.on<=e/\e<=x.on+1440) (ho:0<=x.on/\x.on<=1439) (hd:s.day<=x.day):StB (take s x e) (n+1):=by
 have h1:=h.free;have h2:=h.day;have h3:=h.row;have h4:=h.used;unfold Go.Proofs.YtgfiniccfpfplaaGreat.take;by_cases e1:s.day=x.day
 ·rw [if_pos e1];exact ⟨h1,h2,h3,by simp only;omega⟩
 ·rw [if_neg e1];refine ⟨by simp only;omega,⟨by simp only;omega,hx.2⟩, ?_,by simp only;omega⟩
  simp only;by_cases e2:s.day=x.day-1
  ·rw [if_pos e2];omega
  ·rw [if_neg e2];omega
theorem yCD {k D j:Nat}:(xK w ros tru k D j).day<=(D:Int):=by
 obtain ⟨h1,h2⟩:=zXF (w:=w) (ros:=ros) (tru:=tru) (k:=k) (D:=D) (j:=j);by_cases e:onL w ros k D j=[]
 ·rw [h2 e,(zLB (w:=w) (ros:=ros) (tru:=tru) (k:=k) (D:=D)).2.2];have:=zFT (w:=w) (ros:=ros) (k:=k) (D:=D);omega
 ·rw [h1.2 e];exact Int.le_refl _
theorem xIN (hs:Sane w l m) (hl:w.duties.length=l) (ht:∀ i,i<l->(dtQ w i).on<=tru i/\tru i<=(dtQ w i).on+1440) {k:Nat} (hk:k<m):∀ {D j:Nat},j<=l->StB (xK w ros tru k D j) (D*l+j):=by
 have step:∀ {D j:Nat},j<l->StB (xK w ros tru k D j) (D*l+j)->StB (xK w ros tru k D (j+1)) (D*l+(j+1)):=by
  intro D j hj h;rw [zAF];split
  ·rename_i hh;unfold his at hh;simp only [Bool.and_eq_true,decide_eq_true_eq] at hh;have hd:=hs.duty j hj;have:=yCD (w:=w) (ros:=ros) (tru:=tru) (k:=k) (D:=D) (j:=j);exact h.take ⟨hd.1,hd.2.1⟩ (ht j hj) ⟨hd.2.2.1,hd.2.2.2.1⟩ (by omega)
  ·exact h.mono (by omega)
 have day:∀ {D:Nat},StB (xK w ros tru k D 0) (D*l+0)->∀ {j:Nat},j<=l->StB (xK w ros tru k D j) (D*l+j):=by
  intro D h0 j;induction j with
  | zero=>intro _;exact h0
  | succ j ih=>intro hj;exact step (by omega) (ih (by omega))
 intro D;induction D with
 | zero =>
  intro j hj;refine day ?_ hj;have:=hs.dr k hk;show StB (before (drQ w k)) _;exact ⟨⟨this.1,by show (drQ w k).off<=_;omega⟩,⟨Int.le_refl _,by show (-1:Int)<=6;omega⟩,⟨this.2.2.1,by show (drQ w k).row<=15+(-1:Int);omega⟩,⟨this.2.2.2.2.1,by show (drQ w k).used<=_;omega⟩⟩
 | succ D ih =>
  intro j hj;refine day ?_ hj;have h:=ih (Nat.le_refl l);have e:xK w ros tru k (D+1) 0=xK w ros tru k D l:=by
   rw [<- hl];rfl
  rw [e,Nat.add_mul,Nat.one_mul];exact h
def stF (w:Wk) (ros tru:Nat->Int) (m D j:Nat):Nat->Std:=fun k=>if k<m then xK w ros tru k D j else zVQ
theorem xIU {D:Nat}:stF w ros tru m (D+1) 0=stF w ros tru m D w.duties.length:=rfl
theorem yLH {D j:Nat} (h:¬ ((dtQ w j).day=(D:Int)/\0<=ros j)):stF w ros tru m D (j+1)=stF w ros tru m D j:=by
 funext k;unfold stF;split
 ·rw [zAF,if_neg];unfold his;simp only [Bool.and_eq_true,decide_eq_true_eq];rintro ⟨h1,h2⟩;exact h ⟨h2,by omega⟩
 ·rfl
theorem xIT {D j k:Nat} (hk:k<m) (hd:(dtQ w j).day=(D:Int)) (hr:ros j=(k:Int)):stF w ros tru m D (j+1)=upd (stF w ros tru m D j) k (take (stF w ros tru m D j k) (dtQ w j) (tru j)):=by
 funext i;unfold stF upd;by_cases e:i=k
 ·subst e;rw [if_pos hk,if_pos rfl,if_pos hk,zAF,if_pos (by unfold his;simp [hd,hr])];rfl
 ·rw [if_neg e];show (if i<m then xK w ros tru i D (j+1) else zVQ)=if i<m then xK w ros tru i D j else zVQ;have e2:xK w ros tru i D (j+1)=xK w ros tru i D j:=by rw [zAF,if_neg (by unfold his;simp [hd,hr];omega)]
  rw [e2]
theorem yGE {D j:Nat} (h:¬ ((dtQ w j).day=(D:Int)/\ros j≠-1)):zEC w ros tru D (j+1)=zEC w ros tru D j:=by
 rw [yWY];split
 ·rename_i hd;have:ros j=-1:=Decidable.not_not.1 fun e=>h ⟨hd,e⟩
  unfold zMY;rw [if_pos this,List.append_nil]
 ·rw [List.append_nil]
theorem xGL {D j k:Nat} (hk:k<m) (hd:(dtQ w j).day=(D:Int)) (hr:ros j=(k:Int)):zEC w ros tru D (j+1)=zEC w ros tru D j++zMZ w k j (stF w ros tru m D j k) 5:=by
 rw [yWY,if_pos hd];congr 1;unfold zMY zMZ stF;rw [if_neg (by omega),if_pos hk,show (ros j).toNat=k by omega]
end
structure JL (Z:St) (wl:List Value) (rv tv:Value) (X:Nat->Prop) (f:Nat->Std) (A:List Bch) (τ:St):Prop where
 le:Le Z.re τ
 wk:Row τ ⟨Z.y,0,none⟩ wl
 ro:Row τ ⟨Z.y+1,0,none⟩ [rv]
 tr:Row τ ⟨Z.y+2,0,none⟩ [tv]
 nw:Own τ (Z.y+4) (stL f) 4
 out:∃ po co,Own τ (Z.y+3) [.slice po A.length co] 1/\Gr Tryz.prog τ (Z.y+5) 45 3 po A.length co (A.map yRB)/\∀ b,AtP po b->¬ X b
section
variable {Z τ τ':St} {wl:List Value} {rv tv:Value} {X:Nat->Prop} {f:Nat->Std} {A:List Bch}
theorem J.dn (h:J Z wl rv tv X f A τ):JL Z wl rv tv X f A τ:=⟨h.new.le,h.wk,h.ro,h.tr,h.nw,h.out⟩
theorem JL.up (h:JL Z wl rv tv X f A τ) (hl:Z.y<=τ.low):J Z wl rv tv X f A τ:=⟨⟨h.le,fun m _ h2=>Nat.le_trans h2 hl⟩,h.wk,h.ro,h.tr,h.nw,h.out⟩
theorem JL.mono {Y:Nat->Prop} (h:JL Z wl rv tv X f A τ) (k:∀ b,b<τ.y->Z.y+5<=b->Y b->X b):JL Z wl rv tv Y f A τ:=by
 obtain ⟨po,co,h1,h2,h3⟩:=h.out;exact ⟨h.le,h.wk,h.ro,h.tr,h.nw,po,co,h1,h2,fun b hb hy=>h3 b hb (k b (h2.bd hb).2 (h2.bd hb).1 hy)⟩
theorem JL.same {n0:Nat} (h:JL Z wl rv tv X f A τ) (k:Same n0 τ τ') (hn:Z.y<=n0):JL Z wl rv tv X f A τ':=by
 obtain ⟨po,co,h1,h2,h3⟩:=h.out;exact ⟨⟨Nat.le_trans h.le.y k.y,fun b hb=>(k.old b (Nat.lt_of_lt_of_le hb hn)).trans (h.le.get b hb)⟩,k.rw h.wk,k.rw h.ro,k.rw h.tr,k.own h.nw,po,co,k.own h1,k.gr h2,h3⟩
theorem ySS {lo:Nat} {args:List Value} {z:St} {tm:Tm} {ps:List Tmp} {a b:Code} {db:Nat} {Q:St->Prop} (h:zFB Tryz.prog lo args z tm ps a b db [⟨Unit,.normal,fun _=>[],fun _=>[],fun _ z=>Q z⟩]):∃ z4,Q z4/\zFB Tryz.prog lo args z tm ps a b db [⟨Unit,.normal,fun _=>[],fun _=>[],fun _ z=>z=z4⟩]:=by
 obtain ⟨e,z',⟨al,hal,rfl,t,hq⟩,hc⟩:=h;simp only [In,or_false] at hal;subst hal;exact ⟨z',hq,_,z',⟨_,.inl rfl,rfl,(),rfl⟩,hc⟩
variable {w:Wk} {p q r t:Option Addr} {l m c d rc tc D:Nat} {rs ts:List Int}
theorem xTT {wd i19:Int} {a1 a2:Nat} (h:WkP Z 85 88 w p l q m) (hs:Sane w l m) (hsh:zBC w) (hr:yG Z r l rs) (ht:yG Z t l ts) (hro:∀ i,i<l->-1<=zZ rs i/\zZ rs i<(m:Int))
  (hts:∀ i,i<l->(dtQ w i).on<=zZ ts i/\zZ ts i<=(dtQ w i).on+1440) (hA:∀ j,j<=l->(zCI w (zZ rs) (zZ ts) D++zEC w (zZ rs) (zZ ts) D j).length<=450) (hD:D<=6)
  (r1:Row τ ⟨a1,0,none⟩ (wkc w.days p l c q m d w.rest w.run w.hours)) (r2:Row τ ⟨a2,0,none⟩ [zY D]) (ha2:Z.y+5<=a2) {ms:List Nat} (hms:∀ y∈ms,yJ τ.heap y=some .defd/\Z.y+5<=y/\y<τ.y)
  (hJ:J Z (wkc w.days p l c q m d w.rest w.run w.hours) (.slice r l rc) (.slice t l tc) (fun x=>x=a2\/x∈ms) (stF w (zZ rs) (zZ ts) m D 0) (zCI w (zZ rs) (zZ ts) D) τ) {Qn:St->Prop}
  (hQ:∀ z,JL Z (wkc w.days p l c q m d w.rest w.run w.hours) (.slice r l rc) (.slice t l tc) (fun x=>x∈τ.y::ms) (stF w (zZ rs) (zZ ts) m (D+1) 0) (zCI w (zZ rs) (zZ ts) (D+1)) z->(∀ y∈τ.y::ms,yJ z.heap y=some .defd)->τ.y<z.y->Z.y<=z.low->Qn z) :
  yGL Z.y (Z.y+1) (Z.y+2) (Z.y+3) (Z.y+4) wd i19 91 [.pointer (some ⟨a1,0,none⟩),.pointer (some ⟨a2,0,none⟩)] τ Qn:=by
 have hn:=h.len.1;have hm6:=hs.m6;have hl12:=hs.l12;have hτ5:Z.y+5<=τ.y:=by have:=hJ.nw.lt;omega
 obtain ⟨X,hX⟩:∃ X:Nat->Prop,X=fun x=>x<Z.y\/x=a2\/x=τ.y\/x=τ.y+1\/x∈ms:=⟨_,rfl⟩
 have hX3:¬ X (Z.y+3):=by
  rw [hX];rintro (g | g | g | g | g)
  ·omega
  ·omega
  ·omega
  ·omega
  ·have:=(hms _ g).2.1;omega
 have hX4:¬ X (Z.y+4):=by
  rw [hX];rintro (g | g | g | g | g)
  ·omega
  ·omega
  ·omega
  ·omega
  ·have:=(hms _ g).2.1;omega
 refine yWU (w:=w) (pp:=p) (q:=q) (l:=l) (m:=m) (c:=c) (d:=d) (D:=D) (a1:=a1) (a2:=a2) (n0:=Z.y) (J:=fun s z=>JL Z (wkc w.days p l c q m d w.rest w.run w.hours) (.slice r l rc) (.slice t l tc) X (stF w (zZ rs) (zZ ts) m D s) (zCI w (zZ rs) (zZ ts) D++zEC w (zZ rs) (zZ ts) D s) z/\Row z ⟨a2,0,none⟩ [zY D]/\(∀ y∈ms,yJ z.heap y=some .defd)/\τ.y<=z.y)
  (fun g0=>rfl) r1 (by omega) (by omega) (fun s z hz=>⟨hz.2.1,SlV.le h.dty ((le0 Z).trans hz.1.le)⟩) ⟨?_,r2,fun y hy=>(hms y hy).1,Nat.le_refl _⟩ (fun s z z' hz hk=>⟨hz.1.same hk (Nat.le_refl _),hk.rw hz.2.1,fun y hy=>by rw [hk.get y (by have:=(hms y hy).2.2;have:=hz.2.2.2;omega) (fun _ _ _ _ _ _ _ e=>by rw [hz.2.2.1 y hy] at e;cases e)];exact hz.2.2.1 y hy,Nat.le_trans hz.2.2.2 hk.y⟩) ?_ ?_ ?_
 ·have e:zCI w (zZ rs) (zZ ts) D++zEC w (zZ rs) (zZ ts) D 0=zCI w (zZ rs) (zZ ts) D:=by simp [zEC]
  rw [e];refine hJ.dn.mono ?_
  rw [hX];rintro b hb hb2 (h1 | h1 | h1 | h1 | h1)
  ·omega
  ·exact .inl h1
  ·omega
  ·omega
  ·exact .inr h1
 ·rintro s z hsl hd ⟨hz,hz2⟩;rw [yLH (fun e=>hd e.1),yGE (fun e=>hd e.1)];exact ⟨hz,hz2⟩
 ·rintro s z z1 lo g0 db hsl hd hlo hlp hz1 ⟨hz,hz2,hz3,hz4⟩ hnx;have zl:=zVS z.re (dtQ w s);have hlt:lo<z.y:=by omega
  have hl1:yJ (yHB z.re (dtQ w s)).heap lo=some (zBV Z.y (Z.y+1) (Z.y+2) (Z.y+3) (Z.y+4) wd i19 91 [.pointer (some ⟨a1,0,none⟩),.pointer (some ⟨a2,0,none⟩)] g0 .ready none db):=by
   rw [zl.get _ hlt];exact hlp
  have s1:Same Z.y z z1:=⟨by rw [hz1];exact zl.y,fun y hy hne=>by
   rw [hz1,St.put_get,if_neg (fun e=>by subst e;exact hne _ _ _ _ _ _ _ hlp)];exact zl.get y hy,fun y hy=>by rw [hz1,St.put_get,if_neg (by omega)];exact zl.get y (by show y<z.y;omega)⟩
  have hm1:∀ y∈ms,yJ z1.heap y=some .defd:=fun y hy=>by rw [s1.get y (by have:=(hms y hy).2.2;omega) (fun _ _ _ _ _ _ _ e=>by rw [hz3 y hy] at e;cases e)];exact hz3 y hy
  have hlw:Z.y<=z1.low:=by rw [hz1];show Z.y<=min (min z.y z.y) lo;omega
  have Jz:=(hz.mono (Y:=fun x=>X x\/z.y<=x) (fun b h1 _ h3=>h3.elim id (fun h4=>by omega)));have J1:=(Jz.same s1 (Nat.le_refl _)).up hlw;have rB:Row z1 ⟨z.re.y,0,none⟩ (wAC (dtQ w s)):=by
   rw [hz1];exact (Only.put (S:=(·=lo)) (.inr rfl)).rw' ((zC z.re (zF 0 0 0 0 0) 5).put).rw (fun e=>by have e:z.y=lo:=e;omega)
  have LS:Le Z z1:=(le0 Z).trans J1.new.le;obtain ⟨a,rfl,x,hx,lx⟩:=wZ (SlV.le hr LS) hsl;have gx:zZ rs s=x:=yP hx;have l26:zB Tryz.prog z1 26 ⟨Z.y+1,0,none⟩=some (.slice (some a) l rc):=J1.ro.ld yV rfl;have hrs:=hro s hsl;by_cases e1:x=-1
  ·refine ⟨z1,yXS hlp hl1 hz1 l26 lx rfl (by omega) e1, ?_,fun _=>False,Only.refl _ _,fun y hy=>hy.elim⟩
   rw [yLH (fun e=>by omega),yGE (fun e=>by omega)];exact ⟨hz.same s1 (Nat.le_refl _),s1.rw hz2,hm1,Nat.le_trans hz4 s1.y⟩
  obtain ⟨k,hkx⟩:∃ k:Nat,x=(k:Int):=⟨x.toNat,by omega⟩;have hk:k<m:=by omega
  have hrk:zZ rs s=(k:Int):=by rw [gx,hkx]
  obtain ⟨bq,s2,cq,nq,hbq,rowq⟩:=zUG (Z:=z1);obtain ⟨X2,hX2⟩:∃ X2:Nat->Prop,X2=fun x=>X x\/x=z.y\/x=bq:=⟨_,rfl⟩
  have nz1:=s1.y;have J2:J Z (wkc w.days p l c q m d w.rest w.run w.hours) (.slice (some a) l rc) (.slice t l tc) X2 (stF w (zZ rs) (zZ ts) m D s) (zCI w (zZ rs) (zZ ts) D++zEC w (zZ rs) (zZ ts) D s) s2:=by
   refine (J1.le nq.le (J1.new.trans nq)).mono ?_
   rw [hX2];rintro b _ _ (g | g | g)
   ·exact .inl g
   ·exact .inr (by omega)
   ·exact .inr (by omega)
  have ha2z:a2<τ.y:=r2.lt;have hz12:z.y<s2.y:=by have:=nq.le.y;have:=rB.lt;have e:z.re.y<z1.y:=this;have:z.y<z1.y:=e;omega
  have hXlt:∀ x,X2 x->x<s2.y:=by
   rw [hX2,hX];rintro x ((g | g | g | g | g) | g | g)
   ·omega
   ·omega
   ·omega
   ·omega
   ·have:=(hms _ g).2.2;omega
   ·omega
   ·have:=rowq.lt;rw [g];exact this
  have hX23:¬ X2 (Z.y+3):=by
   rw [hX2];rintro (g | g | g)
   ·exact hX3 g
   ·omega
   ·have:=J1.nw.lt;omega
  have hX24:¬ X2 (Z.y+4):=by
   rw [hX2];rintro (g | g | g)
   ·exact hX4 g
   ·omega
   ·have:=J1.nw.lt;omega
  have hXB:X2 z.re.y:=by rw [hX2];exact .inr (.inl rfl)
  have hXq:X2 bq:=by rw [hX2];exact .inr (.inr rfl)
  have hfk:stF w (zZ rs) (zZ ts) m D s k=xK w (zZ rs) (zZ ts) k D s:=by unfold stF;rw [if_pos hk]
  have hDl:D*l<=6*12:=Nat.mul_le_mul hD hl12;have hso:StOk (stF w (zZ rs) (zZ ts) m D s k):=by rw [hfk];exact (xIN hs hn hts hk (by omega)).ok (by omega)
  have hdt:=hs.duty s hsl;have hdo:DtOk (dtQ w s):=⟨⟨hdt.1,hdt.2.1⟩,⟨hdt.2.2.1,hdt.2.2.2.1⟩⟩;have hAs:=hA s (by omega);have ask:=xPG (lo:=lo) (c:=c) (d:=d) h hsh hm6 hk hsl hso hdo (by omega) J2 (rB.le nq.le) rowq hXB hXq hX23 hXlt;have hu:=hts s hsl;have rd:zFB Tryz.prog lo [iV (s:Int),zBT (dtQ w s)] z (Fm 92 (ov (zAT Z.y (Z.y+1) (Z.y+2) (Z.y+3) (Z.y+4) wd i19 91 [.pointer (some ⟨a1,0,none⟩),.pointer (some ⟨a2,0,none⟩)]) g0)) [25,26] zBA zAA db
    [⟨Unit,.normal,fun _=>[],fun _=>[],fun _ z4=>J Z (wkc w.days p l c q m d w.rest w.run w.hours) (.slice (some a) l rc) (.slice t l tc) X2 (stF w (zZ rs) (zZ ts) m D (s+1)) (zCI w (zZ rs) (zZ ts) D++zEC w (zZ rs) (zZ ts) D (s+1)) z4/\Only (fun x=>¬ X2 x) s2 z4⟩]:=by
   refine yXR hlp hl1 hz1 l26 (hkx ▸ lx) cq ask ?_ (by omega) (by omega)
   rintro z3 ⟨J3,O3⟩
   refine xCK ht (by omega) hsl hso hdo (by omega) J3 (O3.rw' (rB.le nq.le) (fun hh=>hh hXB)) hX24 ?_
   intro z4 J4 O4
   rw [xIT hk hd hrk,xGL (m:=m) hk hd hrk,<- List.append_assoc]
   exact ⟨J4,O3.trans' O4 (fun b _ hb=>.inl hb)⟩
  obtain ⟨z4,⟨J4,O4⟩,rd4⟩:=ySS rd;refine ⟨z4,rd4,⟨J4.dn.mono (fun b _ _ hb=>by rw [hX2];exact .inl hb), ?_, ?_, ?_⟩,fun y=>Z.y<=y/\y≠τ.y/\y≠τ.y+1,(nq.only).trans' (O4.mono (T:=fun y=>Z.y<=y/\y≠τ.y/\y≠τ.y+1) ?_) (fun b _ hb=>.inl hb),fun y hy=>hy⟩
  ·refine O4.rw' ((s1.rw hz2).le nq.le) (fun hh=>hh ?_);rw [hX2,hX];exact .inl (.inr (.inl rfl))
  ·intro y hy;have hys:y<s2.y:=hXlt y (by rw [hX2,hX];exact .inl (.inr (.inr (.inr (.inr hy)))));rw [O4.get y hys (fun hh=>hh (by rw [hX2,hX];exact .inl (.inr (.inr (.inr (.inr hy)))))),nq.le.get y (by have:=(hms y hy).2.2;omega)];exact hm1 y hy
  ·have:=O4.y;have:=nq.le.y;omega
  ·intro b _ hb;rw [hX2,hX] at hb;refine ⟨?_, ?_, ?_⟩
   ·rcases Nat.lt_or_ge b Z.y with g | g
    ·exact absurd (.inl (.inl g)) hb
    ·exact g
   ·intro e;exact hb (.inl (.inr (.inr (.inl e))))
   ·intro e;exact hb (.inl (.inr (.inr (.inr (.inl e)))))
 ·rintro z ⟨hz,_,hz3,_⟩ h1 h2 h3;refine hQ z ?_ (fun y hy=>by rcases List.mem_cons.1 hy with e | e;exact e ▸ h1;exact hz3 y e) h2 (h3 Z.y (Nat.le_refl _) ?_)
  ·have e:zCI w (zZ rs) (zZ ts) (D+1)=zCI w (zZ rs) (zZ ts) D++zEC w (zZ rs) (zZ ts) D l:=by rw [xLG,hn]
   rw [e,xIU,hn];refine hz.mono (fun b _ _ h=>?_);rw [hX];rcases List.mem_cons.1 h with e | e
   ·exact .inr (.inr (.inl e))
   ·exact .inr (.inr (.inr (.inr e)))
  ·have:=hJ.new.low Z.y (Nat.le_refl _) (Nat.le_refl _);exact this
end
section
variable {Z τ:St} {w:Wk} {p q r t:Option Addr} {l m c d rc tc:Nat} {rs ts:List Int}
theorem xZG {D:Nat}:∃ a1 a2 Z',zD Tryz.prog 75 [.agg ⟨wkc w.days p l c q m d w.rest w.run w.hours⟩,iV (D:Int)] Z (.func (.func 91) ⟨[]⟩ ⟨[.pointer (some ⟨a1,0,none⟩),.pointer (some ⟨a2,0,none⟩)]⟩) Z'/\New Z Z'/\Z.y<=a2/\Row Z' ⟨a1,0,none⟩ (wkc w.days p l c q m d w.rest w.run w.hours)/\Row Z' ⟨a2,0,none⟩ [zY D]:=by
 obtain ⟨v,Z',h1,h2,a1,a2,rfl,h3,h4,h5⟩:=zP.new (Z:=Z) (P:=Tryz.prog) (f:=75) (args:=[.agg ⟨wkc w.days p l c q m d w.rest w.run w.hours⟩,iV (D:Int)]) (Q:=fun v s=>∃ a1 a2,v=.func (.func 91) ⟨[]⟩ ⟨[.pointer (some ⟨a1,0,none⟩),.pointer (some ⟨a2,0,none⟩)]⟩/\Z.y<=a2/\Row s ⟨a1,0,none⟩ (wkc w.days p l c q m d w.rest w.run w.hours)/\Row s ⟨a2,0,none⟩ [zY D])
  (xZF ⟨(New.row _ _ _).row',Z.re.y,Z.re.y+1,rfl,by show Z.y<=Z.y+1;omega,(xP _ _ _).row,xP (Z.re.row (wkc w.days p l c q m d w.rest w.run w.hours) 6) _ _⟩) (by rintro v s s' ⟨a1,a2,rfl,g1,g2,g3⟩ hle;exact ⟨a1,a2,rfl,g1,g2.le hle,g3.le hle⟩) (by rintro v s hr ⟨a1,a2,rfl,_⟩;cases hr)
 exact ⟨a1,a2,Z',h1,h2,h3,h4,h5⟩
theorem xON {n:Nat} (hn:w.days=(n:Int)) (hn7:n<=7) (h:WkP Z 85 88 w p l q m) (hs:Sane w l m) (hsh:zBC w) (hr:yG Z r l rs) (ht:yG Z t l ts) (hro:∀ i,i<l->-1<=zZ rs i/\zZ rs i<(m:Int))
  (hts:∀ i,i<l->(dtQ w i).on<=zZ ts i/\zZ ts i<=(dtQ w i).on+1440) (hA:∀ D j,D<=6->j<=l->(zCI w (zZ rs) (zZ ts) D++zEC w (zZ rs) (zZ ts) D j).length<=450)
  (hJ:J Z (wkc w.days p l c q m d w.rest w.run w.hours) (.slice r l rc) (.slice t l tc) (fun x=>x∈([]:List Nat)) (st0 w m) [] τ) :
  zTC Z.y (Z.y+1) (Z.y+2) (Z.y+3) (Z.y+4) w.days 0 [] τ (fun ms z=>J Z (wkc w.days p l c q m d w.rest w.run w.hours) (.slice r l rc) (.slice t l tc) (fun x=>x∈ms) (stF w (zZ rs) (zZ ts) m n 0) (zCI w (zZ rs) (zZ ts) n) z/\ms.Nodup/\∀ y∈ms,yJ z.heap y=some .defd/\Z.y+5<=y/\y<z.y):=by
 refine yJX (Inv:=fun k i ms z=>∃ D:Nat,i=D/\D+k=n/\J Z (wkc w.days p l c q m d w.rest w.run w.hours) (.slice r l rc) (.slice t l tc) (fun x=>x∈ms) (stF w (zZ rs) (zZ ts) m D 0) (zCI w (zZ rs) (zZ ts) D) z/\ms.Nodup/\∀ y∈ms,yJ z.heap y=some .defd/\Z.y+5<=y/\y<z.y) ?_ n 0 [] τ ⟨0,rfl,by omega,hJ,List.nodup_nil,fun y hy=>by cases hy⟩;rintro k i ms z ⟨D,rfl,hk,hz,hnd,hms⟩;by_cases hD:D<n;rotate_left
 ·have:D=n:=by omega
  subst this;exact yXZ ⟨hz,hnd,hms⟩ (by omega)
 have lw:zB Tryz.prog z 34 ⟨Z.y,0,none⟩=some (.agg ⟨wkc w.days p l c q m d w.rest w.run w.hours⟩):=hz.wk.ldN (k:=0) xV xB (ds:=wkc w.days p l c q m d w.rest w.run w.hours) rfl rfl (by simp);obtain ⟨a1,a2,z2,c2,n2,ha2,r1,r2⟩:=xZG (Z:=z) (w:=w) (p:=p) (l:=l) (c:=c) (q:=q) (m:=m) (d:=d) (D:=D);have hz5:Z.y+5<=z.y:=by have:=hz.nw.lt;omega
 have J2:=((hz.mono (Y:=fun x=>x=a2\/x∈ms) (fun b h1 _ h3=>h3.elim (fun e=>by omega) id)).le n2.le (hz.new.trans n2));have hms2:∀ y∈ms,yJ z2.heap y=some .defd/\Z.y+5<=y/\y<z2.y:=fun y hy=>by
  obtain ⟨g1,g2,g3⟩:=hms y hy;exact ⟨by rw [n2.le.get y g3];exact g1,g2,by have:=n2.le.y;omega⟩
 refine yYA lw c2 (xTT (wd:=w.days) (i19:=D) h hs hsh hr ht hro hts (fun j hj=>hA D j (by omega) hj) (by omega) r1 r2 (by omega) hms2 J2
  (Qn:=fun z3=>J Z (wkc w.days p l c q m d w.rest w.run w.hours) (.slice r l rc) (.slice t l tc) (fun x=>x∈z2.y::ms) (stF w (zZ rs) (zZ ts) m (D+1) 0) (zCI w (zZ rs) (zZ ts) (D+1)) z3/\∀ y∈z2.y::ms,yJ z3.heap y=some .defd/\Z.y+5<=y/\y<z3.y)
  (fun z3 g1 g2 g3 g4=>⟨g1.up g4,fun y hy=>⟨g2 y hy, ?_⟩⟩)) ?_ (by omega)
 ·rcases List.mem_cons.1 hy with e | e
  ·have:=n2.le.y;omega
  ·have:=hms2 y e;omega
 ·rintro z3 ⟨g1,g2⟩;refine yJT ⟨k-1,by omega,D+1,by omega,by omega,g1, ?_,g2⟩ (by omega);exact List.nodup_cons.2 ⟨fun e=>by have:=(hms2 _ e).2.2;omega,hnd⟩
end
def zNU (xs:List Nat):List Int:=xs.map fun i:Nat=>(i:Int)
section
variable {Z:St} {w:Wk} {p q:Option Addr} {l m c d D:Nat}
theorem yPW (h:WkP Z 85 88 w p l q m) (hl:l<=1000):∃ p' c' Z',zD Tryz.prog 85 [.agg ⟨wkc w.days p l c q m d w.rest w.run w.hours⟩,iV (D:Int)] Z (.slice p' (yF w D l).length c') Z'/\New Z Z'/\yG Z' p' (yF w D l).length (zNU (yF w D l))/\∀ b,AtP p' b->Z.y<=b:=by
 have hln:=h.len.1;have hle:∀ s,(yF w D s).length<=s:=fun s=>by
  unfold yF;have:=List.length_filter_le (fun i=>decide ((dtQ w i).day=(D:Int))) (List.range s);simpa using this
 obtain ⟨Z1,hZ1⟩:∃ Z1,Z1=(Z.re.row (wkc w.days p l c q m d w.rest w.run w.hours) 6).row [.slice none 0 0] 1:=⟨_,rfl⟩;have N1:New Z.re Z1:=by rw [hZ1];exact (New.row _ _ _).row'
 have x1:Z1.y=Z.y+2:=by rw [hZ1];rfl
 have o1:Own Z1 (Z.y+1) [.slice none 0 0] 1:=by rw [hZ1];exact zC (Z.re.row (wkc w.days p l c q m d w.rest w.run w.hours) 6) [.slice none 0 0] 1
 obtain ⟨a1,a2,τ,k1,n1,ha2,r1,r2⟩:=xZG (Z:=Z1) (w:=w) (p:=p) (q:=q) (l:=l) (m:=m) (c:=c) (d:=d) (D:=D);have N2:=N1.trans n1;have L2:Le Z τ:=(le0 Z).trans N2.le;have nx2:=n1.nx;have hd2:zVN τ 85 p l w.duties:=SlV.le h.dty L2;have hpb:∀ a,p=some a->a.block<Z.y:=wA h.dty;have ha2t:a2<τ.y:=r2.lt;rw [hZ1] at k1;let J:Nat->St->Prop:=fun s z=>Row z ⟨a2,0,none⟩ [zY D]/\zVN z 85 p l w.duties/\τ.y<=z.y/\∃ p' c',Own z (Z.y+1) [.slice p' (yF w D s).length c'] 1/\Gr Tryz.prog z (τ.y+2) 3 1 p' (yF w D s).length c' ((zNU (yF w D s)).map zY)/\Le Z z
 refine zP.newSl (xGJ k1 (Pn:=fun z=>J l z/\yJ z.heap τ.y=some .defd/\τ.y<z.y/\∀ m,m<=Z.y->m<=τ.low->m<=z.low) (zUU (zf:=fun z _=>z) (fun z _=>Le.refl z) (fun z _=>Nat.le_refl _) (w:=w) (pp:=p) (q:=q) (l:=l) (m:=m) (c:=c) (d:=d) (D:=D) (a1:=a1) (a2:=a2) (n0:=Z.y) (J:=fun s z=>J s z) (fun g0=>rfl) r1 (by omega) (by omega) (fun s z hz=>⟨hz.1,hz.2.1⟩) ⟨r2,hd2,Nat.le_refl _,none,0,o1.le n1.le,by simpa [yF,zNU] using Gr.nil,L2⟩ ?_ ?_ ?_ ?_) ?_)
 ·rintro s z z' ⟨h1,h2,h3,p',c',h4,h5,h6⟩ hk;refine ⟨hk.rw h1,hk.slv h2,Nat.le_trans h3 hk.y,p',c',hk.own h4,hk.gr h5,⟨Nat.le_trans h6.y hk.y,fun b hb=>by rw [hk.old b hb];exact h6.get b hb⟩⟩
 ·rintro s z hs hd ⟨h1,h2,h3,p',c',h4,h5,h6⟩;have e:yF w D (s+1)=yF w D s:=by rw [yJH,if_neg hd]
  refine ⟨h1,h2,h3,p',c', ?_, ?_,h6⟩
  ·rw [e];exact h4
  ·rw [e];exact h5
 ·rintro s z z1 lo g0 db hs hd hlo hlp hz1 ⟨h1,h2,h3,p',c',h4,h5,h6⟩ hnx;have e:yF w D (s+1)=yF w D s++[s]:=by rw [yJH,if_pos hd]
  have hlt:lo<z.y:=by omega
  have k01:Only (fun y=>y=lo) z z1:=by
   rw [hz1];exact (Only.re (S:=fun y=>y=lo) z).trans' (Only.put (S:=fun y=>y=lo) (.inr rfl)) (fun b _ e=>.inl e)
  have u1:Own z1 (Z.y+1) [.slice p' (yF w D s).length c'] 1:=k01.own' h4 (by omega);have v1:Gr Tryz.prog z1 (τ.y+2) 3 1 p' (yF w D s).length c' ((zNU (yF w D s)).map zY):=h5.only k01 (fun b hb e=>by have:=(h5.bd hb).1;omega);have nx1:=k01.y;have hs2:=hle s;obtain ⟨p2,c2,z2,g1,g2,g3,g4⟩:=yPE (zY (s:Int)) uJ v1 (Le.refl z1) (vV _) (by omega) (by omega);have hS:∀ b,AtP p' b->τ.y+2<=b:=fun b hb=>(v1.bd hb).1
  have k12:Only (AtP p') z1 z2:=(Only.row z1 [zY (s:Int)] 1).trans' g3 (fun b _ e=>.inl e);have u2:=k12.own' u1 (fun hb=>by have:=hS _ hb;omega);have st:=u2.store (P:=Tryz.prog) (k:=0) (t:=26) (v:=.slice p2 ((yF w D s).length+1) c2) (vs:=[.slice p2 ((yF w D s).length+1) c2]) (ds:=[.slice p2 ((yF w D s).length+1) c2]) rfl zXH rfl (by simp) rfl;obtain ⟨z3,hz3⟩:∃ z3,z3=z2.own (Z.y+1) [.slice p2 ((yF w D s).length+1) c2] 1:=⟨_,rfl⟩;rw [<- hz3] at st;have k23:Only (fun y=>y=Z.y+1) z2 z3:=by rw [hz3];exact Only.own (.inr rfl)
  have k13:Only (fun y=>y=Z.y+1\/AtP p' y) z1 z3:=(k12.mono (fun _ _ e=>.inr e)).trans' k23 (fun b _ e=>.inl (.inl e));have k03:Only (fun y=>y=lo\/y=Z.y+1\/AtP p' y) z z3:=(k01.mono (fun _ _ e=>.inl e)).trans' k13 (fun b _ e=>.inl (.inr e));refine ⟨z3,yWV hlp hz1 (u1.ld (k:=0) rfl yV rfl) g1 st rfl,⟨k03.rw' h1 ?_,k03.slv' h2 ?_,by have:=k03.y;omega,p2,c2, ?_, ?_, ?_⟩,_,k13, ?_⟩
  ·rintro (hb | hb | hb)
   ·have hb:a2=lo:=hb;omega
   ·have hb:a2=Z.y+1:=hb;omega
   ·have:=hS _ hb;have:τ.y+2<=a2:=this;omega
  ·rintro a ea (hb | hb | hb)
   ·have:=hpb a ea;omega
   ·have:=hpb a ea;omega
   ·have:=hS _ hb;have:=hpb a ea;omega
  ·rw [e,List.length_append,hz3];exact u2.put
  ·rw [e,List.length_append];have e2:(zNU (yF w D s++[s])).map zY=(zNU (yF w D s)).map zY++[zY (s:Int)]:=by simp [zNU]
   rw [e2];exact g2.only k23 (fun b hb e=>by have:=(g2.bd hb).1;omega)
  ·refine ⟨Nat.le_trans h6.y k03.y,fun b hb=>?_⟩
   rw [k03.get b (by omega) ?_]
   ·exact h6.get b hb
   ·rintro (e | e | e)
    ·omega
    ·omega
    ·have:=hS _ e;omega
  ·rintro y (e | e)
   ·exact ⟨by omega,by omega,by omega⟩
   ·have:=hS _ e;exact ⟨by omega,by omega,by omega⟩
 ·rintro z h1 h2 h3 h4;exact ⟨h1,h2,h3,h4⟩
 ·rintro z ⟨⟨h1,h2,h3,p',c',h4,h5,h6⟩,h7,h8,h9⟩;have st:=h4.store (P:=Tryz.prog) (k:=0) (t:=26) (v:=.slice p' (yF w D l).length c') (vs:=[.slice p' (yF w D l).length c']) (ds:=[.slice p' (yF w D l).length c']) rfl zXH rfl (by simp) rfl;have hB:Z.y+1<τ.y:=by omega
  obtain ⟨z2,k1,k2,k3,k4⟩:=zPB (ms:=[τ.y]) (Z:=z.own (Z.y+1) [.slice p' (yF w D l).length c'] 1) (fun y hy=>by
   rcases List.mem_singleton.1 hy with rfl;show yJ (St.put _ _ _).heap _=_;rw [St.put_get,if_neg (by omega)];exact h7) (by simp)
  have o2:Own z2 (Z.y+1) [.slice p' (yF w D l).length c'] 1:=h4.put.at_ (k3 _ (fun e=>by have:=List.mem_singleton.1 e;omega)) (by rw [k2];exact Nat.le_refl _);have g2:Gr Tryz.prog (z.own (Z.y+1) [.slice p' (yF w D l).length c'] 1) (τ.y+2) 3 1 p' (yF w D l).length c' ((zNU (yF w D l)).map zY):=h5.only (S:=(·=Z.y+1)) (Only.own (.inr rfl)) (fun b hb e=>by have:=(h5.bd hb).1;omega);have sl:yG z2 p' (yF w D l).length (zNU (yF w D l)):=by
   have:=g2.slv;refine ⟨⟨this.1.1, ?_⟩,this.2⟩
   cases p' with
   | none=>exact this.1.2
   | some a =>
    have hr:=this.1.2;have hb:=(h5.bd ⟨a,rfl,rfl⟩);refine ⟨?_,by rw [k2];exact hr.lt⟩
    have e:yJ z2.heap a.block=yJ (z.own (Z.y+1) [.slice (some a) (yF w D l).length c'] 1).heap a.block:=k3 _ (fun e=>by have:=List.mem_singleton.1 e;omega);have:=hr.rd;unfold yO at this ⊢;rw [e];exact this
  have N:New Z.re z2:=by
   refine ⟨⟨by rw [k2];exact h6.y,fun b hb=>?_⟩,fun m g1 g2=>k4 m ?_ (fun y hy=>by have:=List.mem_singleton.1 hy;have g2:m<=Z.y:=g2;omega)⟩
   ·have hb:b<Z.y:=hb;rw [k3 b (fun e=>by have:=List.mem_singleton.1 e;omega)];show yJ (St.put _ _ _).heap b=_;rw [St.put_get,if_neg (by omega)];exact h6.get b hb
   ·have g2:m<=Z.y:=g2;have:=h9 m g2 (N2.low m g1 g2);show m<=min _ _;omega
  exact yJI (h4.ld (k:=0) rfl yV rfl) st k1 (o2.ld (k:=0) rfl yV rfl) ⟨N,p',c',rfl,sl,fun b hb=>by have:=(h5.bd hb).1;show Z.y<=b;omega⟩
end
section
noncomputable section
variable (BA:Nat) (q13:oAa) (l13 c13 BB BC:Nat) (n14 aJ bV:Int) (q0:St->Prop) (qI:oAa) (lJ cJ:Nat) (bi dV:Int) (q1:Int->St->Prop) (Q:Int->Int->St->Prop) (Z:St) (q3:vPa) (Nx:Int->Int->St->Prop) (Q0:St->Prop) (Q2:Int->St->Prop)
def ySP:Code:=(Code.part [1,1,1,1,1,0,1,0,0] (qj 59))
def yHL:lNa:=[(3,pq BA 0),(6,.slice q13 l13 c13),(7,pq BB 0),(10,pq BC 0),(11,iV aJ),(31,iV n14),(32,iV bV)]
def yZQ:Alt:=⟨Int × Int,.normal,fun t=>yHL BA q13 l13 c13 BB BC n14 t.1 t.2,fun t=>[],fun t Z=>Q t.1 t.2 Z⟩
def yLS (BA:Nat) (q13:oAa) (l13 c13 BB BC:Nat) (n14:Int):lNa:=[(6,.slice q13 l13 c13),(7,pq BB 0),(10,pq BC 0)]
def zPD:Alt:=⟨Unit,(.exit 0),fun t=>yLS BA q13 l13 c13 BB BC n14,fun t=>[],fun t Z=>q0 Z⟩
def ySR:Prop:=qk ql none ySP 62 (yHL BA q13 l13 c13 BB BC n14 aJ bV) [] [yZQ BA q13 l13 c13 BB BC n14 Nx,zPD BA q13 l13 c13 BB BC n14 Q0] Z
def ySQ:Prop:=qm ql none ySP 62 (yHL BA q13 l13 c13 BB BC n14 aJ bV) [] [zPD BA q13 l13 c13 BB BC n14 Q0] Z
def xJD:Code:=(Code.part [1,1,1,1,1,0,1,0,0,1,1,0,0,1,1,0,0] (qj 59))
def zXQ:lNa:=[(3,pq BA 0),(6,.slice q13 l13 c13),(7,pq BB 0),(10,pq BC 0),(11,iV bi),(31,iV n14),(32,iV bV),(37,.slice qI lJ cJ),(38,iV (lJ:Int)),(39,iV dV)]
def xRM:Alt:=⟨Int × Int,.normal,fun t=>zXQ BA q13 l13 c13 BB BC n14 bV qI lJ cJ t.1 t.2,fun t=>[],fun t Z=>Q t.1 t.2 Z⟩
def yLR (BA:Nat) (q13:oAa) (l13 c13 BB BC:Nat) (n14 bV:Int) (qI:oAa) (lJ cJ:Nat) (bi:Int):lNa:=[(3,pq BA 0),(6,.slice q13 l13 c13),(7,pq BB 0),(10,pq BC 0),(11,iV bi),(31,iV n14),(32,iV bV)]
def zXR:Alt:=⟨Int,(.exit 2),fun t=>yLR BA q13 l13 c13 BB BC n14 bV qI lJ cJ t,fun t=>[],fun t Z=>q1 t Z⟩
def yHM:Prop:=qk ql none xJD 62 (zXQ BA q13 l13 c13 BB BC n14 bV qI lJ cJ bi dV) [] [xRM BA q13 l13 c13 BB BC n14 bV qI lJ cJ Nx,zXR BA q13 l13 c13 BB BC n14 bV qI lJ cJ Q2] Z
def xJE:Prop:=qm ql none xJD 62 (zXQ BA q13 l13 c13 BB BC n14 bV qI lJ cJ bi dV) [] [zXR BA q13 l13 c13 BB BC n14 bV qI lJ cJ Q2] Z
def yLT:Prop:=kZ ql ySP [1,1,0,0,1,1,0] (zGF 62 [yZQ BA q13 l13 c13 BB BC n14 Nx,zPD BA q13 l13 c13 BB BC n14 Q0]) (.exit 2) 62 (yLR BA q13 l13 c13 BB BC n14 bV qI lJ cJ bi) Z
def zXS:Prop:=kZ ql (qj 59) [1,1,1,1,1,0,1,0] (qn 59 q3) (.exit 0) 62 (yLS BA q13 l13 c13 BB BC n14) Z
end
variable {BA l13 c13 BB BC lJ cJ lA cA lG cG lH cF ac ad aa ab l8 c8 l11 c11 l2 c2 bk bJ:Nat} {q13 qI qE qF af ae q8 q11 q2 who:oAa} {n14 bV bi dV nQ nV aJ nA nG nE nI ao ar ay am n2 n3 n4 n5 n6 n7 nBe nBf nBg nBh nYB nBi nB9 nHC nIC nCA nCD nCE n1 n8 x0:Int} {Inv:Nat->Int->Int->St->Prop} {Q0 P0:St->Prop} {Q2 P2:Int->St->Prop} {qI_a qA_a q13_a:Addr} {ZBH Z ZF Z10 Z12 ZN:St} {Nx:Int->Int->St->Prop} {leaves b9 bE:Bool} {worth:FuncId} {gq:lVa} {f1:Nat->Std} {Q:vPa}
theorem xDA (hb:∀ k aJ bV Z,Inv k aJ bV Z->ySR BA q13 l13 c13 BB BC n14 aJ bV Z (NX2 Inv k) Q0):∀ k aJ bV Z,Inv k aJ bV Z->ySQ BA q13 l13 c13 BB BC n14 aJ bV Z Q0 :=
 zDU (ai (xZ 0) trivial) hb
theorem xCZ (hb:∀ k bi dV Z,Inv k bi dV Z->yHM BA q13 l13 c13 BB BC n14 bV qI lJ cJ bi dV Z (NX2 Inv k) Q2):∀ k bi dV Z,Inv k bi dV Z->xJE BA q13 l13 c13 BB BC n14 bV qI lJ cJ bi dV Z Q2 :=
 zDU (ai (xZ 2) trivial) hb
theorem xRJ (h1:lz Z 3 (zJ qI_a (Int.toNat dV*1)) (iV nQ)) (h2:lz Z 4 (qg BC 7) (.bool true)) (h3:lz Z 26 (qg BC 6) (.slice (some qA_a) lA cA)) (h4:lz Z 3 (zJ qA_a (Int.toNat bi*1)) (iV nV)) (h5:qq (evL [pz (zJ q13_a (Int.toNat nQ*1)),iV nV]) Z (.store 3 (.tmp 0) (.tmp 1))=some (undef,ZBH)) (nx:Nx (bi+1) (dV+1) ZBH) (u1:dV<(lJ:Int):=by omega) (u2:Ix dV lJ:=by omega) (u3:Ix bi lA:=by omega) (u4:Ix nQ l13:=by omega) (u5:I6 (bi+1):=by omega) (u6:I6 (dV+1):=by omega):yHM BA (some q13_a) l13 c13 BB BC n14 bV (some qI_a) lJ cJ bi dV Z Nx Q2 :=
 kO 0 (bi+1,dV+1) [.b true,.i,.l (iV nQ),.g,.g,.l (.bool true),.g,.g,.g,.l (.slice (some qA_a) lA cA),.g,.i,.l (iV nV),.i,.e undef ZBH,.g,.n (bi+1),.g,.n (dV+1),.g] (fun _ f=>an5 (zR u1) u2 h1 h2 h3 (an6 u3 h4 u4 h5 (w64 u5) (w64 u6) f)) nx
theorem xRI (h1:lz Z 3 (zJ qI_a (Int.toNat dV*1)) (iV nQ)) (h2:lz Z 4 (qg BC 7) (.bool false)) (nx:Nx bi (dV+1) Z) (u1:dV<(lJ:Int):=by omega) (u2:Ix dV lJ:=by omega) (u3:I6 (dV+1):=by omega):yHM BA q13 l13 c13 BB BC n14 bV (some qI_a) lJ cJ bi dV Z Nx Q2 :=
 kO 0 (bi,dV+1) [.b true,.i,.l (iV nQ),.g,.g,.l (.bool false),.n (dV+1),.g] (fun _ f=>an5 (zR u1) u2 h1 h2 (w64 u3) f) nx
theorem xRH (nx:Q2 bi Z) (u1:¬ dV<(lJ:Int):=by omega):yHM BA q13 l13 c13 BB BC n14 bV qI lJ cJ bi dV Z Nx Q2 :=
 kO 1 bi [.b false] (fun _ f=>ai (zS u1) f) nx
theorem xRL (h1:lz Z 34 (qg BA 0) (qh (wkc nA qE lG cG qF lH cF nG nE nI))) (h2:qo 85 [qh (wkc nA qE lG cG qF lH cF nG nE nI),iV bV] Z (.slice qI lJ cJ) ZF) (hL:xJE BA q13 l13 c13 BB BC n14 bV qI lJ cJ aJ 0 ZF P2) (k2:∀ i11_2' Z',P2 i11_2' Z'->yLT BA q13 l13 c13 BB BC n14 bV qI lJ cJ i11_2' Z' Nx Q0) (u1:bV<n14:=by omega):ySR BA q13 l13 c13 BB BC n14 aJ bV Z Nx Q0 :=
 zDC [.b true,.g,.g,.l (qh (wkc nA qE lG cG qF lH cF nG nE nI)),.g,.c (.slice qI lJ cJ) ZF,.g,.g,.lf 62 (zXQ BA q13 l13 c13 BB BC n14 bV qI lJ cJ aJ 0) [zXR BA q13 l13 c13 BB BC n14 bV qI lJ cJ P2]] (fun g=>kd (an3 (zR u1) h1 h2 (ai (ai tt (ai (arf (zXQ BA q13 l13 c13 BB BC n14 bV qI lJ cJ aJ 0)) hL)) (ai (kz1 k2) trivial))))
theorem xRK (nx:Q0 Z) (u1:¬ bV<n14:=by omega):ySR BA q13 l13 c13 BB BC n14 aJ bV Z Nx Q0 :=
 kO 1 () [.b false] (fun _ f=>ai (zS u1) f) nx
theorem xCX (nx:Nx bi (bV+1) Z) (u1:I6 (bV+1):=by omega):yLT BA q13 l13 c13 BB BC n14 bV qI lJ cJ bi Z Nx Q0 :=
 sF 0 (bi,bV+1) [.n (bV+1),.g] (fun _ f=>ai (w64 u1) f) nx
theorem xWQ:let s1:=Z.row (wkc ao af ac ad ae aa ab ar ay am) 6;let s2:=s1.row (zK 0 0 0 0 0 0) 1;let s3:=s2.add (.map []);let s4:=s3.row [iV ao,.slice af ac ad,.slice ae aa ab,iV ar,iV ay,iV am,.bool leaves,.func (.func worth) ⟨[]⟩ ⟨gq⟩,.map (some (Z.y+2))] 9;let s5:=Z10.row [iV 0,iV 0,iV 0,iV 0,iV 0,iV 0,.slice none 0 0,.bool false] 8;let s6:=s5.own Z10.y [iV n2,iV n3,iV n4,iV n5,iV n6,iV n7,.slice q8 l8 c8,.bool b9] 8;∀ (h1:qo 74 [qh (wkc ao af ac ad ae aa ab ar ay am)] s4 (qh (stL f1)) s4) (h2:qo 84 [pq ((Z.y+3)) 0,qh (iV 0::(stL f1))] s4 (qh [iV n2,iV n3,iV n4,iV n5,iV n6,iV n7,.slice q8 l8 c8,.bool b9]) Z10) (h3:lz s6 31 (qg Z.y 1) (.slice q11 l11 c11)) (h4:qq (evL [iV (l11:Int),iV (l11:Int)]) s6 (.makeSlice 26 (.tmp 0) (.tmp 1))=some (.slice q13 l13 c13,Z12)) (h5:lz Z12 3 (qg Z.y 0) (iV n14)) (hL:ySQ Z.y q13 l13 c13 (Z.y+1) Z10.y n14 0 0 Z12 P0) (k0:∀ Z',P0 Z'->zXS Z.y q13 l13 c13 (Z.y+1) Z10.y n14 Z' Q),qi 59 [qh (wkc ao af ac ad ae aa ab ar ay am),.bool leaves,.func (.func worth) ⟨[]⟩ ⟨gq⟩] Z Q:=
 let s1:=Z.row (wkc ao af ac ad ae aa ab ar ay am) 6;let s2:=s1.row (zK 0 0 0 0 0 0) 1;let s3:=s2.add (.map []);let s4:=s3.row [iV ao,.slice af ac ad,.slice ae aa ab,iV ar,iV ay,iV am,.bool leaves,.func (.func worth) ⟨[]⟩ ⟨gq⟩,.map (some (Z.y+2))] 9;let s5:=Z10.row [iV 0,iV 0,iV 0,iV 0,iV 0,iV 0,.slice none 0 0,.bool false] 8;let s6:=s5.own Z10.y [iV n2,iV n3,iV n4,iV n5,iV n6,iV n7,.slice q8 l8 c8,.bool b9] 8;let s7:=yHL Z.y q13 l13 c13 (Z.y+1) Z10.y n14 0 0;fun h1 h2 h3 h4 h5 hL k0=>zG [.g,.g,.g,.g,.l (qh (wkc ao af ac ad ae aa ab ar ay am)),.g,.g,.g,.g,.g,.g,.g,.l (qh (wkc ao af ac ad ae aa ab ar ay am)),.c (qh (stL f1)) s4,.g,.c (qh [iV n2,iV n3,iV n4,iV n5,iV n6,iV n7,.slice q8 l8 c8,.bool b9]) Z10,.g,.e undef s6,.g,.l (.slice q11 l11 c11),.g,.e (.slice q13 l13 c13) Z12,.g,.g,.g,.l (iV n14),.g,.lf 62 s7 [zPD Z.y q13 l13 c13 (Z.y+1) Z10.y n14 P0]] (kd (an2 ((zC _ _ _).row.rw.ldN xV xB (k:=0) rfl rfl (nle rfl):lz s2 34 (qg Z.y 0) (qh (wkc ao af ac ad ae aa ab ar ay am))) ((zC _ _ _).row.add.row.rw.ldN xV xB (k:=0) rfl rfl (nle rfl):lz s4 34 (qg Z.y 0) (qh (wkc ao af ac ad ae aa ab ar ay am))) (an6 h1 h2 ((zC _ _ _).store (vs:=[iV n2,iV n3,iV n4,iV n5,iV n6,iV n7,.slice q8 l8 c8,.bool b9]) rfl uD rfl (nle rfl) rfl:qq (evL [pq Z10.y 0,qh [iV n2,iV n3,iV n4,iV n5,iV n6,iV n7,.slice q8 l8 c8,.bool b9]]) s5 (.store 130 (.tmp 0) (.tmp 1))=some (undef,s6)) h3 h4 h5 (ai (ai tt (ai (arf s7) hL)) (ai (kz0 k0) trivial)))))
theorem xCY:let y0:=zK nBe nBf nBg nBh nYB nBi;let y1:=zK nB9 nHC nIC nCA nCD nCE;∀ (h1:lz Z 98 (qg BC 0) (qh y0)) (h2:lz Z 4 (qg BC 7) (.bool bE)) (h3:qq (evL [pq BB 0,qh y0]) Z (.store 98 (.tmp 0) (.tmp 1))=some (undef,ZN)) (h4:(zLq ZN 4 (qg BC 7) (.bool bE))) (h5:lz ZN 98 (qg BB 0) (qh y1)) (nx:Q (.tuple ⟨[.slice q13 l13 c13,qh y1,.bool bE]⟩) ZN) (b_BC:BC<Z.y:=by omega) (b_BB:BB<Z.y:=by omega),zXS BA q13 l13 c13 BB BC n14 Z Q :=
 let y0:=zK nBe nBf nBg nBh nYB nBi;let y1:=zK nB9 nHC nIC nCA nCD nCE;fun h1 h2 h3 h4 h5 nx b_BC b_BB=>sK [.g,.g,.l (qh y0),.g,.l (.bool bE),.g,.e undef ZN,.g,.l (qh y1)] (an3 h1 h2 h3 (an6 ((zE (zO b_BC) zI):zH Z.y [pq BC 0]) ((zE (zO b_BC) zI):zH Z.y [pq BC 7]) ((zE (zO b_BB) (zE (yK rfl) zI)):zH Z.y [pq BB 0,qh y0]) (⟨⟨b_BC,rfl⟩,h2⟩:(zLq Z 4 (qg BC 7) (.bool bE))) h4 h5 nx))
theorem xVH:let s1:=Z.row (wkc ao af ac ad ae aa ab ar ay am) 6;∀ (h1:qo 16 [qh (wkc ao af ac ad ae aa ab ar ay am)] s1 (iV n1) s1) (nx:Q (.tuple ⟨[.slice none 0 0,iV 0,iV n1]⟩) s1) (u1:¬ n1=0:=by omega),qi 37 [qh (wkc ao af ac ad ae aa ab ar ay am)] Z Q:=
 let s1:=Z.row (wkc ao af ac ad ae aa ab ar ay am) 6;fun h1 nx u1=>zG [.g,.g,.g,.g,.l (qh (wkc ao af ac ad ae aa ab ar ay am)),.c (iV n1) s1,.g,.g,.b true,.g,.g,.g,.g] (kd (an3 ((zC _ _ _).rw.ldN xV xB (k:=0) rfl rfl (nle rfl):lz s1 34 (qg Z.y 0) (qh (wkc ao af ac ad ae aa ab ar ay am))) h1 (zGX u1) nx))
theorem xVG:let s1:=Z.row (wkc ao af ac ad ae aa ab ar ay am) 6;let s2:=Z10.row (zK 0 0 0 0 0 0) 1;let s3:=s2.own Z10.y (zK n3 n4 n5 n6 n7 n8) 1;∀ (h1:qo 16 [qh (wkc ao af ac ad ae aa ab ar ay am)] s1 (iV n1) s1) (h2:qo 59 [qh (wkc ao af ac ad ae aa ab ar ay am),.bool true,.func (.func 65) ⟨[]⟩ ⟨[]⟩] s1 (.tuple ⟨[.slice q2 l2 c2,qh (zK n3 n4 n5 n6 n7 n8),.bool b9]⟩) Z10) (nx:Q (.tuple ⟨[.slice q2 l2 c2,iV n3,iV 0]⟩) s3) (u1:n1=0:=by omega),qi 37 [qh (wkc ao af ac ad ae aa ab ar ay am)] Z Q:=
 let s1:=Z.row (wkc ao af ac ad ae aa ab ar ay am) 6;let s2:=Z10.row (zK 0 0 0 0 0 0) 1;let s3:=s2.own Z10.y (zK n3 n4 n5 n6 n7 n8) 1;fun h1 h2 nx u1=>zG [.g,.g,.g,.g,.l (qh (wkc ao af ac ad ae aa ab ar ay am)),.c (iV n1) s1,.g,.g,.b false,.g,.l (qh (wkc ao af ac ad ae aa ab ar ay am)),.g,.c (.tuple ⟨[.slice q2 l2 c2,qh (zK n3 n4 n5 n6 n7 n8),.bool b9]⟩) Z10,.g,.g,.g,.g,.g,.g,.e undef s3,.g,.g,.i,.l (iV n3),.g,.g,.g] (kd (an2 ((zC _ _ _).rw.ldN xV xB (k:=0) rfl rfl (nle rfl):lz s1 34 (qg Z.y 0) (qh (wkc ao af ac ad ae aa ab ar ay am))) h1 (an6 (vG u1) ((zC _ _ _).rw.ldN xV xB (k:=0) rfl rfl (nle rfl):lz s1 34 (qg Z.y 0) (qh (wkc ao af ac ad ae aa ab ar ay am))) h2 ((zC _ _ _).store (vs:=(zK n3 n4 n5 n6 n7 n8)) rfl wQ rfl (nle rfl) rfl:qq (evL [pq Z10.y 0,qh (zK n3 n4 n5 n6 n7 n8)]) s2 (.store 98 (.tmp 0) (.tmp 1))=some (undef,s3)) (⟨by decide,by decide⟩:xNB 0 6) ((zC _ _ _).put.rw.ld zU (k:=0) rfl:lz s3 3 (qg Z10.y 0) (iV n3)) nx)))
theorem xQM:let s1:=Z.row (zK 0 0 0 0 0 0) 1;let s2:=s1.own Z.y (zK n1 0 0 0 0 0) 1;∀ (h1:qo 63 [.slice who bk bJ] s1 (iV n1) s1) (nx:Q (qh (zK n1 0 0 0 0 0)) s2),qi 65 [iV x0,.slice who bk bJ] Z Q:=
 let s1:=Z.row (zK 0 0 0 0 0 0) 1;let s2:=s1.own Z.y (zK n1 0 0 0 0 0) 1;fun h1 nx=>zG [.g,.g,.c (iV n1) s1,.g,.e undef s2,.l (qh (zK n1 0 0 0 0 0))] (kd (an3 h1 ((zC _ _ _).store (vs:=(zK n1 0 0 0 0 0)) rfl wQ rfl (nle rfl) rfl:qq (evL [pq Z.y 0,qh (zK n1 0 0 0 0 0)]) s1 (.store 98 (.tmp 0) (.tmp 1))=some (undef,s2)) ((zC _ _ _).put.rw.ldN zCT wQ (k:=0) rfl rfl (nle rfl):lz s2 98 (qg Z.y 0) (qh (zK n1 0 0 0 0 0))) nx))
end
end Go.Proofs.YtgfiniccfpfplaaGreat
