import Derived.Test.YtgfiniccfpfplaaRN
import Derived.Test.YtgfiniccfpfplaaLayD
import Derived.Test.YtgfiniccfpfplaaTy
set_option linter.unusedVariables false
set_option linter.unusedSimpArgs false
set_option maxRecDepth 20000
namespace Go.Proofs.Ytgfiniccfpfplaa
open Go Go.Lay
open Try renaming prog → Pg
@[reducible] def zTH (w:Wk) (p:Option Addr) (l c:Nat) (q:Option Addr) (m d:Nat) (leaves:Bool) (wfv:Value) (bm:Nat):List Value:=[iV w.M,.slice p l c,.slice q m d,iV w.rest,iV w.run,iV w.j,.bool leaves,wfv,.map (some bm)]
section
variable {σ:St} {b n:Nat} {f:Nat→Std}
theorem yWX (o:Own σ b (stL f) n) {i k:Nat} {x:Int} (hi:i<6) (hx:[(f i).free,(f i).row,(f i).used,(f i).day][k]?=some x):zB Pg σ 3 ⟨b,0+Int.toNat (i:Int)*4+k,none⟩=some (zZ x):=by
 rw [Int.toNat_natCast];have hk:k<4:=by have:=(List.getElem?_eq_some_iff.1 hx).1;simpa using this
 have key:(stL f)[0+i*4+k]?=some (zZ x):=by
  match i,hi,k,hk with
  | 0,_,0,_=>exact congrArg (Option.map zZ) hx
  | 0,_,1,_=>exact congrArg (Option.map zZ) hx
  | 0,_,2,_=>exact congrArg (Option.map zZ) hx
  | 0,_,3,_=>exact congrArg (Option.map zZ) hx
  | 1,_,0,_=>exact congrArg (Option.map zZ) hx
  | 1,_,1,_=>exact congrArg (Option.map zZ) hx
  | 1,_,2,_=>exact congrArg (Option.map zZ) hx
  | 1,_,3,_=>exact congrArg (Option.map zZ) hx
  | 2,_,0,_=>exact congrArg (Option.map zZ) hx
  | 2,_,1,_=>exact congrArg (Option.map zZ) hx
  | 2,_,2,_=>exact congrArg (Option.map zZ) hx
  | 2,_,3,_=>exact congrArg (Option.map zZ) hx
  | 3,_,0,_=>exact congrArg (Option.map zZ) hx
  | 3,_,1,_=>exact congrArg (Option.map zZ) hx
  | 3,_,2,_=>exact congrArg (Option.map zZ) hx
  | 3,_,3,_=>exact congrArg (Option.map zZ) hx
  | 4,_,0,_=>exact congrArg (Option.map zZ) hx
  | 4,_,1,_=>exact congrArg (Option.map zZ) hx
  | 4,_,2,_=>exact congrArg (Option.map zZ) hx
  | 4,_,3,_=>exact congrArg (Option.map zZ) hx
  | 5,_,0,_=>exact congrArg (Option.map zZ) hx
  | 5,_,1,_=>exact congrArg (Option.map zZ) hx
  | 5,_,2,_=>exact congrArg (Option.map zZ) hx
  | 5,_,3,_=>exact congrArg (Option.map zZ) hx
 exact o.ld rfl zS key
theorem xOR (o:Own σ b (stL f) n) {i:Nat} (hi:i<6) (x:Int):zQ Pg (evL [.pointer (some ⟨b,0+Int.toNat (i:Int)*4+1,none⟩),zZ x]) σ (.store 3 (.tmp 0) (.tmp 1))=some (undef,σ.own b (stL (upd f i ⟨(f i).free,x,(f i).used,(f i).day⟩)) n):=by
 rw [Int.toNat_natCast];match i,hi with
 | 0,_=>exact o.store (k:=1) (vs:=[zZ x]) rfl wZ rfl (by simp [stL]) rfl
 | 1,_=>exact o.store (k:=5) (vs:=[zZ x]) rfl wZ rfl (by simp [stL]) rfl
 | 2,_=>exact o.store (k:=9) (vs:=[zZ x]) rfl wZ rfl (by simp [stL]) rfl
 | 3,_=>exact o.store (k:=13) (vs:=[zZ x]) rfl wZ rfl (by simp [stL]) rfl
 | 4,_=>exact o.store (k:=17) (vs:=[zZ x]) rfl wZ rfl (by simp [stL]) rfl
 | 5,_=>exact o.store (k:=21) (vs:=[zZ x]) rfl wZ rfl (by simp [stL]) rfl
theorem xGI (o:Own σ b (stL f) n) {i:Nat} (hi:i<6) (x:Int):zQ Pg (evL [.pointer (some ⟨b,0+Int.toNat (i:Int)*4+0,none⟩),zZ x]) σ (.store 3 (.tmp 0) (.tmp 1))=some (undef,σ.own b (stL (upd f i ⟨x,(f i).row,(f i).used,(f i).day⟩)) n):=by
 rw [Int.toNat_natCast];match i,hi with
 | 0,_=>exact o.store (k:=0) (vs:=[zZ x]) rfl wZ rfl (by simp [stL]) rfl
 | 1,_=>exact o.store (k:=4) (vs:=[zZ x]) rfl wZ rfl (by simp [stL]) rfl
 | 2,_=>exact o.store (k:=8) (vs:=[zZ x]) rfl wZ rfl (by simp [stL]) rfl
 | 3,_=>exact o.store (k:=12) (vs:=[zZ x]) rfl wZ rfl (by simp [stL]) rfl
 | 4,_=>exact o.store (k:=16) (vs:=[zZ x]) rfl wZ rfl (by simp [stL]) rfl
 | 5,_=>exact o.store (k:=20) (vs:=[zZ x]) rfl wZ rfl (by simp [stL]) rfl
end
section
variable {σ:St} {w:Wk} {p q:Option Addr} {l m c d Bp bm:Nat} {leaves:Bool} {wfv:Value}
def wS (w:Wk) (D j:Nat) (st:Nat→Std):Nat→Std:=fun k=>if k<j then zOQ w D (st k) else st k
theorem yXK {D j:Nat} {st:Nat→Std}:upd (wS w D j st) j (zOQ w D (st j))=wS w D (j+1) st:=by
 funext k;unfold upd wS;by_cases e:k=j
 ·subst e;rw [if_pos rfl,if_pos (by omega)]
 ·rw [if_neg e];by_cases h:k<j
  ·rw [if_pos h,if_pos (by omega)]
  ·rw [if_neg h,if_neg (by omega)]
theorem xBY {D:Nat} {st:Nat→Std} (hm:w.L.length=m):wS w D m st=zCM w D st:=by
 funext k;unfold wS zCM;rw [hm]
theorem xVA {D:Nat} {st:Nat→Std} (hp:Row σ ⟨Bp,0,none⟩ (zTH w p l c q m d leaves wfv bm)) (hm:w.L.length=m) (hm6:m≤6) (hD:D≤7) (hrest:0≤w.rest∧w.rest≤3000):zD Pg 73 [.pointer (some ⟨Bp,0,none⟩),iV (D:Int),.agg ⟨stL st⟩] σ (.agg ⟨stL (zCM w D st)⟩) σ:=by
 obtain ⟨τ0,hτ0⟩:∃ τ0,τ0=(σ.re.row (stL st) 4).row zEO 4:=⟨_,rfl⟩;have N0:New σ.re τ0:=by rw [hτ0];exact (New.row _ _ _).row'
 have o1:Own τ0 σ.y (stL st) 4:=by rw [hτ0];exact (zC σ.re (stL st) 4).row
 have o2:Own τ0 (σ.y+1) (stL fun _=>zUM) 4:=by rw [hτ0,← yBI];exact zC (σ.re.row (stL st) 4) zEO 4
 have hp':∀ {τ},Le σ τ→Row τ ⟨Bp,0,none⟩ (zTH w p l c q m d leaves wfv bm):=fun h=>hp.le h
 have hr0:Row τ0 ⟨Bp,0,none⟩ (zTH w p l c q m d leaves wfv bm):=hp' ((le0 σ).trans N0.le);have l1:zB Pg τ0 41 (zN ⟨Bp,0,none⟩ 2)=some (.slice q m d):=hr0.load1 zAE rfl;rw [hτ0] at l1;have e0:stL st=stL (wS w D 0 st):=by congr 1
 refine (xPZ l1 (ySB (Inv:=fun k i τ=>New σ.re τ∧∃ j:Nat,i=j∧j+k=m∧Own τ σ.y (stL (wS w D j st)) 4∧Own τ (σ.y+1) (stL fun _=>zUM) 4)
  (Q0:=fun τ=>New σ.re τ∧Own τ σ.y (stL (zCM w D st)) 4∧Own τ (σ.y+1) (stL fun _=>zUM) 4) ?_ m 0 _ ⟨by rw [← yBI] at *;exact hτ0 ▸ N0,0,rfl,by omega,by rw [← e0];exact hτ0 ▸ o1,hτ0 ▸ o2⟩) ?_).pure
 ·rintro k i τ ⟨hN,j,rfl,hk,w1,w2⟩;have hlt:=w2.lt;by_cases hj:j<m
  ·have hj6:j<6:=by omega
   have ej:wS w D j st j=st j:=by unfold wS;rw [if_neg (by omega)]
   have ld:=yWX (k:=3) (x:=(st j).day) w1 hj6 (by rw [ej];rfl);by_cases hd:(st j).day=(D:Int)
   ·refine xHV ld ⟨k-1,by omega,hN,j+1,by omega,by omega, ?_,w2⟩ (by omega) (by omega) hd (by omega);have e1:wS w D (j+1) st=wS w D j st:=by
     rw [← yXK];funext k';unfold upd;by_cases e:k'=j
     ·subst e;rw [if_pos rfl,ej];unfold zOQ;rw [if_pos hd]
     ·rw [if_neg e]
    rw [e1];exact w1
   ·have st1:=xOR w1 hj6 0;have k1:Own (τ.own σ.y (stL (upd (wS w D j st) j ⟨(wS w D j st j).free,0,(wS w D j st j).used,(wS w D j st j).day⟩)) 4) σ.y (stL (upd (wS w D j st) j ⟨(wS w D j st j).free,0,(wS w D j st j).used,(wS w D j st j).day⟩)) 4:=w1.put;obtain ⟨τ1,hτ1⟩:∃ τ1,τ1=τ.own σ.y (stL (upd (wS w D j st) j ⟨(wS w D j st j).free,0,(wS w D j st j).used,(wS w D j st j).day⟩)) 4:=⟨_,rfl⟩;rw [← hτ1] at st1 k1;have N1:New σ.re τ1:=by rw [hτ1];exact hN.own (by show σ.y≤σ.y;omega)
    have u2:Own τ1 (σ.y+1) (stL fun _=>zUM) 4:=by rw [hτ1];exact w2.own (by omega)
    have eu:upd (wS w D j st) j ⟨(wS w D j st j).free,0,(wS w D j st j).used,(wS w D j st j).day⟩ j=⟨(st j).free,0,(st j).used,(st j).day⟩:=by unfold upd;rw [if_pos rfl,ej]
    have ld2:=yWX (k:=0) (x:=(st j).free) k1 hj6 (by rw [eu];rfl);have ld3:zB Pg τ1 3 (zN ⟨Bp,0,none⟩ 3)=some (iV w.rest):=(hp' ((le0 σ).trans N1.le)).load1 zS rfl;have kr:Row (τ1.row [iV (st j).free,iV (((D:Int)+1)*1440-w.rest)] 1) ⟨τ1.y,0,none⟩ [iV (st j).free,iV (((D:Int)+1)*1440-w.rest)]:=xQ _ _ _;have cl:=xJT (c:=2) kr;have st2:=xGI (k1.row (ds:=[iV (st j).free,iV (((D:Int)+1)*1440-w.rest)]) (m:=1)) hj6 (max (st j).free (((D:Int)+1)*1440-w.rest));rw [eu] at st2;refine xHW ld st1 ld2 ld3 cl st2 ⟨k-1,by omega,N1.row'.own (by show σ.y≤σ.y;omega),j+1,by omega,by omega, ?_,(u2.row (ds:=[iV (st j).free,iV (((D:Int)+1)*1440-w.rest)]) (m:=1)).own (by omega)⟩ (by omega) (by omega) hd (by omega) (by omega) (by omega) (by omega);have e2:upd (upd (wS w D j st) j ⟨(wS w D j st j).free,0,(wS w D j st j).used,(wS w D j st j).day⟩) j ⟨max (st j).free (((D:Int)+1)*1440-w.rest),0,(st j).used,(st j).day⟩=wS w D (j+1) st:=by
     rw [← yXK];funext k';unfold upd;by_cases e:k'=j
     ·rw [if_pos e,if_pos e];unfold zOQ;rw [if_neg hd]
     ·rw [if_neg e,if_neg e,if_neg e]
    rw [← e2];exact (k1.row (ds:=[iV (st j).free,iV (((D:Int)+1)*1440-w.rest)]) (m:=1)).put
  ·have:j=m:=by omega
   subst this;exact xHU ⟨hN,by rw [← xBY hm];exact w1,w2⟩ (by omega)
 ·rintro τ ⟨hN,w1,w2⟩;exact ySA (uF w1) (zUR w2 _) (uF w2.put) ⟨rfl,(hN.own (b:=σ.y+1) (n:=4) (cs:=stL (zCM w D st)) (by show σ.y≤σ.y+1;omega)).lw⟩
theorem xVR {bq g:Nat} {gc:List Value} {R:Nat→Bool} (hq:Row σ ⟨bq,0,none⟩ yCC) (hc:∀ j:Nat,j<5→∀ τ,Le σ τ→zD Pg g (.agg ⟨[.int .u8 (j:Int),.func (.func (64+j)) ⟨[]⟩ ⟨[]⟩]⟩::gc) τ (.bool (R j)) τ) :
  ∃ n:Int,zD Pg 105 [.slice (some ⟨bq,0,none⟩) 5 5,.func (.func g) ⟨[]⟩ ⟨gc⟩] σ (iV n) σ∧(0≤n↔(List.range 5).any R=true):=by
 have hq0:=hq.re;by_cases h:(List.range 5).any R=true
 ·have hex:∃ j,j<5∧R j=true∧∀ i,i<j→R i=false:=by
   have:∃ j,j<5∧R j=true:=by
    obtain ⟨j,hj,e⟩:=List.any_eq_true.1 h;exact ⟨j,List.mem_range.1 hj,e⟩
   obtain ⟨j0,hj0,e0⟩:=this;have key:∀ n,(∃ j,j<n∧j<5∧R j=true)→∃ j,j<5∧R j=true∧∀ i,i<j→R i=false:=by
    intro n;induction n with
    | zero=>rintro ⟨j,h,_⟩;omega
    | succ n ih =>
     rintro ⟨j,h1,h2,h3⟩;by_cases hx:∃ j,j<n∧j<5∧R j=true
     ·exact ih hx
     ·have:j=n:=by
       by_cases e:j<n
       ·exact absurd ⟨j,e,h2,h3⟩ hx
       ·omega
      subst this;refine ⟨j,h2,h3,fun i hi=>?_⟩
      cases e:R i with
      | false=>rfl
      | true=>exact absurd ⟨i,hi,by omega,e⟩ hx
   exact key 5 ⟨j0,hj0,hj0,e0⟩
  obtain ⟨j0,hj0,e0,hb⟩:=hex;refine ⟨(j0:Int),(yYO (zYK (Inv:=fun k i τ=>τ=σ.re∧∃ j:Nat,i=j∧j+k=5∧j≤j0) (Qr:=fun x τ=>τ=σ.re∧x=(j0:Int)) (Q0:=fun τ=>False) ?_ 5 0 σ.re ⟨rfl,0,rfl,by omega,by omega⟩) (fun x τ h=>yTS ⟨by rw [h.2],by rw [h.1];exact Nat.le_refl _⟩) (fun τ h=>h.elim)).pure,⟨fun _=>h,fun _=>by omega⟩⟩
  rintro k i τ ⟨rfl,j,rfl,hk,hj⟩;have ld:=zUU hq0 (show j<5 by omega);have cc:=hc j (by omega) σ.re (le0 σ);by_cases e:j=j0
  ·subst e;rw [e0] at cc;exact xKP ld cc ⟨rfl,rfl⟩ (by omega) (by omega)
  ·rw [hb j (by omega)] at cc;exact yMM ld cc ⟨k-1,by omega,rfl,j+1,by omega,by omega,by omega⟩ (by omega) (by omega) (by omega)
 ·have hb:∀ i,i<5→R i=false:=fun i hi=>by
   cases e:R i with
   | false=>rfl
   | true=>exact absurd (List.any_eq_true.2 ⟨i,List.mem_range.2 hi,e⟩) h
  refine ⟨-1,(yYO (zYK (Inv:=fun k i τ=>τ=σ.re∧∃ j:Nat,i=j∧j+k=5) (Qr:=fun x τ=>False) (Q0:=fun τ=>τ=σ.re) ?_ 5 0 σ.re ⟨rfl,0,rfl,by omega⟩) (fun x τ h=>h.elim) (fun τ h=>yTT ⟨rfl,by rw [h];exact Nat.le_refl _⟩)).pure,⟨fun e=>absurd e (by omega),fun e=>absurd e h⟩⟩
  rintro k i τ ⟨rfl,j,rfl,hk⟩;by_cases hj:j<5
  ·have ld:=zUU hq0 hj;have cc:=hc j hj σ.re (le0 σ);rw [hb j hj] at cc;exact yMM ld cc ⟨k-1,by omega,rfl,j+1,by omega,by omega⟩ (by omega) (by omega) (by omega)
  ·exact xKO rfl (by omega)
theorem xVY {bq g:Nat} {gc:List Value} {R:Nat→Bool} (hq:Row σ ⟨bq,0,none⟩ yCC) (hc:∀ j:Nat,j<5→∀ τ,Le σ τ→zD Pg g (.agg ⟨[.int .u8 (j:Int),.func (.func (64+j)) ⟨[]⟩ ⟨[]⟩]⟩::gc) τ (.bool (R j)) τ) :
  zD Pg 100 [.slice (some ⟨bq,0,none⟩) 5 5,.func (.func g) ⟨[]⟩ ⟨gc⟩] σ (.bool ((List.range 5).any R)) σ:=by
 obtain ⟨n,c1,hn⟩:=xVR (σ:=σ.re) (gc:=gc) hq.re (fun j hj τ hτ=>hc j hj τ ((le0 σ).trans hτ));cases e:(List.range 5).any R with
 | true=>exact (xRN c1 ⟨rfl,Nat.le_refl _⟩ (hn.2 e)).pure
 | false=>exact (xRM c1 ⟨rfl,Nat.le_refl _⟩ (fun h=>by rw [hn.1 h] at e;cases e)).pure
theorem xWE {bq g:Nat} {gc:List Value} {R:Nat→Bool} (hq:Row σ ⟨bq,0,none⟩ yCC) (hc:∀ j:Nat,j<5→∀ τ,Le σ τ→zD Pg g (.agg ⟨[.int .u8 (j:Int),.func (.func (64+j)) ⟨[]⟩ ⟨[]⟩]⟩::gc) τ (.bool (R j)) τ) :
  zD Pg 90 [.slice (some ⟨bq,0,none⟩) 5 5,.func (.func g) ⟨[]⟩ ⟨gc⟩] σ (.bool ((List.range 5).all R)) σ:=by
 obtain ⟨τ0,hτ0⟩:∃ τ0,τ0=σ.re.row [.func (.func g) ⟨[]⟩ ⟨gc⟩] 1:=⟨_,rfl⟩;have N0:New σ.re τ0:=by rw [hτ0];exact New.row _ _ _
 have o0:Row τ0 ⟨σ.y,0,none⟩ [.func (.func g) ⟨[]⟩ ⟨gc⟩]:=by rw [hτ0];exact xQ _ _ _
 have L0:Le σ τ0:=(le0 σ).trans N0.le;have c1:=xVY (σ:=τ0) (g:=101) (gc:=[.pointer (some ⟨σ.y,0,none⟩)]) (R:=fun j=>!R j) (hq.le L0) (fun j hj τ hτ=>by
  have L1:Le τ0 (τ.re.row [.int .u8 (j:Int),.func (.func (64+j)) ⟨[]⟩ ⟨[]⟩] 2):=(hτ.trans (le0 τ)).trans (Le.row _ _ _);have ld:zB Pg (τ.re.row [.int .u8 (j:Int),.func (.func (64+j)) ⟨[]⟩ ⟨[]⟩] 2) 143 ⟨σ.y,0,none⟩=some (.func (.func g) ⟨[]⟩ ⟨gc⟩):=(o0.le L1).ld xWH rfl;have cc:=hc j hj _ (L0.trans L1);cases e:R j with
  | true=>rw [e] at cc;exact (xNC ld cc ⟨rfl,Nat.le_refl _⟩).pure
  | false=>rw [e] at cc;exact (xNB ld cc ⟨rfl,Nat.le_refl _⟩).pure)
 have hall:(List.range 5).all R=!(List.range 5).any fun j=>!R j:=by
  rw [List.all_eq_not_any_not]
 rw [hall];rw [hτ0] at c1;cases e:(List.range 5).any fun j=>!R j with
 | true=>rw [e] at c1;exact (xSM c1 ⟨rfl,Nat.le_refl _⟩).pure
 | false=>rw [e] at c1;exact (xSL c1 ⟨rfl,Nat.le_refl _⟩).pure
theorem xXB {k i:Nat} {s:Std} (hp:Row σ ⟨Bp,0,none⟩ (zTH w p l c q m d leaves wfv bm)) (h:WkP σ 69 61 w p l q m) (hsh:uX w) (hk:k<m) (hi:i<l) (hs:StOk s) (hx:DtOk (dty w i)) (he:0≤(dty w i).hi∧(dty w i).hi≤1000000) :
  ∃ s',zD Pg 71 [.pointer (some ⟨Bp,0,none⟩),iV (k:Int),iV (i:Int),zLT s] σ (.tuple ⟨[zLT s',.bool (zEU w k i s)]⟩) σ∧(zEU w k i s=true→s'=take s (dty w i) (dty w i).hi):=by
 have hln:=h.len.1;obtain ⟨t0,ht0⟩:∃ t0,t0=((((σ.re.row [.pointer (some ⟨Bp,0,none⟩)] 1).row [iV (k:Int)] 1).row (zK s.free s.row s.used s.day) 4).row (zK 0 0 0 0) 4):=⟨_,rfl⟩;have N0:New σ.re t0:=by rw [ht0];exact (((New.row _ _ _).row').row').row'
 have x0:t0.y=σ.y+4:=by rw [ht0];rfl
 have L0:Le σ t0:=(le0 σ).trans N0.le;obtain ⟨t1,ht1⟩:∃ t1,t1=(t0.row (zF 0 0 0 0 0) 5).own (σ.y+4) (zF (dty w i).day (dty w i).on (dty w i).lo (dty w i).hi (dty w i).route) 5:=⟨_,rfl⟩;have N1:New σ.re t1:=by rw [ht1];exact N0.row'.own (by show σ.y≤σ.y+4;omega)
 have L1:Le σ t1:=(le0 σ).trans N1.le;have x1:t1.y=σ.y+5:=by rw [ht1];show t0.y+1=_;omega
 have r0:Row t0 ⟨Bp,0,none⟩ (zTH w p l c q m d leaves wfv bm):=hp.le L0;have oA:Row t1 ⟨σ.y,0,none⟩ [.pointer (some ⟨Bp,0,none⟩)]:=by rw [ht1,ht0];exact (xQ σ.re [.pointer (some ⟨Bp,0,none⟩)] 1).row.row.row.row.own (by show σ.y≠_;omega)
 have oB:Row t1 ⟨σ.y+1,0,none⟩ [iV (k:Int)]:=by rw [ht1,ht0];exact (xQ (σ.re.row [.pointer (some ⟨Bp,0,none⟩)] 1) [iV (k:Int)] 1).row.row.row.own (by show σ.y+1≠_;omega)
 have oC:Own t1 (σ.y+2) (zK s.free s.row s.used s.day) 4:=by rw [ht1,ht0];exact (zC ((σ.re.row [.pointer (some ⟨Bp,0,none⟩)] 1).row [iV (k:Int)] 1) (zK s.free s.row s.used s.day) 4).row.row.own (by show σ.y+2≠_;omega)
 have oD:Own t1 (σ.y+3) (zK 0 0 0 0) 4:=by rw [ht1,ht0];exact (zC (((σ.re.row [.pointer (some ⟨Bp,0,none⟩)] 1).row [iV (k:Int)] 1).row (zK s.free s.row s.used s.day) 4) (zK 0 0 0 0) 4).row.own (by show σ.y+3≠_;omega)
 have oE:Row t1 ⟨σ.y+4,0,none⟩ (zF (dty w i).day (dty w i).on (dty w i).lo (dty w i).hi (dty w i).route):=by
  rw [ht1,← x0];exact ((zC t0 (zF 0 0 0 0 0) 5).put).rw
 obtain ⟨a,rfl,y,hy,ly⟩:=vQ (SlV.le h.dty L0) hi;have gy:dty w i=y:=by unfold dty;rw [List.getD_eq_getElem?_getD,hy];rfl
 rw [← gy] at ly;have l1:zB Pg t0 40 (zN ⟨Bp,0,none⟩ 1)=some (.slice (some a) l c):=r0.load1 zBD rfl;obtain ⟨bq,t2,kq,n2,hbq,rq⟩:=zTG (σ:=t1);have N2:New σ.re t2:=N1.trans n2;have L2:Le σ t2:=(le0 σ).trans N2.le;have oA2:=oA.le n2.le;have oB2:=oB.le n2.le;have oC2:=oC.le n2.le;have oD2:=oD.le n2.le;have oE2:=oE.le n2.le;have nx2:=n2.nx;have ca:=xWE (σ:=t2) (g:=91) (gc:=[.pointer (some ⟨σ.y,0,none⟩),.pointer (some ⟨σ.y+1,0,none⟩),.pointer (some ⟨σ.y+4,0,none⟩),.pointer (some ⟨σ.y+2,0,none⟩)]) (R:=fun j=>holds w j (drQ w k) (dty w i) s) rq (fun j hj τ hτ=>by
  have LT:Le t2 (τ.re.row [.int .u8 (j:Int),.func (.func (64+j)) ⟨[]⟩ ⟨[]⟩] 2):=(hτ.trans (le0 τ)).trans (Le.row _ _ _);have LS:=L2.trans LT;have q1:zB Pg (τ.re.row [.int .u8 (j:Int),.func (.func (64+j)) ⟨[]⟩ ⟨[]⟩] 2) 103 ⟨σ.y,0,none⟩=some (.pointer (some ⟨Bp,0,none⟩)):=(oA2.le LT).ld uR rfl;have q2:zB Pg (τ.re.row [.int .u8 (j:Int),.func (.func (64+j)) ⟨[]⟩ ⟨[]⟩] 2) 43 ⟨Bp,0,none⟩=some (.agg ⟨wkc w.M (some a) l c q m d w.rest w.run w.j⟩):=(hp.le LS).ldN (k:=0) xS yW (ds:=wkc w.M (some a) l c q m d w.rest w.run w.j) rfl rfl (by simp);have q3:zB Pg (τ.re.row [.int .u8 (j:Int),.func (.func (64+j)) ⟨[]⟩ ⟨[]⟩] 2) 3 ⟨σ.y+1,0,none⟩=some (iV (k:Int)):=(oB2.le LT).ld zS rfl;have q4:zB Pg (τ.re.row [.int .u8 (j:Int),.func (.func (64+j)) ⟨[]⟩ ⟨[]⟩] 2) 69 ⟨σ.y+4,0,none⟩=some (.agg ⟨zF (dty w i).day (dty w i).on (dty w i).lo (dty w i).hi (dty w i).route⟩):=(oE2.le LT).ldN (k:=0) zMO uE rfl rfl (by simp);have q5:zB Pg (τ.re.row [.int .u8 (j:Int),.func (.func (64+j)) ⟨[]⟩ ⟨[]⟩] 2) 87 ⟨σ.y+2,0,none⟩=some (.agg ⟨zK s.free s.row s.used s.day⟩):=(oC2.le LT).ldN (k:=0) zAV xN rfl rfl (by simp);have ck:=xTS (c:=c) (d:=d) (h.le LS) hsh hk hs hx hj;exact (xQM q1 q2 q3 q4 q5 ck ⟨rfl,Nat.le_refl _⟩).pure)
 have q5:zB Pg t2 87 ⟨σ.y+2,0,none⟩=some (.agg ⟨zK s.free s.row s.used s.day⟩):=oC2.ldN (k:=0) zAV xN rfl rfl (by simp);have stD:∀ {z:St} {x:Std},Own z (σ.y+3) (zK 0 0 0 0) 4→zQ Pg (evL [.pointer (some ⟨σ.y+3,0,none⟩),.agg ⟨zK x.free x.row x.used x.day⟩]) z (.store 87 (.tmp 0) (.tmp 1))=some (undef,z.own (σ.y+3) (zK x.free x.row x.used x.day) 4):=fun {z x} o =>
  o.store (k:=0) (vs:=zK x.free x.row x.used x.day) rfl xN rfl (by simp) rfl
 have ht0':=ht0;rw [ht1] at kq;rw [ht0] at l1 ly kq;cases hall:(List.range 5).all (fun j=>holds w j (drQ w k) (dty w i) s) with
 | false =>
  rw [hall] at ca;have em:zEU w k i s=false:=by unfold zEU;rw [hall];rfl
  rw [em];have oD3:=oD2.put (ds:=zK s.free s.row s.used s.day);refine ⟨s,(xVH l1 ly kq ca q5 (stD oD2) (oD3.ldN (k:=0) zAV xN rfl rfl (by simp)) ⟨rfl,(N2.own (b:=σ.y+3) (n:=4) (cs:=zK s.free s.row s.used s.day) (by show σ.y≤σ.y+3;omega)).lw⟩ (by omega)).pure,fun e=>by cases e⟩
 | true =>
  rw [hall] at ca;have q6:zB Pg t2 69 ⟨σ.y+4,0,none⟩=some (.agg ⟨zF (dty w i).day (dty w i).on (dty w i).lo (dty w i).hi (dty w i).route⟩):=oE2.ldN (k:=0) zMO uE rfl rfl (by simp);have q7:zB Pg t2 3 ⟨σ.y+4,3,none⟩=some (iV (dty w i).hi):=oE2.ld zS rfl;have ck:=yFP (σ:=t2) (x:=dty w i) (e:=(dty w i).hi) hs hx (by omega);obtain ⟨s',hs'⟩:∃ s',s'=take s (dty w i) (dty w i).hi:=⟨_,rfl⟩;rw [← hs'] at ck;have st2:zQ Pg (evL [.pointer (some ⟨σ.y+2,0,none⟩),.agg ⟨zK s'.free s'.row s'.used s'.day⟩]) t2 (.store 87 (.tmp 0) (.tmp 1))=some (undef,t2.own (σ.y+2) (zK s'.free s'.row s'.used s'.day) 4) :=
   oC2.store (k:=0) (vs:=zK s'.free s'.row s'.used s'.day) rfl xN rfl (by simp) rfl
  obtain ⟨t3,ht3⟩:∃ t3,t3=t2.own (σ.y+2) (zK s'.free s'.row s'.used s'.day) 4:=⟨_,rfl⟩;have oC3:Own t3 (σ.y+2) (zK s'.free s'.row s'.used s'.day) 4:=by rw [ht3];exact oC2.put
  have oA3:Row t3 ⟨σ.y,0,none⟩ [.pointer (some ⟨Bp,0,none⟩)]:=by rw [ht3];exact oA2.own (by show σ.y≠_;omega)
  have oD3:Own t3 (σ.y+3) (zK 0 0 0 0) 4:=by rw [ht3];exact oD2.own (by omega)
  have N3:New σ.re t3:=by rw [ht3];exact N2.own (by show σ.y≤σ.y+2;omega)
  have p3:Row t3 ⟨Bp,0,none⟩ (zTH w (some a) l c q m d leaves wfv bm):=hp.le ((le0 σ).trans N3.le);rw [← ht3] at st2;obtain ⟨t4,ht4⟩:∃ t4,t4=t3.own (σ.y+3) (zK s'.free s'.row s'.used s'.day) 4:=⟨_,rfl⟩;have oD4:Own t4 (σ.y+3) (zK s'.free s'.row s'.used s'.day) 4:=by rw [ht4];exact oD3.put
  have oC4:Own t4 (σ.y+2) (zK s'.free s'.row s'.used s'.day) 4:=by rw [ht4];exact oC3.own (by omega)
  have oA4:Row t4 ⟨σ.y,0,none⟩ [.pointer (some ⟨Bp,0,none⟩)]:=by rw [ht4];exact oA3.own (by show σ.y≠_;omega)
  have N4:New σ.re t4:=by rw [ht4];exact N3.own (by show σ.y≤σ.y+3;omega)
  have p4:Row t4 ⟨Bp,0,none⟩ (zTH w (some a) l c q m d leaves wfv bm):=hp.le ((le0 σ).trans N4.le);have st4:=stD (x:=s') oD3;rw [← ht4] at st4;have x23:t3.y=t2.y:=by rw [ht3];rfl
  have x3:σ.y+5≤t3.y:=by omega
  have x4:t4.y=t3.y:=by rw [ht4];rfl
  have hBp:=hp.lt;have hBp':Bp<σ.y:=hBp;have u3:zB Pg t3 3 (zN ⟨Bp,0,none⟩ 5)=some (iV w.j):=p3.load1 zS rfl;have u4:zB Pg t4 3 (zN ⟨Bp,0,none⟩ 5)=some (iV w.j):=p4.load1 zS rfl;have v3:zB Pg t3 3 ⟨σ.y+2,2,none⟩=some (iV s'.used):=oC3.rw.ld zS rfl;have v4:zB Pg t4 3 ⟨σ.y+2,2,none⟩=some (iV s'.used):=oC4.rw.ld zS rfl;have w3:zB Pg t3 103 ⟨σ.y,0,none⟩=some (.pointer (some ⟨Bp,0,none⟩)):=oA3.ld uR rfl;have w4:zB Pg t4 103 ⟨σ.y,0,none⟩=some (.pointer (some ⟨Bp,0,none⟩)):=oA4.ld uR rfl;have em:zEU w k i s=decide (s'.used≤w.j):=by unfold zEU;rw [hall,hs'];rfl
  rw [em];have lC:zB Pg t3 87 ⟨σ.y+2,0,none⟩=some (.agg ⟨zK s'.free s'.row s'.used s'.day⟩):=oC3.ldN (k:=0) zAV xN rfl rfl (by simp);have lD:zB Pg t4 87 ⟨σ.y+3,0,none⟩=some (.agg ⟨zK s'.free s'.row s'.used s'.day⟩):=oD4.ldN (k:=0) zAV xN rfl rfl (by simp);have b1:∀ {x:Addr},x.block<t3.y→zG t3.y [.pointer (some x)]:=fun h=>zE (zO h) zH
  have b2:zG t3.y [.pointer (some ⟨σ.y+3,0,none⟩),.agg ⟨zK s'.free s'.row s'.used s'.day⟩]:=zE (zO (by show σ.y+3<_;omega)) (zE (yL rfl) zH);by_cases hu:s'.used≤w.j
  ·rw [decide_eq_true hu];exact ⟨s',(xVJ ⟨l1,ly,kq,ca,q5,q6,q7,ck,st2,lC,v3,w3,u3,st4,(b1 (by show σ.y+2<_;omega)),(b1 (by show σ.y+2<_;omega)),(b1 (by show σ.y<_;omega)),(b1 (by show Bp<_;omega)),b2,⟨⟨by show σ.y+2<_;omega,rfl⟩,v3⟩,⟨⟨by show σ.y+2<_;omega,rfl⟩,v4⟩,⟨⟨by show σ.y<_;omega,rfl⟩,w3⟩,⟨⟨by show σ.y<_;omega,rfl⟩,w4⟩,⟨⟨by show Bp<_;omega,rfl⟩,u3⟩,⟨⟨by show Bp<_;omega,rfl⟩,u4⟩,lD⟩ ⟨rfl,N4.lw⟩ (by omega) hu).pure,fun _=>hs'⟩
  ·rw [decide_eq_false hu];exact ⟨s',(xVI ⟨l1,ly,kq,ca,q5,q6,q7,ck,st2,lC,v3,w3,u3,st4,(b1 (by show σ.y+2<_;omega)),(b1 (by show σ.y+2<_;omega)),(b1 (by show σ.y<_;omega)),(b1 (by show Bp<_;omega)),b2,⟨⟨by show σ.y+2<_;omega,rfl⟩,v3⟩,⟨⟨by show σ.y+2<_;omega,rfl⟩,v4⟩,⟨⟨by show σ.y<_;omega,rfl⟩,w3⟩,⟨⟨by show σ.y<_;omega,rfl⟩,w4⟩,⟨⟨by show Bp<_;omega,rfl⟩,u3⟩,⟨⟨by show Bp<_;omega,rfl⟩,u4⟩,lD⟩ ⟨rfl,N4.lw⟩ (by omega) hu).pure,fun e=>by cases e⟩
end
def zQE (σ:St) (p:Option Addr) (l:Nat) (rs:List (List Int)):Prop:=∃ vs:List Value,SlV Pg σ 29 1 p l vs∧rs.length=l∧∀ (i:Nat) (r:List Int),rs[i]?=some r→∃ q c,vs[i]?=some (Value.slice q r.length c)∧yF σ q r.length r
section
variable {σ:St}
theorem zQE.le {σ':St} {p:Option Addr} {l:Nat} {rs:List (List Int)} (h:zQE σ p l rs) (k:Le σ σ'):zQE σ' p l rs:=by
 obtain ⟨vs,h1,h2,h3⟩:=h;exact ⟨vs,h1.le k,h2,fun i r hi=>by obtain ⟨q,c,g1,g2⟩:=h3 i r hi;exact ⟨q,c,g1,g2.le k⟩⟩
theorem zQE.len {p:Option Addr} {l:Nat} {rs:List (List Int)} (h:zQE σ p l rs):rs.length=l:=h.choose_spec.2.1
theorem zQE.row {p:Option Addr} {l i:Nat} {rs:List (List Int)} (h:zQE σ p l rs) (hi:i<l):∃ a,p=some a∧∃ r q c,rs[i]?=some r∧(∀ τ,Le σ τ→zB Pg τ 29 (zN a (Int.toNat (i:Int)*1))=some (.slice q r.length c))∧yF σ q r.length r:=by
 obtain ⟨vs,h1,h2,h3⟩:=h;obtain ⟨a,rfl,_⟩:=h1.some hi;obtain ⟨q,c,g1,g2⟩:=h3 i rs[i] (by simp);exact ⟨a,rfl,rs[i],q,c,by simp,fun τ hτ=>(h1.le hτ).at rfl g1,g2⟩
theorem zVN (zs:List Value):∀ N,(yZ zs N).length=N*zs.length
 | 0=>by simp [yZ]
 | N+1=>by simp [yZ,zVN zs N,Nat.add_mul];omega
theorem zSO {zs:List Value} (h:zs.all cellB=true):∀ N,(yZ zs N).all cellB=true
 | 0=>by simp [yZ]
 | N+1=>by simp only [yZ,List.all_append,zSO h N,h,Bool.and_self]
theorem xLP {α:Type} {f:α→Value} (hf:∀ x,(f x).cells.toList.all cellB=true) (r:List α):(xF (r.map f)).all cellB=true:=by
 induction r with
 | nil=>rfl
 | cons x r ih=>rw [List.map_cons,show f x::r.map f=[f x]++r.map f from rfl,uM,List.all_append,ih,Bool.and_true];simpa [xF] using hf x

theorem xRB {N:Nat} (hN:N≤1073741824):∃ p c σ',zD Pg 94 [.slice none 0 0,iV (N:Int)] σ (.slice p 0 c) σ'∧New σ σ'∧Buf σ' σ.y 1 N p 0 c []:=by
 have k0:xP Pg (evL [.slice none 0 0]) σ.re (.call { callee:=.builtin .cap,args:=⟨vA 1⟩,argTypes:=⟨[29]⟩ })=some (iV 0):=by kernel_rfl
 suffices hmain:zP Pg 94 [.slice none 0 0,iV (N:Int)] σ.re fun v s=>New σ.re s∧∃ p c,v=.slice p 0 c∧Buf s σ.y 1 N p 0 c [] by
  obtain ⟨v,σ',h1,h2,p,c,rfl,h3⟩:=zP.new hmain (by rintro v s s' ⟨p,c,rfl,h⟩ hl;exact ⟨p,c,rfl,h.le hl⟩) (by
   rintro v s hr ⟨p,c,rfl,h⟩;refine ⟨p,c,rfl, ?_⟩
   rcases h with ⟨rfl,e1,_,e2,_⟩ | ⟨b,bc,rfl,_⟩
   ·exact .inl ⟨rfl,e1,rfl,e2,rfl⟩
   ·exact Bool.noConfusion (show false=true from hr))
  exact ⟨p,c,σ',h1,h2,h3⟩
 rcases Nat.eq_zero_or_pos N with h0 | h0
 ·subst h0;exact xLD k0 ⟨New.refl _,none,0,rfl,Buf.nil⟩
 have hz:∃ ei z,Pg.info? 3=some ei∧ei.zero=some z∧ei.bytes≤4096∧zV RD z=true∧Nat.beq z.cells.toList.length 1=true∧z.cells.toList=[iV 0]:=⟨_,_,rfl,rfl,by decide,rfl,rfl,rfl⟩;obtain ⟨ei,z,hei,hz,hby,hrz,hzl,hzz⟩:=hz;have hzc:(yZ z.cells.toList N).length=N*1:=by rw [hzz];exact zVN _ N
 have hcb:(yZ z.cells.toList N).all cellB=true:=by rw [hzz];exact zSO rfl N
 have g:=xLC (P:=Pg) (σ:=σ.re) (st:=29) (xt:=3) (e:=3) (n:=1) (N:=N) (k:=.i64) (q:=.i64) (z:=z) (by kernel_rfl) (by kernel_rfl) hei hz hby hrz hzl (by omega) hN h0 hzc hcb;have o:Own (σ.re.row (yZ z.cells.toList N) 1) σ.y (yZ z.cells.toList N) 1:=zC _ _ _;have s3:yI Pg σ.re 29 (.slice none 0 0) none (some (iV 0)) none=some (.slice none 0 0):=by kernel_rfl
 obtain ⟨c6,s6,e6⟩:=yQD (P:=Pg) (t:=29) (e:=3) (N:=N) (c:=N+vW) (q:=.i64) (by kernel_rfl) (by kernel_rfl) o h0 (uP N) (zEZ N);exact xLE k0 k0 s3 (by simpa using g) (by simpa using s6) ⟨New.row _ _ _,some ⟨σ.y,0,none⟩,c6,rfl,.inr ⟨σ.y,_,rfl,e6,o,hzc,Nat.zero_le _,by simp,Nat.le_refl _,h0⟩⟩
theorem xRJ {p:Option Addr} {l c:Nat} {rs:List (List Int)} (h:zQE σ p l rs) (hl:l≤1073741824) (hN:rs.flatten.length≤1073741824) :
  ∃ p' c' σ',zD Pg 76 [.slice p l c] σ (.slice p' rs.flatten.length c') σ'∧New σ σ'∧yF σ' p' rs.flatten.length rs.flatten∧∀ b,AtP p' b→σ.y≤b:=by
 have hlen:=h.len;have h0:=h.le (le0 σ);have hsum:∀ s,((rs.take s).flatten).length≤rs.flatten.length:=fun s=>by
  have e:rs.flatten.length=((rs.take s).flatten).length+((rs.drop s).flatten).length:=by rw [← List.length_append,← List.flatten_append,List.take_append_drop]
  omega
 refine zP.newSl (xMF (P0:=fun n τ=>τ=σ.re∧n=(rs.flatten.length:Int)) (yNS (Inv:=fun k n i τ=>∃ s:Nat,i=s∧s+k=l∧τ=σ.re∧n=(((rs.take s).flatten).length:Int)) ?_ l 0 0 σ.re ⟨0,rfl,by omega,rfl,by simp⟩) ?_)
 ·rintro k n i τ ⟨s,rfl,hk,rfl,rfl⟩;by_cases hs:s<l;rotate_left
  ·exact xEB ⟨rfl,by rw [List.take_of_length_le (by omega)]⟩ (by omega)
  obtain ⟨a,rfl,r,q,d,hr,ld,hq⟩:=h0.row hs;have e1:((rs.take (s+1)).flatten).length=((rs.take s).flatten).length+r.length:=by rw [wU hr];simp
  have:=hsum (s+1);exact xEC (ld _ (Le.refl _)) ⟨k-1,by omega,s+1,by omega,by omega,rfl,by rw [e1];omega⟩ (by omega) (by omega) (by omega) (by omega) (by omega)
 ·rintro n τ ⟨rfl,rfl⟩;obtain ⟨p1,c1,σ1,k1,n1,b1⟩:=xRB (σ:=σ.re) (N:=rs.flatten.length) hN;refine yNQ k1 (P2:=fun p' l' c' τ=>l'=rs.flatten.length∧New σ.re τ∧Buf τ σ.y 1 rs.flatten.length p' l' c' (xF (rs.flatten.map zZ))) (yNR (Inv:=fun k p' l' c' i τ=>∃ s:Nat,i=s∧s+k=l∧l'=((rs.take s).flatten).length∧New σ.re τ∧Buf τ σ.y 1 rs.flatten.length p' l' c' (xF (((rs.take s).flatten).map zZ))) ?_ l p1 0 c1 0 σ1 ⟨0,rfl,by omega,rfl,n1,by simpa [xF] using b1⟩) ?_
  ·rintro k p' l' c' i τ ⟨s,rfl,hk,rfl,hNw,hb⟩;by_cases hs:s<l;rotate_left
   ·rw [List.take_of_length_le (by omega)] at hb ⊢;exact xDZ ⟨rfl,hNw,hb⟩ (by omega)
   obtain ⟨a,rfl,r,q,d,hr,ld,hq⟩:=(h0.le hNw.le).row hs;have e1:((rs.take (s+1)).flatten).length=((rs.take s).flatten).length+r.length:=by rw [wU hr];simp
   have:=hsum (s+1);obtain ⟨τ2,g1,g2,g3,g4,g5⟩:=hb.push (P:=Pg) (st:=29) (xt:=29) (e:=3) (m:=r.length) (d:=d) (q:=q) (xs:=xF (r.map zZ)) (zLR (by kernel_rfl)) hq.1 (by omega) hN (xLP (fun _=>rfl) r);have N2:New σ.re τ2:=hNw.of_only g3 (fun b hbb=>(hb.bd b hbb).1);refine xEA (ld _ (Le.refl _)) g1 ⟨k-1,by omega,s+1,by omega,by omega,by rw [e1],N2, ?_⟩ (by omega);rw [wU hr,List.flatten_append,List.map_append,uM];simpa using g2
  ·rintro p' l' c' τ ⟨rfl,hNw,hb⟩;exact yNP ⟨hNw,p',c',rfl,hb.slv (List.length_map _) (by intro v hv;obtain ⟨x,_,rfl⟩:=List.mem_map.1 hv;exact uN x),fun b hbb=>(hb.bd b hbb).1⟩
end
section
variable {σ τ:St} {w:Wk} {p q t:Option Addr} {l m c d tc:Nat} {rv:Value} {X:Nat→Prop} {f:Nat→Std} {A:List Bch} {ts:List Int}
theorem yZT {lo B3 bq k i:Nat} {wl:List Value} {qc qd:Nat} (ht:yF σ t l ts) (hk:k<6) (hi:i<l) (hs:StOk (f k)) (hx:DtOk (dty w i)) (hu:-1000000≤zY ts i∧zY ts i≤1000000)
  (hJ:J σ wl rv (.slice t l tc) X f A τ) (hB:Row τ ⟨B3,0,none⟩ (zF (dty w i).day (dty w i).on (dty w i).lo (dty w i).hi (dty w i).route)) (hX4:¬ X (σ.y+4)) {Qn:St→Prop}
  (hQ:∀ z,J σ wl rv (.slice t l tc) X (upd f k (take (f k) (dty w i) (zY ts i))) A z→Only (fun x=>¬ X x) τ z→Qn z) :
  zKD lo σ.y (σ.y+2) (σ.y+3) (σ.y+4) (i:Int) B3 (k:Int) (some ⟨bq,0,none⟩) qc qd τ Qn:=by
 have L:Le σ τ:=(le0 σ).trans hJ.new.le;obtain ⟨a,rfl,x,hxi,l4⟩:=vQ (SlV.le ht L) hi;have gx:zY ts i=x:=yP hxi;rw [gx] at hu hQ;have l3:zB Try.prog τ 29 ⟨σ.y+2,0,none⟩=some (.slice (some a) l tc):=hJ.tr.ld yV rfl;have lb:zB Try.prog τ 69 ⟨B3,0,none⟩=some (uO (dty w i)):=hB.ldN (k:=0) zMO uE (ds:=zF (dty w i).day (dty w i).on (dty w i).lo (dty w i).hi (dty w i).route) rfl rfl (by simp);obtain ⟨g1,g2,g3⟩:=hJ.take hk (take (f k) (dty w i) x) hX4;exact yIB (yFQ hJ.nw hk) lb l3 l4 (yFP hs hx hu) g1 (hQ _ g2 g3) (by omega) (by omega)
end
structure Same (n0:Nat) (z z':St):Prop where
 y:z.y≤z'.y
 get:∀ y,y<z.y→(∀ tm ps a b st pend db,yK z.heap y≠some (.loop tm ps a b st pend db))→yK z'.heap y=yK z.heap y
 old:∀ y,y<n0→yK z'.heap y=yK z.heap y
theorem Same.own {n0:Nat} {z z':St} {b n:Nat} {cs:List Value} (h:Same n0 z z') (k:Own z b cs n):Own z' b cs n:=k.at_ (h.get b k.lt (fun _ _ _ _ _ _ _ e=>by rw [k.get] at e;cases e)) h.y
theorem Same.of_le {n0:Nat} {z z':St} (h:Le z z') (hn:n0≤z.y):Same n0 z z':=⟨h.y,fun y hy _=>h.get y hy,fun y hy=>h.get y (by omega)⟩
theorem Same.rw {n0:Nat} {z z':St} {a:Addr} {cs:List Value} (h:Same n0 z z') (k:Row z a cs):Row z' a cs:=by
 refine ⟨?_,Nat.lt_of_lt_of_le k.lt h.y⟩
 have:=k.rd;unfold yS at this ⊢;rw [h.get a.block k.lt (fun tm ps x y st pend db e=>by rw [e] at this;simp at this)];exact this
theorem Same.slv {n0:Nat} {z z':St} {t n len:Nat} {p:Option Addr} {vs:List Value} (h:Same n0 z z') (k:SlV Pg z t n p len vs):SlV Pg z' t n p len vs:=by
 refine ⟨⟨k.1.1, ?_⟩,k.2⟩
 cases p with
 | none=>exact k.1.2
 | some a=>exact h.rw k.1.2
theorem Same.gr {n0 m0 t n len c:Nat} {p:Option Addr} {vs:List Value} {z z':St} (h:Same n0 z z') (k:Gr Pg z m0 t n p len c vs):Gr Pg z' m0 t n p len c vs:=by
 have key:∀ {v:Value} {cs:List Value},App z m0 n v len cs→App z' m0 n v len cs:=by
  intro v cs ka;cases ka with
  | nil=>exact .nil
  | more g1 g2 g3 g4 g5 g6 g7=>exact .more (by rw [h.get _ g4 (fun _ _ _ _ _ _ _ e=>by rw [g1] at e;cases e)];exact g1) g2 g3 (Nat.lt_of_lt_of_le g4 h.y) g5 g6 g7
 exact ⟨key k.app,k.len_eq,k.el⟩
abbrev xXR (x:Dty):List Value:=zF x.day x.on x.lo x.hi x.route
abbrev yFM (z:St) (x:Dty):St:=(z.row (zF 0 0 0 0 0) 5).own z.y (xXR x) 5
theorem zUP (z:St) (x:Dty):Le z (yFM z x):=(Le.row z (zF 0 0 0 0 0) 5).own (Nat.le_refl _)
theorem xQI {σ:St} {w:Wk} {p q:Option Addr} {l m c d lo a1 a2 D:Nat} (r1:Row σ ⟨a1,0,none⟩ (wkc w.M p l c q m d w.rest w.run w.j)) (hl:l≤100000) {K:Nat→St→Prop} (h0:K 0 σ)
  (hT:∀ s z,K s z→Row z ⟨a2,0,none⟩ [zZ D]∧zQG z 69 p l w.N) (hJ:∀ s z,s<l→K s z→if (dty w s).day=(D:Int) then ∃ z',yWN Pg lo [iV (s:Int),uO (dty w s)] (yFM z (dty w s)) (.bool true) z'∧K (s+1) z' else K (s+1) (yFM z (dty w s))) :
  zP Pg 63 [.func (.yield lo) ⟨[]⟩ ⟨[]⟩,.pointer (some ⟨a1,0,none⟩),.pointer (some ⟨a2,0,none⟩)] σ fun v s=>v=.tuple ⟨[]⟩∧K l s:=by
 have hn:w.N.length=l:=by have:=(hT 0 σ h0).2.2.1;simpa using this
 refine xVC (Pr:=fun _=>False) (P0:=fun τ=>K l τ) (r1.load1 zBD (k:=1) rfl)
  (xCP (Inv:=fun k i τ=>∃ s:Nat,i=s∧s+k=l∧K s τ) (Qr:=fun _=>False) (Q0:=fun τ=>K l τ) ?_ l 0 σ ⟨0,rfl,by omega,h0⟩) (fun _ h=>h.elim) (fun τ h=>xCO ⟨rfl,h⟩)
 rintro k i τ ⟨s,rfl,hk,hj⟩;by_cases hs:s<l;rotate_left
 ·have:s=l:=by omega
  subst this;exact xQF hj (by omega)
 obtain ⟨ra,hd⟩:=hT s τ hj;obtain ⟨a,rfl,x,hx,lx⟩:=vQ hd hs;have ex:x=dty w s:=by
  unfold dty;rw [List.getD_eq_getElem?_getD,hx];rfl
 subst ex;have l2:zB Pg (yFM τ (dty w s)) 3 ⟨a2,0,none⟩=some (iV (D:Int)):=(ra.le (zUP τ (dty w s))).ld zS rfl;have h:=hJ s τ hs hj;by_cases ht:(dty w s).day=(D:Int)
 ·rw [if_pos ht] at h;obtain ⟨τ',h1,h2⟩:=h;exact xQH lx l2 h1 ⟨k-1,by omega,s+1,by omega,by omega,h2⟩ (by omega) (by omega) ht (by omega)
 ·rw [if_neg ht] at h;exact xQG lx l2 ⟨k-1,by omega,s+1,by omega,by omega,h⟩ (by omega) (by omega) ht (by omega)
theorem zTS {zf:St→Dty→St} (hzf:∀ (z:St) (x:Dty),Le z (zf z x)) (hzl:∀ (z:St) (x:Dty),z.y≤(zf z.re x).low) {w:Wk} {pp q:Option Addr} {l m c d D:Nat} {gx:Operand} {ps:Array Tmp} {a b:Code} {n:Nat} {l0:List (Nat × Value)} {Qn:St→Prop} {τ:St} {a1 a2 n0:Nat} {J:Nat→St→Prop}
  (hg:∀ g0,yG (Fm n (ov l0 g0)) gx=.func (.func 63) ⟨[]⟩ ⟨[.pointer (some ⟨a1,0,none⟩),.pointer (some ⟨a2,0,none⟩)]⟩) (r1:Row τ ⟨a1,0,none⟩ (wkc w.M pp l c q m d w.rest w.run w.j)) (hl:l≤100000) (hn0:n0≤τ.y)
  (hT:∀ s z,J s z→Row z ⟨a2,0,none⟩ [zZ D]∧zQG z 69 pp l w.N) (h0:J 0 τ) (hJ:∀ s z z',J s z→Same n0 z z'→J s z') (hskip:∀ s z,s<l→(dty w s).day≠(D:Int)→J s z→J (s+1) z)
  (hR:∀ s z z1 lo g0 db,s<l→(dty w s).day=(D:Int)→lo=τ.y+1→yK z.heap lo=some (.loop (Fm n (ov l0 g0)) ps.toList a b .ready none db)→z1=(zf z.re (dty w s)).put lo (.loop (Fm n (ov l0 g0)) ps.toList a b .busy none db)→J s z→τ.y+2≤z.y →
   ∃ z4,zFA Pg lo [iV (s:Int),uO (dty w s)] z (Fm n (ov l0 g0)) ps.toList a b db [⟨Unit,.normal,fun _=>[],fun _=>[],fun _ z=>z=z4⟩]∧J (s+1) z4∧∃ S,Only S z1 z4∧∀ y,S y→n0≤y∧y≠τ.y∧y≠τ.y+1)
  (hQ:∀ z,J l z→yK z.heap τ.y=some .defd→τ.y<z.y→(∀ m,m≤n0→m≤τ.low→m≤z.low)→Qn z):zSL Pg (zX Pg) gx ps a b n l0 [(.normal,Qn)] τ:=by
 refine xAQ (fs:=[.pointer (some ⟨a1,0,none⟩),.pointer (some ⟨a2,0,none⟩)]) (f:=63) hg (fun g0=>?_);obtain ⟨τa,hτa⟩:∃ τa,τa=(τ.add .defd).add (.loop (Fm n (ov l0 g0)) ps.toList a b .ready none τ.y):=⟨_,rfl⟩;have hN:New τ τa:=by rw [hτa];exact (New.add _ _).trans (New.add _ _)
 have nxa:τa.y=τ.y+2:=by rw [hτa];rfl
 have Ld:yK τa.heap τ.y=some .defd:=by rw [hτa,St.add_get,if_neg (by simp),St.add_get,if_pos rfl]
 have Ll:yK τa.heap (τ.y+1)=some (.loop (Fm n (ov l0 g0)) ps.toList a b .ready none τ.y):=by rw [hτa,St.add_get,if_pos (by simp)]
 have sm_re:∀ z:St,Same n0 z z.re:=fun z=>⟨Nat.le_refl _,fun _ _ _=>rfl,fun _ _=>rfl⟩
 let K:Nat→St→Prop:=fun s z=>J s z∧yK z.heap τ.y=some .defd∧yK z.heap (τ.y+1)=some (.loop (Fm n (ov l0 g0)) ps.toList a b .ready none τ.y)∧τa.y≤z.y∧n0≤z.low∧((J s τa.re∧New τa.re z)∨z.low≤τ.y+1)
 have J0:J 0 τa.re:=hJ _ _ _ (hJ _ _ _ h0 (Same.of_le hN.le hn0)) (sm_re τa);have hrun:zP Pg 63 [.func (.yield (τ.y+1)) ⟨[]⟩ ⟨[]⟩,.pointer (some ⟨a1,0,none⟩),.pointer (some ⟨a2,0,none⟩)] τa.re fun v s=>v=.tuple ⟨[]⟩∧K l s:=by
  refine xQI (w:=w) (p:=pp) (D:=D) ((r1.le hN.le).le (le0 _)) hl (K:=K) ⟨J0,Ld,Ll,Nat.le_refl _,by show n0≤τa.y;omega,.inl ⟨J0,New.refl _⟩⟩ (fun s z h=>hT s z h.1) ?_
  rintro s z hs ⟨j1,j2,j3,j4,j5,j6⟩;have zl:=zUP z (dty w s);have zn:New z (yFM z (dty w s)):=(New.row z (zF 0 0 0 0 0) 5).own (Nat.le_refl _);have kz:K s (yFM z (dty w s)):=⟨hJ _ _ _ j1 (Same.of_le zl (by omega)),by rw [zl.get _ (by omega)];exact j2,by rw [zl.get _ (by omega)];exact j3,by have:=zl.y;omega,zn.low _ j5 (by omega),j6.imp (fun h=>⟨h.1,h.2.trans zn⟩) (fun h=>Nat.le_trans (Nat.min_le_left _ _) h)⟩;by_cases ht:(dty w s).day=(D:Int);rotate_left
  ·rw [if_neg ht];obtain ⟨k1,k2,k3,k4,k5,k6⟩:=kz;exact ⟨hskip s _ hs ht k1,k2,k3,k4,k5,k6.imp (fun h=>⟨hskip s _ hs ht h.1,h.2⟩) id⟩
  rw [if_pos ht];obtain ⟨j1,j2,j3,j4,j5,j6⟩:=kz;obtain ⟨z,hz⟩:∃ z',z'=yFM z (dty w s):=⟨_,rfl⟩;rw [← hz] at j1 j2 j3 j4 j5 j6 ⊢;obtain ⟨z1,hz1⟩:∃ z1,z1=(zf z.re (dty w s)).put (τ.y+1) (.loop (Fm n (ov l0 g0)) ps.toList a b .busy none τ.y):=⟨_,rfl⟩;have zl1:=hzf z.re (dty w s);have s0:Same n0 z (zf z.re (dty w s)):=⟨zl1.y,fun y hy _=>zl1.get y hy,fun y hy=>zl1.get y (by show y<z.y;omega)⟩;have j3':yK (zf z.re (dty w s)).heap (τ.y+1)=some (.loop (Fm n (ov l0 g0)) ps.toList a b .ready none τ.y):=by rw [zl1.get _ (by show _<z.y;omega)];exact j3
  have s1:Same n0 z z1:=⟨by rw [hz1];exact zl1.y,fun y hy hne=>by
   rw [hz1,St.put_get,if_neg (fun e=>by subst e;exact hne _ _ _ _ _ _ _ j3)];exact zl1.get y hy,fun y hy=>by rw [hz1,St.put_get,if_neg (by omega)];exact zl1.get y (by show y<z.y;omega)⟩
  have nx1:z.y≤z1.y:=by rw [hz1];exact zl1.y
  have L1:yK z1.heap (τ.y+1)=some (.loop (Fm n (ov l0 g0)) ps.toList a b .busy none τ.y):=by rw [hz1,St.put_get,if_pos rfl]
  have D1:yK z1.heap τ.y=some .defd:=by rw [hz1,St.put_get,if_neg (by omega),zl1.get _ (by show _<z.y;omega)];exact j2
  obtain ⟨z4,hr,k1,S,k2,k3⟩:=hR s z z1 (τ.y+1) g0 τ.y hs ht rfl j3 hz1 j1 (by omega);have L4:yK z4.heap (τ.y+1)=some (.loop (Fm n (ov l0 g0)) ps.toList a b .busy none τ.y):=by
   rw [k2.get _ (by omega) (fun h=>(k3 _ h).2.2 rfl)];exact L1
  have D4:yK z4.heap τ.y=some .defd:=by
   rw [k2.get _ (by omega) (fun h=>(k3 _ h).2.1 rfl)];exact D1
  have n4:=k2.y;obtain ⟨e,z',⟨al,hal,rfl,t,hq⟩,hc⟩:=hr;simp only [In,or_false] at hal;subst hal;have hq:z'=z4:=hq;subst hq;have hcy:=hc (.inl rfl) (by omega) L4 (by omega);have hlow:n0≤z'.low:=k2.low n0 (by have:=hzl z (dty w s);rw [hz1];show n0≤min (zf z.re (dty w s)).low (τ.y+1);omega) (by omega) (fun y _ hy=>(k3 y hy).1);refine ⟨_,hcy,hJ _ _ _ k1 ⟨Nat.le_refl _,fun y hy hne=>?_,fun y hy=>?_⟩, ?_, ?_, ?_, ?_,.inr ?_⟩
  ·show yK (z'.put _ _).heap y=_;rw [St.put_get,if_neg (fun e=>by subst e;exact hne _ _ _ _ _ _ _ L4)]
  ·show yK (z'.put _ _).heap y=_;rw [St.put_get,if_neg (by omega)]
  ·show yK (z'.put _ _).heap _=_;rw [St.put_get,if_neg (by omega)];exact D4
  ·show yK (z'.put _ _).heap _=_;rw [St.put_get,if_pos rfl];rfl
  ·show τa.y≤z'.y;omega
  ·show n0≤min _ _;omega
  ·show min _ _≤_;omega
 obtain ⟨v,s,h1,rfl,j1,j2,j3,j4,j5,j6⟩:=hrun;have fin:∀ u z:St,J l u→yK u.heap τ.y=some .defd→yK u.heap (τ.y+1)=some (.loop (Fm n (ov l0 g0)) ps.toList a b .ready none τ.y)→τa.y≤u.y→z.heap=u.heap→z.y=u.y→(∀ m,m≤n0→m≤τ.low→m≤z.low)→yOX [(.normal,Qn)] (xLS none) (z.put (τ.y+1) (.loop (Fm n (ov l0 g0)) ps.toList a b .exhausted none τ.y)):=by
  intro u z i1 i2 i3 i4 e1 e2 e3;refine .inl ⟨rfl,hQ _ (hJ _ _ _ i1 ⟨by show u.y≤z.y;omega,fun y hy hne=>?_,fun y hy=>?_⟩) ?_ (by show τ.y<z.y;omega) (fun m h1 h2=>?_)⟩
  ·rw [St.put_get,if_neg (fun e=>by subst e;exact hne _ _ _ _ _ _ _ i3),e1]
  ·rw [St.put_get,if_neg (by omega),e1]
  ·rw [St.put_get,if_neg (by omega),e1];exact i2
  ·have:=e3 m h1 h2;show m≤min _ _;omega
 by_cases hlw:s.low≤τ.y+1
 ·refine ⟨_,⟨s.heap,s.y,min τa.low s.low⟩,.ready,none,by rw [← hτa];exact xTO h1 j4 (by omega),j3,.inl ⟨rfl,rfl⟩,fin s _ j1 j2 j3 j4 rfl rfl (fun m h1 h2=>?_)⟩
  have:=hN.low m h2 (by omega);show m≤min _ _;omega
 ·rcases j6 with ⟨g1,g2⟩ | e;rotate_left
  ·exact absurd e hlw
  refine ⟨_,τa,.ready,none,by rw [← hτa];exact zQP h1 (by omega) rfl,Ll,.inl ⟨rfl,rfl⟩,fin τa.re τa g1 Ld Ll (Nat.le_refl _) rfl rfl (fun m h1 h2=>hN.low m h2 (by omega))⟩
theorem yUJ {w:Wk} {pp q:Option Addr} {l m c d D:Nat} {gx:Operand} {ps:Array Tmp} {a b:Code} {n:Nat} {l0:List (Nat × Value)} {Qn:St→Prop} {τ:St} {a1 a2 n0:Nat} {J:Nat→St→Prop}
  (hg:∀ g0,yG (Fm n (ov l0 g0)) gx=.func (.func 63) ⟨[]⟩ ⟨[.pointer (some ⟨a1,0,none⟩),.pointer (some ⟨a2,0,none⟩)]⟩) (r1:Row τ ⟨a1,0,none⟩ (wkc w.M pp l c q m d w.rest w.run w.j)) (hl:l≤100000) (hn0:n0≤τ.y)
  (hT:∀ s z,J s z→Row z ⟨a2,0,none⟩ [zZ D]∧zQG z 69 pp l w.N) (h0:J 0 τ) (hJ:∀ s z z',J s z→Same n0 z z'→J s z') (hskip:∀ s z,s<l→(dty w s).day≠(D:Int)→J s z→J (s+1) z)
  (hR:∀ s z z1 lo g0 db,s<l→(dty w s).day=(D:Int)→lo=τ.y+1→yK z.heap lo=some (.loop (Fm n (ov l0 g0)) ps.toList a b .ready none db)→z1=(yFM z.re (dty w s)).put lo (.loop (Fm n (ov l0 g0)) ps.toList a b .busy none db)→J s z→τ.y+2≤z.y →
   ∃ z4,zFA Pg lo [iV (s:Int),uO (dty w s)] z (Fm n (ov l0 g0)) ps.toList a b db [⟨Unit,.normal,fun _=>[],fun _=>[],fun _ z=>z=z4⟩]∧J (s+1) z4∧∃ S,Only S z1 z4∧∀ y,S y→n0≤y∧y≠τ.y∧y≠τ.y+1)
  (hQ:∀ z,J l z→yK z.heap τ.y=some .defd→τ.y<z.y→(∀ m,m≤n0→m≤τ.low→m≤z.low)→Qn z):zSL Pg (zX Pg) gx ps a b n l0 [(.normal,Qn)] τ :=
 zTS zUP (fun z x=>by show z.y≤min z.y z.y;omega) hg r1 hl hn0 hT h0 hJ hskip hR hQ
section
variable {w:Wk} {ros tru:Nat→Int} {l m:Nat}
structure StB (s:Std) (n:Nat):Prop where
 free:-10080≤s.free∧s.free≤100000
 day:-1≤s.day∧s.day≤6
 row:0≤s.row∧s.row≤15+s.day
 used:0≤s.used∧s.used≤20000+1440*n
theorem StB.ok {s:Std} {n:Nat} (h:StB s n) (hn:n≤200):StOk s:=by
 have h1:=h.free;have h2:=h.day;have h3:=h.row;have h4:=h.used;exact ⟨by omega,by omega,by omega,by omega⟩
theorem StB.mono {s:Std} {n n':Nat} (h:StB s n) (hn:n≤n'):StB s n':=⟨h.free,h.day,h.row,by have:=h.used;omega⟩
theorem StB.take {s:Std} {x:Dty} {e:Int} {n:Nat} (h:StB s n) (hx:0≤x.day∧x.day≤6) (he:x.on≤e∧e≤x.on+1440) (ho:0≤x.on∧x.on≤1439) (hd:s.day≤x.day):StB (take s x e) (n+1):=by
 have h1:=h.free;have h2:=h.day;have h3:=h.row;have h4:=h.used;unfold Go.Proofs.Ytgfiniccfpfplaa.take;by_cases e1:s.day=x.day
 ·rw [if_pos e1];exact ⟨h1,h2,h3,by simp only;omega⟩
 ·rw [if_neg e1];refine ⟨by simp only;omega,⟨by simp only;omega,hx.2⟩, ?_,by simp only;omega⟩
  simp only;by_cases e2:s.day=x.day-1
  ·rw [if_pos e2];omega
  ·rw [if_neg e2];omega
theorem yAV {k D j:Nat}:(xI w ros tru k D j).day≤(D:Int):=by
 obtain ⟨h1,h2⟩:=zWD (w:=w) (ros:=ros) (tru:=tru) (k:=k) (D:=D) (j:=j);by_cases e:onL w ros k D j=[]
 ·rw [h2 e,(zKR (w:=w) (ros:=ros) (tru:=tru) (k:=k) (D:=D)).2.2];have:=zFR (w:=w) (ros:=ros) (k:=k) (D:=D);omega
 ·rw [h1.2 e];exact Int.le_refl _
theorem xGD (hs:Sane w l m) (hl:w.N.length=l) (ht:∀ i,i<l→(dty w i).on≤tru i∧tru i≤(dty w i).on+1440) {k:Nat} (hk:k<m):∀ {D j:Nat},j≤l→StB (xI w ros tru k D j) (D*l+j):=by
 have step:∀ {D j:Nat},j<l→StB (xI w ros tru k D j) (D*l+j)→StB (xI w ros tru k D (j+1)) (D*l+(j+1)):=by
  intro D j hj h;rw [zAA];split
  ·rename_i hh;unfold his at hh;simp only [Bool.and_eq_true,decide_eq_true_eq] at hh;have hd:=hs.duty j hj;have:=yAV (w:=w) (ros:=ros) (tru:=tru) (k:=k) (D:=D) (j:=j);exact h.take ⟨hd.1,hd.2.1⟩ (ht j hj) ⟨hd.2.2.1,hd.2.2.2.1⟩ (by omega)
  ·exact h.mono (by omega)
 have day:∀ {D:Nat},StB (xI w ros tru k D 0) (D*l+0)→∀ {j:Nat},j≤l→StB (xI w ros tru k D j) (D*l+j):=by
  intro D h0 j;induction j with
  | zero=>intro _;exact h0
  | succ j ih=>intro hj;exact step (by omega) (ih (by omega))
 intro D;induction D with
 | zero =>
  intro j hj;refine day ?_ hj;have:=hs.dr k hk;show StB (before (drQ w k)) _;exact ⟨⟨this.1,by show (drQ w k).off≤_;omega⟩,⟨Int.le_refl _,by show (-1:Int)≤6;omega⟩,⟨this.2.2.1,by show (drQ w k).row≤15+(-1:Int);omega⟩,⟨this.2.2.2.2.1,by show (drQ w k).used≤_;omega⟩⟩
 | succ D ih =>
  intro j hj;refine day ?_ hj;have h:=ih (Nat.le_refl l);have e:xI w ros tru k (D+1) 0=xI w ros tru k D l:=by
   rw [← hl];rfl
  rw [e,Nat.add_mul,Nat.one_mul];exact h
def stF (w:Wk) (ros tru:Nat→Int) (m D j:Nat):Nat→Std:=fun k=>if k<m then xI w ros tru k D j else zUM
theorem xGK {D:Nat}:stF w ros tru m (D+1) 0=stF w ros tru m D w.N.length:=rfl
theorem yJQ {D j:Nat} (h:¬ ((dty w j).day=(D:Int)∧0≤ros j)):stF w ros tru m D (j+1)=stF w ros tru m D j:=by
 funext k;unfold stF;split
 ·rw [zAA,if_neg];unfold his;simp only [Bool.and_eq_true,decide_eq_true_eq];rintro ⟨h1,h2⟩;exact h ⟨h2,by omega⟩
 ·rfl
theorem xGJ {D j k:Nat} (hk:k<m) (hd:(dty w j).day=(D:Int)) (hr:ros j=(k:Int)):stF w ros tru m D (j+1)=upd (stF w ros tru m D j) k (take (stF w ros tru m D j k) (dty w j) (tru j)):=by
 funext i;unfold stF upd;by_cases e:i=k
 ·subst e;rw [if_pos hk,if_pos rfl,if_pos hk,zAA,if_pos (by unfold his;simp [hd,hr])];rfl
 ·rw [if_neg e];show (if i<m then xI w ros tru i D (j+1) else zUM)=if i<m then xI w ros tru i D j else zUM;have e2:xI w ros tru i D (j+1)=xI w ros tru i D j:=by rw [zAA,if_neg (by unfold his;simp [hd,hr];omega)]
  rw [e2]
theorem yEQ {D j:Nat} (h:¬ ((dty w j).day=(D:Int)∧ros j≠-1)):zDY w ros tru D (j+1)=zDY w ros tru D j:=by
 rw [yUM];split
 ·rename_i hd;have:ros j=-1:=Decidable.not_not.1 fun e=>h ⟨hd,e⟩
  unfold zML;rw [if_pos this,List.append_nil]
 ·rw [List.append_nil]
theorem xDW {D j k:Nat} (hk:k<m) (hd:(dty w j).day=(D:Int)) (hr:ros j=(k:Int)):zDY w ros tru D (j+1)=zDY w ros tru D j++zMM w k j (stF w ros tru m D j k) 5:=by
 rw [yUM,if_pos hd];congr 1;unfold zML zMM stF;rw [if_neg (by omega),if_pos hk,show (ros j).toNat=k by omega]
end
structure JL (σ:St) (wl:List Value) (rv tv:Value) (X:Nat→Prop) (f:Nat→Std) (A:List Bch) (τ:St):Prop where
 le:Le σ.re τ
 wk:Row τ ⟨σ.y,0,none⟩ wl
 ro:Row τ ⟨σ.y+1,0,none⟩ [rv]
 tr:Row τ ⟨σ.y+2,0,none⟩ [tv]
 nw:Own τ (σ.y+4) (stL f) 4
 out:∃ po co,Own τ (σ.y+3) [.slice po A.length co] 1∧Gr Try.prog τ (σ.y+5) 47 3 po A.length co (A.map yOP)∧∀ b,AtP po b→¬ X b
section
variable {σ τ τ':St} {wl:List Value} {rv tv:Value} {X:Nat→Prop} {f:Nat→Std} {A:List Bch}
theorem J.dn (h:J σ wl rv tv X f A τ):JL σ wl rv tv X f A τ:=⟨h.new.le,h.wk,h.ro,h.tr,h.nw,h.out⟩
theorem JL.up (h:JL σ wl rv tv X f A τ) (hl:σ.y≤τ.low):J σ wl rv tv X f A τ:=⟨⟨h.le,fun m _ h2=>Nat.le_trans h2 hl⟩,h.wk,h.ro,h.tr,h.nw,h.out⟩
theorem JL.mono {Y:Nat→Prop} (h:JL σ wl rv tv X f A τ) (k:∀ b,b<τ.y→σ.y+5≤b→Y b→X b):JL σ wl rv tv Y f A τ:=by
 obtain ⟨po,co,h1,h2,h3⟩:=h.out;exact ⟨h.le,h.wk,h.ro,h.tr,h.nw,po,co,h1,h2,fun b hb hy=>h3 b hb (k b (h2.bd hb).2 (h2.bd hb).1 hy)⟩
theorem JL.same {n0:Nat} (h:JL σ wl rv tv X f A τ) (k:Same n0 τ τ') (hn:σ.y≤n0):JL σ wl rv tv X f A τ':=by
 obtain ⟨po,co,h1,h2,h3⟩:=h.out;exact ⟨⟨Nat.le_trans h.le.y k.y,fun b hb=>(k.old b (Nat.lt_of_lt_of_le hb hn)).trans (h.le.get b hb)⟩,k.rw h.wk,k.rw h.ro,k.rw h.tr,k.own h.nw,po,co,k.own h1,k.gr h2,h3⟩
theorem yQL {lo:Nat} {args:List Value} {z:St} {tm:Tm} {ps:List Tmp} {a b:Code} {db:Nat} {Q:St→Prop} (h:zFA Try.prog lo args z tm ps a b db [⟨Unit,.normal,fun _=>[],fun _=>[],fun _ z=>Q z⟩]):∃ z4,Q z4∧zFA Try.prog lo args z tm ps a b db [⟨Unit,.normal,fun _=>[],fun _=>[],fun _ z=>z=z4⟩]:=by
 obtain ⟨e,z',⟨al,hal,rfl,t,hq⟩,hc⟩:=h;simp only [In,or_false] at hal;subst hal;exact ⟨z',hq,_,z',⟨_,.inl rfl,rfl,(),rfl⟩,hc⟩
variable {w:Wk} {p q r t:Option Addr} {l m c d rc tc D:Nat} {rs ts:List Int}
theorem xRI {wd i19:Int} {a1 a2:Nat} (h:WkP σ 69 61 w p l q m) (hs:Sane w l m) (hsh:uX w) (hr:yF σ r l rs) (ht:yF σ t l ts) (hro:∀ i,i<l→-1≤zY rs i∧zY rs i<(m:Int))
  (hts:∀ i,i<l→(dty w i).on≤zY ts i∧zY ts i≤(dty w i).on+1440) (hA:∀ j,j≤l→(zCO w (zY rs) (zY ts) D++zDY w (zY rs) (zY ts) D j).length≤450) (hD:D≤6)
  (r1:Row τ ⟨a1,0,none⟩ (wkc w.M p l c q m d w.rest w.run w.j)) (r2:Row τ ⟨a2,0,none⟩ [zZ D]) (ha2:σ.y+5≤a2) {ms:List Nat} (hms:∀ y∈ms,yK τ.heap y=some .defd∧σ.y+5≤y∧y<τ.y)
  (hJ:J σ (wkc w.M p l c q m d w.rest w.run w.j) (.slice r l rc) (.slice t l tc) (fun x=>x=a2∨x∈ms) (stF w (zY rs) (zY ts) m D 0) (zCO w (zY rs) (zY ts) D) τ) {Qn:St→Prop}
  (hQ:∀ z,JL σ (wkc w.M p l c q m d w.rest w.run w.j) (.slice r l rc) (.slice t l tc) (fun x=>x∈τ.y::ms) (stF w (zY rs) (zY ts) m (D+1) 0) (zCO w (zY rs) (zY ts) (D+1)) z→(∀ y∈τ.y::ms,yK z.heap y=some .defd)→τ.y<z.y→σ.y≤z.low→Qn z) :
  yEX σ.y (σ.y+1) (σ.y+2) (σ.y+3) (σ.y+4) wd i19 63 [.pointer (some ⟨a1,0,none⟩),.pointer (some ⟨a2,0,none⟩)] τ Qn:=by
 have hn:=h.len.1;have hm6:=hs.m6;have hl12:=hs.l12;have hτ5:σ.y+5≤τ.y:=by have:=hJ.nw.lt;omega
 obtain ⟨X,hX⟩:∃ X:Nat→Prop,X=fun x=>x<σ.y∨x=a2∨x=τ.y∨x=τ.y+1∨x∈ms:=⟨_,rfl⟩
 have hX3:¬ X (σ.y+3):=by
  rw [hX];rintro (g | g | g | g | g)
  ·omega
  ·omega
  ·omega
  ·omega
  ·have:=(hms _ g).2.1;omega
 have hX4:¬ X (σ.y+4):=by
  rw [hX];rintro (g | g | g | g | g)
  ·omega
  ·omega
  ·omega
  ·omega
  ·have:=(hms _ g).2.1;omega
 refine yUJ (w:=w) (pp:=p) (q:=q) (l:=l) (m:=m) (c:=c) (d:=d) (D:=D) (a1:=a1) (a2:=a2) (n0:=σ.y) (J:=fun s z=>JL σ (wkc w.M p l c q m d w.rest w.run w.j) (.slice r l rc) (.slice t l tc) X (stF w (zY rs) (zY ts) m D s) (zCO w (zY rs) (zY ts) D++zDY w (zY rs) (zY ts) D s) z∧Row z ⟨a2,0,none⟩ [zZ D]∧(∀ y∈ms,yK z.heap y=some .defd)∧τ.y≤z.y)
  (fun g0=>rfl) r1 (by omega) (by omega) (fun s z hz=>⟨hz.2.1,SlV.le h.dty ((le0 σ).trans hz.1.le)⟩) ⟨?_,r2,fun y hy=>(hms y hy).1,Nat.le_refl _⟩ (fun s z z' hz hk=>⟨hz.1.same hk (Nat.le_refl _),hk.rw hz.2.1,fun y hy=>by rw [hk.get y (by have:=(hms y hy).2.2;have:=hz.2.2.2;omega) (fun _ _ _ _ _ _ _ e=>by rw [hz.2.2.1 y hy] at e;cases e)];exact hz.2.2.1 y hy,Nat.le_trans hz.2.2.2 hk.y⟩) ?_ ?_ ?_
 ·have e:zCO w (zY rs) (zY ts) D++zDY w (zY rs) (zY ts) D 0=zCO w (zY rs) (zY ts) D:=by simp [zDY]
  rw [e];refine hJ.dn.mono ?_
  rw [hX];rintro b hb hb2 (h1 | h1 | h1 | h1 | h1)
  ·omega
  ·exact .inl h1
  ·omega
  ·omega
  ·exact .inr h1
 ·rintro s z hsl hd ⟨hz,hz2⟩;rw [yJQ (fun e=>hd e.1),yEQ (fun e=>hd e.1)];exact ⟨hz,hz2⟩
 ·rintro s z z1 lo g0 db hsl hd hlo hlp hz1 ⟨hz,hz2,hz3,hz4⟩ hnx;have zl:=zUP z.re (dty w s);have hlt:lo<z.y:=by omega
  have hl1:yK (yFM z.re (dty w s)).heap lo=some (zBW σ.y (σ.y+1) (σ.y+2) (σ.y+3) (σ.y+4) wd i19 63 [.pointer (some ⟨a1,0,none⟩),.pointer (some ⟨a2,0,none⟩)] g0 .ready none db):=by
   rw [zl.get _ hlt];exact hlp
  have s1:Same σ.y z z1:=⟨by rw [hz1];exact zl.y,fun y hy hne=>by
   rw [hz1,St.put_get,if_neg (fun e=>by subst e;exact hne _ _ _ _ _ _ _ hlp)];exact zl.get y hy,fun y hy=>by rw [hz1,St.put_get,if_neg (by omega)];exact zl.get y (by show y<z.y;omega)⟩
  have hm1:∀ y∈ms,yK z1.heap y=some .defd:=fun y hy=>by rw [s1.get y (by have:=(hms y hy).2.2;omega) (fun _ _ _ _ _ _ _ e=>by rw [hz3 y hy] at e;cases e)];exact hz3 y hy
  have hlw:σ.y≤z1.low:=by rw [hz1];show σ.y≤min (min z.y z.y) lo;omega
  have Jz:=(hz.mono (Y:=fun x=>X x∨z.y≤x) (fun b h1 _ h3=>h3.elim id (fun h4=>by omega)));have J1:=(Jz.same s1 (Nat.le_refl _)).up hlw;have rB:Row z1 ⟨z.re.y,0,none⟩ (xXR (dty w s)):=by
   rw [hz1];exact (Only.put (S:=(·=lo)) (.inr rfl)).rw' ((zC z.re (zF 0 0 0 0 0) 5).put).rw (fun e=>by have e:z.y=lo:=e;omega)
  have LS:Le σ z1:=(le0 σ).trans J1.new.le;obtain ⟨a,rfl,x,hx,lx⟩:=vQ (SlV.le hr LS) hsl;have gx:zY rs s=x:=yP hx;have l26:zB Try.prog z1 29 ⟨σ.y+1,0,none⟩=some (.slice (some a) l rc):=J1.ro.ld yV rfl;have hrs:=hro s hsl;by_cases e1:x=-1
  ·refine ⟨z1,yVF hlp hl1 hz1 l26 lx rfl (by omega) e1, ?_,fun _=>False,Only.refl _ _,fun y hy=>hy.elim⟩
   rw [yJQ (fun e=>by omega),yEQ (fun e=>by omega)];exact ⟨hz.same s1 (Nat.le_refl _),s1.rw hz2,hm1,Nat.le_trans hz4 s1.y⟩
  obtain ⟨k,hkx⟩:∃ k:Nat,x=(k:Int):=⟨x.toNat,by omega⟩;have hk:k<m:=by omega
  have hrk:zY rs s=(k:Int):=by rw [gx,hkx]
  obtain ⟨bq,s2,cq,nq,hbq,rowq⟩:=zTG (σ:=z1);obtain ⟨X2,hX2⟩:∃ X2:Nat→Prop,X2=fun x=>X x∨x=z.y∨x=bq:=⟨_,rfl⟩
  have nz1:=s1.y;have J2:J σ (wkc w.M p l c q m d w.rest w.run w.j) (.slice (some a) l rc) (.slice t l tc) X2 (stF w (zY rs) (zY ts) m D s) (zCO w (zY rs) (zY ts) D++zDY w (zY rs) (zY ts) D s) s2:=by
   refine (J1.le nq.le (J1.new.trans nq)).mono ?_
   rw [hX2];rintro b _ _ (g | g | g)
   ·exact .inl g
   ·exact .inr (by omega)
   ·exact .inr (by omega)
  have ha2z:a2<τ.y:=r2.lt;have hz12:z.y<s2.y:=by have:=nq.le.y;have:=rB.lt;have e:z.re.y<z1.y:=this;have:z.y<z1.y:=e;omega
  have hXlt:∀ x,X2 x→x<s2.y:=by
   rw [hX2,hX];rintro x ((g | g | g | g | g) | g | g)
   ·omega
   ·omega
   ·omega
   ·omega
   ·have:=(hms _ g).2.2;omega
   ·omega
   ·have:=rowq.lt;rw [g];exact this
  have hX23:¬ X2 (σ.y+3):=by
   rw [hX2];rintro (g | g | g)
   ·exact hX3 g
   ·omega
   ·have:=J1.nw.lt;omega
  have hX24:¬ X2 (σ.y+4):=by
   rw [hX2];rintro (g | g | g)
   ·exact hX4 g
   ·omega
   ·have:=J1.nw.lt;omega
  have hXB:X2 z.re.y:=by rw [hX2];exact .inr (.inl rfl)
  have hXq:X2 bq:=by rw [hX2];exact .inr (.inr rfl)
  have hfk:stF w (zY rs) (zY ts) m D s k=xI w (zY rs) (zY ts) k D s:=by unfold stF;rw [if_pos hk]
  have hDl:D*l≤6*12:=Nat.mul_le_mul hD hl12;have hso:StOk (stF w (zY rs) (zY ts) m D s k):=by rw [hfk];exact (xGD hs hn hts hk (by omega)).ok (by omega)
  have hdt:=hs.duty s hsl;have hdo:DtOk (dty w s):=⟨⟨hdt.1,hdt.2.1⟩,⟨hdt.2.2.1,hdt.2.2.2.1⟩⟩;have hAs:=hA s (by omega);have ask:=xMV (lo:=lo) (c:=c) (d:=d) h hsh hm6 hk hsl hso hdo (by omega) J2 (rB.le nq.le) rowq hXB hXq hX23 hXlt;have hu:=hts s hsl;have rd:zFA Try.prog lo [iV (s:Int),uO (dty w s)] z (Fm 92 (ov (zAT σ.y (σ.y+1) (σ.y+2) (σ.y+3) (σ.y+4) wd i19 63 [.pointer (some ⟨a1,0,none⟩),.pointer (some ⟨a2,0,none⟩)]) g0)) [25,26] zBB uW db
    [⟨Unit,.normal,fun _=>[],fun _=>[],fun _ z4=>J σ (wkc w.M p l c q m d w.rest w.run w.j) (.slice (some a) l rc) (.slice t l tc) X2 (stF w (zY rs) (zY ts) m D (s+1)) (zCO w (zY rs) (zY ts) D++zDY w (zY rs) (zY ts) D (s+1)) z4∧Only (fun x=>¬ X2 x) s2 z4⟩]:=by
   refine yVE hlp hl1 hz1 l26 (hkx ▸ lx) cq ask ?_ (by omega) (by omega)
   rintro z3 ⟨J3,O3⟩
   refine yZT ht (by omega) hsl hso hdo (by omega) J3 (O3.rw' (rB.le nq.le) (fun hh=>hh hXB)) hX24 ?_
   intro z4 J4 O4
   rw [xGJ hk hd hrk,xDW (m:=m) hk hd hrk,← List.append_assoc]
   exact ⟨J4,O3.trans' O4 (fun b _ hb=>.inl hb)⟩
  obtain ⟨z4,⟨J4,O4⟩,rd4⟩:=yQL rd;refine ⟨z4,rd4,⟨J4.dn.mono (fun b _ _ hb=>by rw [hX2];exact .inl hb), ?_, ?_, ?_⟩,fun y=>σ.y≤y∧y≠τ.y∧y≠τ.y+1,(nq.only).trans' (O4.mono (T:=fun y=>σ.y≤y∧y≠τ.y∧y≠τ.y+1) ?_) (fun b _ hb=>.inl hb),fun y hy=>hy⟩
  ·refine O4.rw' ((s1.rw hz2).le nq.le) (fun hh=>hh ?_);rw [hX2,hX];exact .inl (.inr (.inl rfl))
  ·intro y hy;have hys:y<s2.y:=hXlt y (by rw [hX2,hX];exact .inl (.inr (.inr (.inr (.inr hy)))));rw [O4.get y hys (fun hh=>hh (by rw [hX2,hX];exact .inl (.inr (.inr (.inr (.inr hy)))))),nq.le.get y (by have:=(hms y hy).2.2;omega)];exact hm1 y hy
  ·have:=O4.y;have:=nq.le.y;omega
  ·intro b _ hb;rw [hX2,hX] at hb;refine ⟨?_, ?_, ?_⟩
   ·rcases Nat.lt_or_ge b σ.y with g | g
    ·exact absurd (.inl (.inl g)) hb
    ·exact g
   ·intro e;exact hb (.inl (.inr (.inr (.inl e))))
   ·intro e;exact hb (.inl (.inr (.inr (.inr (.inl e)))))
 ·rintro z ⟨hz,_,hz3,_⟩ h1 h2 h3;refine hQ z ?_ (fun y hy=>by rcases List.mem_cons.1 hy with e | e;exact e ▸ h1;exact hz3 y e) h2 (h3 σ.y (Nat.le_refl _) ?_)
  ·have e:zCO w (zY rs) (zY ts) (D+1)=zCO w (zY rs) (zY ts) D++zDY w (zY rs) (zY ts) D l:=by rw [xIS,hn]
   rw [e,xGK,hn];refine hz.mono (fun b _ _ h=>?_);rw [hX];rcases List.mem_cons.1 h with e | e
   ·exact .inr (.inr (.inl e))
   ·exact .inr (.inr (.inr (.inr e)))
  ·have:=hJ.new.low σ.y (Nat.le_refl _) (Nat.le_refl _);exact this
end
section
variable {σ τ:St} {w:Wk} {p q r t:Option Addr} {l m c d rc tc:Nat} {rs ts:List Int}
theorem xWX {D:Nat}:∃ a1 a2 σ',zD Try.prog 46 [.agg ⟨wkc w.M p l c q m d w.rest w.run w.j⟩,iV (D:Int)] σ (.func (.func 63) ⟨[]⟩ ⟨[.pointer (some ⟨a1,0,none⟩),.pointer (some ⟨a2,0,none⟩)]⟩) σ'∧New σ σ'∧σ.y≤a2∧Row σ' ⟨a1,0,none⟩ (wkc w.M p l c q m d w.rest w.run w.j)∧Row σ' ⟨a2,0,none⟩ [zZ D]:=by
 obtain ⟨v,σ',h1,h2,a1,a2,rfl,h3,h4,h5⟩:=zP.new (σ:=σ) (P:=Try.prog) (f:=46) (args:=[.agg ⟨wkc w.M p l c q m d w.rest w.run w.j⟩,iV (D:Int)]) (Q:=fun v s=>∃ a1 a2,v=.func (.func 63) ⟨[]⟩ ⟨[.pointer (some ⟨a1,0,none⟩),.pointer (some ⟨a2,0,none⟩)]⟩∧σ.y≤a2∧Row s ⟨a1,0,none⟩ (wkc w.M p l c q m d w.rest w.run w.j)∧Row s ⟨a2,0,none⟩ [zZ D])
  (xWW ⟨(New.row _ _ _).row',σ.re.y,σ.re.y+1,rfl,by show σ.y≤σ.y+1;omega,(xQ _ _ _).row,xQ (σ.re.row (wkc w.M p l c q m d w.rest w.run w.j) 6) _ _⟩) (by rintro v s s' ⟨a1,a2,rfl,g1,g2,g3⟩ hle;exact ⟨a1,a2,rfl,g1,g2.le hle,g3.le hle⟩) (by rintro v s hr ⟨a1,a2,rfl,_⟩;cases hr)
 exact ⟨a1,a2,σ',h1,h2,h3,h4,h5⟩
theorem xMD {n:Nat} (hn:w.M=(n:Int)) (hn7:n≤7) (h:WkP σ 69 61 w p l q m) (hs:Sane w l m) (hsh:uX w) (hr:yF σ r l rs) (ht:yF σ t l ts) (hro:∀ i,i<l→-1≤zY rs i∧zY rs i<(m:Int))
  (hts:∀ i,i<l→(dty w i).on≤zY ts i∧zY ts i≤(dty w i).on+1440) (hA:∀ D j,D≤6→j≤l→(zCO w (zY rs) (zY ts) D++zDY w (zY rs) (zY ts) D j).length≤450)
  (hJ:J σ (wkc w.M p l c q m d w.rest w.run w.j) (.slice r l rc) (.slice t l tc) (fun x=>x∈([]:List Nat)) (st0 w m) [] τ) :
  zSC σ.y (σ.y+1) (σ.y+2) (σ.y+3) (σ.y+4) w.M 0 [] τ (fun ms z=>J σ (wkc w.M p l c q m d w.rest w.run w.j) (.slice r l rc) (.slice t l tc) (fun x=>x∈ms) (stF w (zY rs) (zY ts) m n 0) (zCO w (zY rs) (zY ts) n) z∧ms.Nodup∧∀ y∈ms,yK z.heap y=some .defd∧σ.y+5≤y∧y<z.y):=by
 refine yIG (Inv:=fun k i ms z=>∃ D:Nat,i=D∧D+k=n∧J σ (wkc w.M p l c q m d w.rest w.run w.j) (.slice r l rc) (.slice t l tc) (fun x=>x∈ms) (stF w (zY rs) (zY ts) m D 0) (zCO w (zY rs) (zY ts) D) z∧ms.Nodup∧∀ y∈ms,yK z.heap y=some .defd∧σ.y+5≤y∧y<z.y) ?_ n 0 [] τ ⟨0,rfl,by omega,hJ,List.nodup_nil,fun y hy=>by cases hy⟩;rintro k i ms z ⟨D,rfl,hk,hz,hnd,hms⟩;by_cases hD:D<n;rotate_left
 ·have:D=n:=by omega
  subst this;exact yVM ⟨hz,hnd,hms⟩ (by omega)
 have lw:zB Try.prog z 43 ⟨σ.y,0,none⟩=some (.agg ⟨wkc w.M p l c q m d w.rest w.run w.j⟩):=hz.wk.ldN (k:=0) xS yW (ds:=wkc w.M p l c q m d w.rest w.run w.j) rfl rfl (by simp);obtain ⟨a1,a2,z2,c2,n2,ha2,r1,r2⟩:=xWX (σ:=z) (w:=w) (p:=p) (l:=l) (c:=c) (q:=q) (m:=m) (d:=d) (D:=D);have hz5:σ.y+5≤z.y:=by have:=hz.nw.lt;omega
 have J2:=((hz.mono (Y:=fun x=>x=a2∨x∈ms) (fun b h1 _ h3=>h3.elim (fun e=>by omega) id)).le n2.le (hz.new.trans n2));have hms2:∀ y∈ms,yK z2.heap y=some .defd∧σ.y+5≤y∧y<z2.y:=fun y hy=>by
  obtain ⟨g1,g2,g3⟩:=hms y hy;exact ⟨by rw [n2.le.get y g3];exact g1,g2,by have:=n2.le.y;omega⟩
 refine yVN lw c2 (xRI (wd:=w.M) (i19:=D) h hs hsh hr ht hro hts (fun j hj=>hA D j (by omega) hj) (by omega) r1 r2 (by omega) hms2 J2
  (Qn:=fun z3=>J σ (wkc w.M p l c q m d w.rest w.run w.j) (.slice r l rc) (.slice t l tc) (fun x=>x∈z2.y::ms) (stF w (zY rs) (zY ts) m (D+1) 0) (zCO w (zY rs) (zY ts) (D+1)) z3∧∀ y∈z2.y::ms,yK z3.heap y=some .defd∧σ.y+5≤y∧y<z3.y)
  (fun z3 g1 g2 g3 g4=>⟨g1.up g4,fun y hy=>⟨g2 y hy, ?_⟩⟩)) ?_ (by omega)
 ·rcases List.mem_cons.1 hy with e | e
  ·have:=n2.le.y;omega
  ·have:=hms2 y e;omega
 ·rintro z3 ⟨g1,g2⟩;refine yIC ⟨k-1,by omega,D+1,by omega,by omega,g1, ?_,g2⟩ (by omega);exact List.nodup_cons.2 ⟨fun e=>by have:=(hms2 _ e).2.2;omega,hnd⟩
end
def zNH (xs:List Nat):List Int:=xs.map fun i:Nat=>(i:Int)
section
variable {σ:St} {w:Wk} {p q:Option Addr} {l m c d D:Nat}
theorem yNL (h:WkP σ 69 61 w p l q m) (hl:l≤1000):∃ p' c' σ',zD Try.prog 54 [.agg ⟨wkc w.M p l c q m d w.rest w.run w.j⟩,iV (D:Int)] σ (.slice p' (yC w D l).length c') σ'∧New σ σ'∧yF σ' p' (yC w D l).length (zNH (yC w D l))∧∀ b,AtP p' b→σ.y≤b:=by
 have hln:=h.len.1;have hle:∀ s,(yC w D s).length≤s:=fun s=>by
  unfold yC;have:=List.length_filter_le (fun i=>decide ((dty w i).day=(D:Int))) (List.range s);simpa using this
 obtain ⟨σ1,hσ1⟩:∃ σ1,σ1=(σ.re.row (wkc w.M p l c q m d w.rest w.run w.j) 6).row [.slice none 0 0] 1:=⟨_,rfl⟩;have N1:New σ.re σ1:=by rw [hσ1];exact (New.row _ _ _).row'
 have x1:σ1.y=σ.y+2:=by rw [hσ1];rfl
 have o1:Own σ1 (σ.y+1) [.slice none 0 0] 1:=by rw [hσ1];exact zC (σ.re.row (wkc w.M p l c q m d w.rest w.run w.j) 6) [.slice none 0 0] 1
 obtain ⟨a1,a2,τ,k1,n1,ha2,r1,r2⟩:=xWX (σ:=σ1) (w:=w) (p:=p) (q:=q) (l:=l) (m:=m) (c:=c) (d:=d) (D:=D);have N2:=N1.trans n1;have L2:Le σ τ:=(le0 σ).trans N2.le;have nx2:=n1.nx;have hd2:zQG τ 69 p l w.N:=SlV.le h.dty L2;have hpb:∀ a,p=some a→a.block<σ.y:=xK h.dty;have ha2t:a2<τ.y:=r2.lt;rw [hσ1] at k1;let J:Nat→St→Prop:=fun s z=>Row z ⟨a2,0,none⟩ [zZ D]∧zQG z 69 p l w.N∧τ.y≤z.y∧∃ p' c',Own z (σ.y+1) [.slice p' (yC w D s).length c'] 1∧Gr Try.prog z (τ.y+2) 3 1 p' (yC w D s).length c' ((zNH (yC w D s)).map zZ)∧Le σ z
 refine zP.newSl (xDU k1 (Pn:=fun z=>J l z∧yK z.heap τ.y=some .defd∧τ.y<z.y∧∀ m,m≤σ.y→m≤τ.low→m≤z.low) (zTS (zf:=fun z _=>z) (fun z _=>Le.refl z) (fun z _=>Nat.le_refl _) (w:=w) (pp:=p) (q:=q) (l:=l) (m:=m) (c:=c) (d:=d) (D:=D) (a1:=a1) (a2:=a2) (n0:=σ.y) (J:=fun s z=>J s z) (fun g0=>rfl) r1 (by omega) (by omega) (fun s z hz=>⟨hz.1,hz.2.1⟩) ⟨r2,hd2,Nat.le_refl _,none,0,o1.le n1.le,by simpa [yC,zNH] using Gr.nil,L2⟩ ?_ ?_ ?_ ?_) ?_)
 ·rintro s z z' ⟨h1,h2,h3,p',c',h4,h5,h6⟩ hk;refine ⟨hk.rw h1,hk.slv h2,Nat.le_trans h3 hk.y,p',c',hk.own h4,hk.gr h5,⟨Nat.le_trans h6.y hk.y,fun b hb=>by rw [hk.old b hb];exact h6.get b hb⟩⟩
 ·rintro s z hs hd ⟨h1,h2,h3,p',c',h4,h5,h6⟩;have e:yC w D (s+1)=yC w D s:=by rw [yHP,if_neg hd]
  refine ⟨h1,h2,h3,p',c', ?_, ?_,h6⟩
  ·rw [e];exact h4
  ·rw [e];exact h5
 ·rintro s z z1 lo g0 db hs hd hlo hlp hz1 ⟨h1,h2,h3,p',c',h4,h5,h6⟩ hnx;have e:yC w D (s+1)=yC w D s++[s]:=by rw [yHP,if_pos hd]
  have hlt:lo<z.y:=by omega
  have k01:Only (fun y=>y=lo) z z1:=by
   rw [hz1];exact (Only.re (S:=fun y=>y=lo) z).trans' (Only.put (S:=fun y=>y=lo) (.inr rfl)) (fun b _ e=>.inl e)
  have u1:Own z1 (σ.y+1) [.slice p' (yC w D s).length c'] 1:=k01.own' h4 (by omega);have v1:Gr Try.prog z1 (τ.y+2) 3 1 p' (yC w D s).length c' ((zNH (yC w D s)).map zZ):=h5.only k01 (fun b hb e=>by have:=(h5.bd hb).1;omega);have nx1:=k01.y;have hs2:=hle s;obtain ⟨p2,c2,z2,g1,g2,g3,g4⟩:=yMV (zZ (s:Int)) zAU v1 (Le.refl z1) (uN _) (by omega) (by omega);have hS:∀ b,AtP p' b→τ.y+2≤b:=fun b hb=>(v1.bd hb).1
  have k12:Only (AtP p') z1 z2:=(Only.row z1 [zZ (s:Int)] 1).trans' g3 (fun b _ e=>.inl e);have u2:=k12.own' u1 (fun hb=>by have:=hS _ hb;omega);have st:=u2.store (P:=Try.prog) (k:=0) (t:=29) (v:=.slice p2 ((yC w D s).length+1) c2) (vs:=[.slice p2 ((yC w D s).length+1) c2]) (ds:=[.slice p2 ((yC w D s).length+1) c2]) rfl yQG rfl (by simp) rfl;obtain ⟨z3,hz3⟩:∃ z3,z3=z2.own (σ.y+1) [.slice p2 ((yC w D s).length+1) c2] 1:=⟨_,rfl⟩;rw [← hz3] at st;have k23:Only (fun y=>y=σ.y+1) z2 z3:=by rw [hz3];exact Only.own (.inr rfl)
  have k13:Only (fun y=>y=σ.y+1∨AtP p' y) z1 z3:=(k12.mono (fun _ _ e=>.inr e)).trans' k23 (fun b _ e=>.inl (.inl e));have k03:Only (fun y=>y=lo∨y=σ.y+1∨AtP p' y) z z3:=(k01.mono (fun _ _ e=>.inl e)).trans' k13 (fun b _ e=>.inl (.inr e));refine ⟨z3,yUK hlp hz1 (u1.ld (k:=0) rfl yV rfl) g1 st rfl,⟨k03.rw' h1 ?_,k03.slv' h2 ?_,by have:=k03.y;omega,p2,c2, ?_, ?_, ?_⟩,_,k13, ?_⟩
  ·rintro (hb | hb | hb)
   ·have hb:a2=lo:=hb;omega
   ·have hb:a2=σ.y+1:=hb;omega
   ·have:=hS _ hb;have:τ.y+2≤a2:=this;omega
  ·rintro a ea (hb | hb | hb)
   ·have:=hpb a ea;omega
   ·have:=hpb a ea;omega
   ·have:=hS _ hb;have:=hpb a ea;omega
  ·rw [e,List.length_append,hz3];exact u2.put
  ·rw [e,List.length_append];have e2:(zNH (yC w D s++[s])).map zZ=(zNH (yC w D s)).map zZ++[zZ (s:Int)]:=by simp [zNH]
   rw [e2];exact g2.only k23 (fun b hb e=>by have:=(g2.bd hb).1;omega)
  ·refine ⟨Nat.le_trans h6.y k03.y,fun b hb=>?_⟩
   rw [k03.get b (by omega) ?_]
   ·exact h6.get b hb
   ·rintro (e | e | e)
    ·omega
    ·omega
    ·have:=hS _ e;omega
  ·rintro y (e | e)
   ·exact ⟨by omega,by omega,by omega⟩
   ·have:=hS _ e;exact ⟨by omega,by omega,by omega⟩
 ·rintro z h1 h2 h3 h4;exact ⟨h1,h2,h3,h4⟩
 ·rintro z ⟨⟨h1,h2,h3,p',c',h4,h5,h6⟩,h7,h8,h9⟩;have st:=h4.store (P:=Try.prog) (k:=0) (t:=29) (v:=.slice p' (yC w D l).length c') (vs:=[.slice p' (yC w D l).length c']) (ds:=[.slice p' (yC w D l).length c']) rfl yQG rfl (by simp) rfl;have hB:σ.y+1<τ.y:=by omega
  obtain ⟨z2,k1,k2,k3,k4⟩:=zOK (ms:=[τ.y]) (σ:=z.own (σ.y+1) [.slice p' (yC w D l).length c'] 1) (fun y hy=>by
   rcases List.mem_singleton.1 hy with rfl;show yK (St.put _ _ _).heap _=_;rw [St.put_get,if_neg (by omega)];exact h7) (by simp)
  have o2:Own z2 (σ.y+1) [.slice p' (yC w D l).length c'] 1:=h4.put.at_ (k3 _ (fun e=>by have:=List.mem_singleton.1 e;omega)) (by rw [k2];exact Nat.le_refl _);have g2:Gr Try.prog (z.own (σ.y+1) [.slice p' (yC w D l).length c'] 1) (τ.y+2) 3 1 p' (yC w D l).length c' ((zNH (yC w D l)).map zZ):=h5.only (S:=(·=σ.y+1)) (Only.own (.inr rfl)) (fun b hb e=>by have:=(h5.bd hb).1;omega);have sl:yF z2 p' (yC w D l).length (zNH (yC w D l)):=by
   have:=g2.slv;refine ⟨⟨this.1.1, ?_⟩,this.2⟩
   cases p' with
   | none=>exact this.1.2
   | some a =>
    have hr:=this.1.2;have hb:=(h5.bd ⟨a,rfl,rfl⟩);refine ⟨?_,by rw [k2];exact hr.lt⟩
    have e:yK z2.heap a.block=yK (z.own (σ.y+1) [.slice (some a) (yC w D l).length c'] 1).heap a.block:=k3 _ (fun e=>by have:=List.mem_singleton.1 e;omega);have:=hr.rd;unfold yS at this ⊢;rw [e];exact this
  have N:New σ.re z2:=by
   refine ⟨⟨by rw [k2];exact h6.y,fun b hb=>?_⟩,fun m g1 g2=>k4 m ?_ (fun y hy=>by have:=List.mem_singleton.1 hy;have g2:m≤σ.y:=g2;omega)⟩
   ·have hb:b<σ.y:=hb;rw [k3 b (fun e=>by have:=List.mem_singleton.1 e;omega)];show yK (St.put _ _ _).heap b=_;rw [St.put_get,if_neg (by omega)];exact h6.get b hb
   ·have g2:m≤σ.y:=g2;have:=h9 m g2 (N2.low m g1 g2);show m≤min _ _;omega
  exact yHQ (h4.ld (k:=0) rfl yV rfl) st k1 (o2.ld (k:=0) rfl yV rfl) ⟨N,p',c',rfl,sl,fun b hb=>by have:=(h5.bd hb).1;show σ.y≤b;omega⟩
end
section
noncomputable section
variable (day:Int) (who:oAa) (aQ bi BA:Nat) (q1 q13:oAa) (l1 l13 c1 c13 BB BC:Nat) (n14 aD bT:Int) (q0:St→Prop) (qG:oAa) (lJ cH:Nat) (bb dT:Int) (Q:Int→Int→St→Prop) (q3:Int→St→Prop) (σ:St) (Nx:Int→Int→St→Prop) (q4:vPa) (q5 Q2:Int→St→Prop) (Q0:St→Prop)
def yQI:Code:=(Code.part [1,1,1,1,1,0,1,0,0] (qj 35))
def yFV:lNa:=[(3,pq BA 0),(6,.slice q13 l13 c13),(7,pq BB 0),(10,pq BC 0),(11,iV aD),(31,iV n14),(32,iV bT)]
def yXB:Alt:=⟨Int × Int,.normal,fun t=>yFV BA q13 l13 c13 BB BC n14 t.1 t.2,fun t=>[],fun t σ=>Q t.1 t.2 σ⟩
def yKB (BA:Nat) (q13:oAa) (l13 c13 BB BC:Nat) (n14:Int):lNa:=[(6,.slice q13 l13 c13),(7,pq BB 0),(10,pq BC 0)]
def zOM:Alt:=⟨Unit,(.exit 0),fun t=>yKB BA q13 l13 c13 BB BC n14,fun t=>[],fun t σ=>q0 σ⟩
def yQK:Prop:=qk ql none yQI 62 (yFV BA q13 l13 c13 BB BC n14 aD bT) [] [yXB BA q13 l13 c13 BB BC n14 Nx,zOM BA q13 l13 c13 BB BC n14 Q0] σ
def yQJ:Prop:=qm ql none yQI 62 (yFV BA q13 l13 c13 BB BC n14 aD bT) [] [zOM BA q13 l13 c13 BB BC n14 Q0] σ
def xGT:Code:=(Code.part [1,1,1,1,1,0,1,0,0,1,1,0,0,1,1,0,0] (qj 35))
def zWM:lNa:=[(3,pq BA 0),(6,.slice q13 l13 c13),(7,pq BB 0),(10,pq BC 0),(11,iV bb),(31,iV n14),(32,iV bT),(37,.slice qG lJ cH),(38,iV (lJ:Int)),(39,iV dT)]
def xPE:Alt:=⟨Int × Int,.normal,fun t=>zWM BA q13 l13 c13 BB BC n14 bT qG lJ cH t.1 t.2,fun t=>[],fun t σ=>Q t.1 t.2 σ⟩
def yKA (BA:Nat) (q13:oAa) (l13 c13 BB BC:Nat) (n14 bT:Int) (qG:oAa) (lJ cH:Nat) (bb:Int):lNa:=[(3,pq BA 0),(6,.slice q13 l13 c13),(7,pq BB 0),(10,pq BC 0),(11,iV bb),(31,iV n14),(32,iV bT)]
def zWN:Alt:=⟨Int,(.exit 2),fun t=>yKA BA q13 l13 c13 BB BC n14 bT qG lJ cH t,fun t=>[],fun t σ=>q3 t σ⟩
def yFW:Prop:=qk ql none xGT 62 (zWM BA q13 l13 c13 BB BC n14 bT qG lJ cH bb dT) [] [xPE BA q13 l13 c13 BB BC n14 bT qG lJ cH Nx,zWN BA q13 l13 c13 BB BC n14 bT qG lJ cH Q2] σ
def xGU:Prop:=qm ql none xGT 62 (zWM BA q13 l13 c13 BB BC n14 bT qG lJ cH bb dT) [] [zWN BA q13 l13 c13 BB BC n14 bT qG lJ cH Q2] σ
def yKC:Prop:=kZ ql yQI [1,1,0,0,1,1,0] (zGC 62 [yXB BA q13 l13 c13 BB BC n14 Nx,zOM BA q13 l13 c13 BB BC n14 Q0]) (.exit 2) 62 (yKA BA q13 l13 c13 BB BC n14 bT qG lJ cH bb) σ
def zWO:Prop:=kZ ql (qj 35) [1,1,1,1,1,0,1,0] (qo 35 q4) (.exit 0) 62 (yKB BA q13 l13 c13 BB BC n14) σ
def yPI:Code:=(Code.part [1,0,1,0,0] (qj 36))
def zKN:lNa:=[(0,iV day),(1,.slice who aQ bi),(5,pq BA 0),(9,.slice q1 l1 c1),(10,iV (l1:Int)),(11,iV aD)]
def xFQ:Alt:=⟨Int,.normal,fun t=>zKN day who aQ bi BA q1 l1 c1 t,fun t=>[],fun t σ=>q3 t σ⟩
def yAQ (day:Int) (who:oAa) (aQ bi BA:Nat) (q1:oAa) (l1 c1:Nat):lNa:=[(5,pq BA 0)]
def zOA:Alt:=⟨Unit,(.exit 0),fun t=>yAQ day who aQ bi BA q1 l1 c1,fun t=>[],fun t σ=>q0 σ⟩
def zKO:Prop:=qk ql none yPI 30 (zKN day who aQ bi BA q1 l1 c1 aD) [] [xFQ day who aQ bi BA q1 l1 c1 q5,zOA day who aQ bi BA q1 l1 c1 Q0] σ
def yPJ:Prop:=qm ql none yPI 30 (zKN day who aQ bi BA q1 l1 c1 aD) [] [zOA day who aQ bi BA q1 l1 c1 Q0] σ
def yAR:Prop:=kZ ql (qj 36) [1,0,1,0] (qo 36 q4) (.exit 0) 30 (yAQ day who aQ bi BA q1 l1 c1) σ
end
variable {BA l13 c13 BB BC lJ cH lB cA lG cF lH cG ab ad aa ac l8 c8 l11 c11 l2 c2 l12 c12 aQ bi l1 c1 lA cE:Nat} {q13 qG qE qF af ae q8 q11 q2 q12 who q1 qD:oAa} {n14 bT bb dT nR nT aD nG nB nA nE am ao au aj n2 n3 n4 n5 n6 n7 nGC nHC nIC nJC nBA nBD nBb nBc nBd nBe nBf nB6 n1 n8 day nB7 x0:Int} {Inv:Nat→Int→Int→St→Prop} {Q0 P0:St→Prop} {Q2 P2:Int→St→Prop} {qG_a qA_a q13_a fz v0:Addr} {σCC σ σD σ10 σ12 σAB σ14 σV σCB:St} {Nx:Int→Int→St→Prop} {leaves b9 bE:Bool} {worth:FuncId} {fZ:lVa} {f1:Nat→Std} {Q:vPa}
theorem xAJ (hb:∀ k aD bT σ,Inv k aD bT σ→yQK BA q13 l13 c13 BB BC n14 aD bT σ (NX2 Inv k) Q0):∀ k aD bT σ,Inv k aD bT σ→yQJ BA q13 l13 c13 BB BC n14 aD bT σ Q0 :=
 zEV (ai (wI 0) trivial) hb
theorem xAI (hb:∀ k bb dT σ,Inv k bb dT σ→yFW BA q13 l13 c13 BB BC n14 bT qG lJ cH bb dT σ (NX2 Inv k) Q2):∀ k bb dT σ,Inv k bb dT σ→xGU BA q13 l13 c13 BB BC n14 bT qG lJ cH bb dT σ Q2 :=
 zEV (ai (wI 2) trivial) hb
theorem xPB (h1:lz σ 3 (zN qG_a (Int.toNat dT*1)) (iV nR)) (h2:lz σ 4 (qg BC 7) (.bool true)) (h3:lz σ 29 (qg BC 6) (.slice (some qA_a) lB cA)) (h4:lz σ 3 (zN qA_a (Int.toNat bb*1)) (iV nT)) (h5:qq (evL [pz (zN q13_a (Int.toNat nR*1)),iV nT]) σ (.store 3 (.tmp 0) (.tmp 1))=some (undef,σCC)) (nx:Nx (bb+1) (dT+1) σCC) (u1:dT<(lJ:Int):=by omega) (u2:Ix dT lJ:=by omega) (u3:Ix bb lB:=by omega) (u4:Ix nR l13:=by omega) (u5:I6 (bb+1):=by omega) (u6:I6 (dT+1):=by omega):yFW BA (some q13_a) l13 c13 BB BC n14 bT (some qG_a) lJ cH bb dT σ Nx Q2 :=
 kO 0 (bb+1,dT+1) [.b true,.i,.l (iV nR),.g,.g,.l (.bool true),.g,.g,.g,.l (.slice (some qA_a) lB cA),.g,.i,.l (iV nT),.i,.e undef σCC,.g,.n (bb+1),.g,.n (dT+1),.g] (fun _ f=>an5 (zR u1) u2 h1 h2 h3 (an6 u3 h4 u4 h5 (w64 u5) (w64 u6) f)) nx
theorem xPA (h1:lz σ 3 (zN qG_a (Int.toNat dT*1)) (iV nR)) (h2:lz σ 4 (qg BC 7) (.bool false)) (nx:Nx bb (dT+1) σ) (u1:dT<(lJ:Int):=by omega) (u2:Ix dT lJ:=by omega) (u3:I6 (dT+1):=by omega):yFW BA q13 l13 c13 BB BC n14 bT (some qG_a) lJ cH bb dT σ Nx Q2 :=
 kO 0 (bb,dT+1) [.b true,.i,.l (iV nR),.g,.g,.l (.bool false),.n (dT+1),.g] (fun _ f=>an5 (zR u1) u2 h1 h2 (w64 u3) f) nx
theorem xOZ (nx:Q2 bb σ) (u1:¬ dT<(lJ:Int):=by omega):yFW BA q13 l13 c13 BB BC n14 bT qG lJ cH bb dT σ Nx Q2 :=
 kO 1 bb [.b false] (fun _ f=>ai (zT u1) f) nx
theorem xPD (h1:lz σ 43 (qg BA 0) (qh (wkc nG qE lG cF qF lH cG nB nA nE))) (h2:qn 54 [qh (wkc nG qE lG cF qF lH cG nB nA nE),iV bT] σ (.slice qG lJ cH) σD) (hL:xGU BA q13 l13 c13 BB BC n14 bT qG lJ cH aD 0 σD P2) (k2:∀ i11_2' σ',P2 i11_2' σ'→yKC BA q13 l13 c13 BB BC n14 bT qG lJ cH i11_2' σ' Nx Q0) (u1:bT<n14:=by omega):yQK BA q13 l13 c13 BB BC n14 aD bT σ Nx Q0 :=
 zDA [.b true,.g,.g,.l (qh (wkc nG qE lG cF qF lH cG nB nA nE)),.g,.c (.slice qG lJ cH) σD,.g,.g,.lf 62 (zWM BA q13 l13 c13 BB BC n14 bT qG lJ cH aD 0) [zWN BA q13 l13 c13 BB BC n14 bT qG lJ cH P2]] (fun g=>kd (an3 (zR u1) h1 h2 (ai (ai tt (ai (arf (zWM BA q13 l13 c13 BB BC n14 bT qG lJ cH aD 0)) hL)) (ai (kz1 k2) trivial))))
theorem xPC (nx:Q0 σ) (u1:¬ bT<n14:=by omega):yQK BA q13 l13 c13 BB BC n14 aD bT σ Nx Q0 :=
 kO 1 () [.b false] (fun _ f=>ai (zT u1) f) nx
theorem xAG (nx:Nx bb (bT+1) σ) (u1:I6 (bT+1):=by omega):yKC BA q13 l13 c13 BB BC n14 bT qG lJ cH bb σ Nx Q0 :=
 sF 0 (bb,bT+1) [.n (bT+1),.g] (fun _ f=>ai (w64 u1) f) nx
theorem xUN:let s1:=σ.row (wkc am af ab ad ae aa ac ao au aj) 6;let s2:=s1.row (zJ 0 0 0 0 0 0) 1;let s3:=s2.add (.map []);let s4:=s3.row [iV am,.slice af ab ad,.slice ae aa ac,iV ao,iV au,iV aj,.bool leaves,.func (.func worth) ⟨[]⟩ ⟨fZ⟩,.map (some (σ.y+2))] 9;let s5:=σ10.row [iV 0,iV 0,iV 0,iV 0,iV 0,iV 0,.slice none 0 0,.bool false] 8;let s6:=s5.own σ10.y [iV n2,iV n3,iV n4,iV n5,iV n6,iV n7,.slice q8 l8 c8,.bool b9] 8;∀ (h1:qn 45 [qh (wkc am af ab ad ae aa ac ao au aj)] s4 (qh (stL f1)) s4) (h2:qn 53 [pq ((σ.y+3)) 0,qh (iV 0::(stL f1))] s4 (qh [iV n2,iV n3,iV n4,iV n5,iV n6,iV n7,.slice q8 l8 c8,.bool b9]) σ10) (h3:lz s6 40 (qg σ.y 1) (.slice q11 l11 c11)) (h4:qq (evL [iV (l11:Int),iV (l11:Int)]) s6 (.makeSlice 29 (.tmp 0) (.tmp 1))=some (.slice q13 l13 c13,σ12)) (h5:lz σ12 3 (qg σ.y 0) (iV n14)) (hL:yQJ σ.y q13 l13 c13 (σ.y+1) σ10.y n14 0 0 σ12 P0) (k0:∀ σ',P0 σ'→zWO σ.y q13 l13 c13 (σ.y+1) σ10.y n14 σ' Q),qi 35 [qh (wkc am af ab ad ae aa ac ao au aj),.bool leaves,.func (.func worth) ⟨[]⟩ ⟨fZ⟩] σ Q:=
 let s1:=σ.row (wkc am af ab ad ae aa ac ao au aj) 6;let s2:=s1.row (zJ 0 0 0 0 0 0) 1;let s3:=s2.add (.map []);let s4:=s3.row [iV am,.slice af ab ad,.slice ae aa ac,iV ao,iV au,iV aj,.bool leaves,.func (.func worth) ⟨[]⟩ ⟨fZ⟩,.map (some (σ.y+2))] 9;let s5:=σ10.row [iV 0,iV 0,iV 0,iV 0,iV 0,iV 0,.slice none 0 0,.bool false] 8;let s6:=s5.own σ10.y [iV n2,iV n3,iV n4,iV n5,iV n6,iV n7,.slice q8 l8 c8,.bool b9] 8;let s7:=yFV σ.y q13 l13 c13 (σ.y+1) σ10.y n14 0 0;fun h1 h2 h3 h4 h5 hL k0=>zI [.g,.g,.g,.g,.l (qh (wkc am af ab ad ae aa ac ao au aj)),.g,.g,.g,.g,.g,.g,.g,.l (qh (wkc am af ab ad ae aa ac ao au aj)),.c (qh (stL f1)) s4,.g,.c (qh [iV n2,iV n3,iV n4,iV n5,iV n6,iV n7,.slice q8 l8 c8,.bool b9]) σ10,.g,.e undef s6,.g,.l (.slice q11 l11 c11),.g,.e (.slice q13 l13 c13) σ12,.g,.g,.g,.l (iV n14),.g,.lf 62 s7 [zOM σ.y q13 l13 c13 (σ.y+1) σ10.y n14 P0]] (kd (an2 ((zC _ _ _).row.rw.ldN xS yW (k:=0) rfl rfl (nle rfl):lz s2 43 (qg σ.y 0) (qh (wkc am af ab ad ae aa ac ao au aj))) ((zC _ _ _).row.add.row.rw.ldN xS yW (k:=0) rfl rfl (nle rfl):lz s4 43 (qg σ.y 0) (qh (wkc am af ab ad ae aa ac ao au aj))) (an6 h1 h2 ((zC _ _ _).store (vs:=[iV n2,iV n3,iV n4,iV n5,iV n6,iV n7,.slice q8 l8 c8,.bool b9]) rfl uA rfl (nle rfl) rfl:qq (evL [pq σ10.y 0,qh [iV n2,iV n3,iV n4,iV n5,iV n6,iV n7,.slice q8 l8 c8,.bool b9]]) s5 (.store 108 (.tmp 0) (.tmp 1))=some (undef,s6)) h3 h4 h5 (ai (ai tt (ai (arf s7) hL)) (ai (kz0 k0) trivial)))))
theorem xAH:let y0:=zJ nGC nHC nIC nJC nBA nBD;let y1:=zJ nBb nBc nBd nBe nBf nB6;∀ (h1:lz σ 73 (qg BC 0) (qh y0)) (h2:lz σ 4 (qg BC 7) (.bool bE)) (h3:qq (evL [pq BB 0,qh y0]) σ (.store 73 (.tmp 0) (.tmp 1))=some (undef,σAB)) (h4:(zLq σAB 4 (qg BC 7) (.bool bE))) (h5:lz σAB 73 (qg BB 0) (qh y1)) (nx:Q (.tuple ⟨[.slice q13 l13 c13,qh y1,.bool bE]⟩) σAB) (b_BC:BC<σ.y:=by omega) (b_BB:BB<σ.y:=by omega),zWO BA q13 l13 c13 BB BC n14 σ Q :=
 let y0:=zJ nGC nHC nIC nJC nBA nBD;let y1:=zJ nBb nBc nBd nBe nBf nB6;fun h1 h2 h3 h4 h5 nx b_BC b_BB=>sK [.g,.g,.l (qh y0),.g,.l (.bool bE),.g,.e undef σAB,.g,.l (qh y1)] (an3 h1 h2 h3 (an6 ((zE (zO b_BC) zH):zG σ.y [pq BC 0]) ((zE (zO b_BC) zH):zG σ.y [pq BC 7]) ((zE (zO b_BB) (zE (yL rfl) zH)):zG σ.y [pq BB 0,qh y0]) (⟨⟨b_BC,rfl⟩,h2⟩:(zLq σ 4 (qg BC 7) (.bool bE))) h4 h5 nx))
theorem xTD:let s1:=σ.row (wkc am af ab ad ae aa ac ao au aj) 6;∀ (h1:qn 22 [qh (wkc am af ab ad ae aa ac ao au aj)] s1 (iV n1) s1) (nx:Q (.tuple ⟨[.slice none 0 0,.slice none 0 0,iV n1]⟩) s1) (u1:¬ n1=0:=by omega),qi 21 [qh (wkc am af ab ad ae aa ac ao au aj)] σ Q:=
 let s1:=σ.row (wkc am af ab ad ae aa ac ao au aj) 6;fun h1 nx u1=>zI [.g,.g,.g,.g,.l (qh (wkc am af ab ad ae aa ac ao au aj)),.c (iV n1) s1,.g,.g,.b true,.g,.g,.g,.g] (kd (an3 ((zC _ _ _).rw.ldN xS yW (k:=0) rfl rfl (nle rfl):lz s1 43 (qg σ.y 0) (qh (wkc am af ab ad ae aa ac ao au aj))) h1 (zCF u1) nx))
theorem xTC:let s1:=σ.row (wkc am af ab ad ae aa ac ao au aj) 6;let s2:=σ10.row (zJ 0 0 0 0 0 0) 1;let s3:=s2.own σ10.y (zJ n3 n4 n5 n6 n7 n8) 1;∀ (h1:qn 22 [qh (wkc am af ab ad ae aa ac ao au aj)] s1 (iV n1) s1) (h2:qn 35 [qh (wkc am af ab ad ae aa ac ao au aj),.bool false,.func (.func 36) ⟨[]⟩ ⟨[pq σ.y 0]⟩] s1 (.tuple ⟨[.slice q2 l2 c2,qh (zJ n3 n4 n5 n6 n7 n8),.bool true]⟩) σ10) (h3:lz s3 41 (qg σ.y 2) (.slice q11 l11 c11)) (h4:yI Pg s3 73 (pq σ10.y 0) none (some (iV (l11:Int))) none=some (.slice q12 l12 c12)) (h5:qn 32 [.slice q12 l12 c12] s3 (.slice q13 l13 c13) σ14) (nx:Q (.tuple ⟨[.slice q2 l2 c2,.slice q13 l13 c13,iV 0]⟩) σ14) (u1:n1=0:=by omega),qi 21 [qh (wkc am af ab ad ae aa ac ao au aj)] σ Q:=
 let s1:=σ.row (wkc am af ab ad ae aa ac ao au aj) 6;let s2:=σ10.row (zJ 0 0 0 0 0 0) 1;let s3:=s2.own σ10.y (zJ n3 n4 n5 n6 n7 n8) 1;fun h1 h2 h3 h4 h5 nx u1=>zI [.g,.g,.g,.g,.l (qh (wkc am af ab ad ae aa ac ao au aj)),.c (iV n1) s1,.g,.g,.b false,.g,.g,.l (qh (wkc am af ab ad ae aa ac ao au aj)),.g,.c (.tuple ⟨[.slice q2 l2 c2,qh (zJ n3 n4 n5 n6 n7 n8),.bool true]⟩) σ10,.g,.g,.g,.g,.g,.g,.e undef s3,.g,.g,.g,.g,.g,.l (.slice q11 l11 c11),.g,.v (.slice q12 l12 c12),.c (.slice q13 l13 c13) σ14,.g,.g,.g] (kd (an3 ((zC _ _ _).rw.ldN xS yW (k:=0) rfl rfl (nle rfl):lz s1 43 (qg σ.y 0) (qh (wkc am af ab ad ae aa ac ao au aj))) h1 (zAF u1) (an6 ((zC _ _ _).rw.ldN xS yW (k:=0) rfl rfl (nle rfl):lz s1 43 (qg σ.y 0) (qh (wkc am af ab ad ae aa ac ao au aj))) h2 ((zC _ _ _).store (vs:=(zJ n3 n4 n5 n6 n7 n8)) rfl xZ rfl (nle rfl) rfl:qq (evL [pq σ10.y 0,qh (zJ n3 n4 n5 n6 n7 n8)]) s2 (.store 73 (.tmp 0) (.tmp 1))=some (undef,s3)) h3 h4 h5 nx)))
theorem xTB:let s1:=σ.row (wkc am af ab ad ae aa ac ao au aj) 6;let s2:=σ10.row (zJ 0 0 0 0 0 0) 1;let s3:=s2.own σ10.y (zJ n3 n4 n5 n6 n7 n8) 1;∀ (h1:qn 22 [qh (wkc am af ab ad ae aa ac ao au aj)] s1 (iV n1) s1) (h2:qn 35 [qh (wkc am af ab ad ae aa ac ao au aj),.bool false,.func (.func 36) ⟨[]⟩ ⟨[pq σ.y 0]⟩] s1 (.tuple ⟨[.slice q2 l2 c2,qh (zJ n3 n4 n5 n6 n7 n8),.bool false]⟩) σ10) (nx:Q (.tuple ⟨[.slice none 0 0,.slice none 0 0,iV 9]⟩) s3) (u1:n1=0:=by omega),qi 21 [qh (wkc am af ab ad ae aa ac ao au aj)] σ Q:=
 let s1:=σ.row (wkc am af ab ad ae aa ac ao au aj) 6;let s2:=σ10.row (zJ 0 0 0 0 0 0) 1;let s3:=s2.own σ10.y (zJ n3 n4 n5 n6 n7 n8) 1;fun h1 h2 nx u1=>zI [.g,.g,.g,.g,.l (qh (wkc am af ab ad ae aa ac ao au aj)),.c (iV n1) s1,.g,.g,.b false,.g,.g,.l (qh (wkc am af ab ad ae aa ac ao au aj)),.g,.c (.tuple ⟨[.slice q2 l2 c2,qh (zJ n3 n4 n5 n6 n7 n8),.bool false]⟩) σ10,.g,.g,.g,.g,.g,.g,.e undef s3,.g,.g,.g,.g,.g,.g] (kd (an6 ((zC _ _ _).rw.ldN xS yW (k:=0) rfl rfl (nle rfl):lz s1 43 (qg σ.y 0) (qh (wkc am af ab ad ae aa ac ao au aj))) h1 (zAF u1) ((zC _ _ _).rw.ldN xS yW (k:=0) rfl rfl (nle rfl):lz s1 43 (qg σ.y 0) (qh (wkc am af ab ad ae aa ac ao au aj))) h2 ((zC _ _ _).store (vs:=(zJ n3 n4 n5 n6 n7 n8)) rfl xZ rfl (nle rfl) rfl:qq (evL [pq σ10.y 0,qh (zJ n3 n4 n5 n6 n7 n8)]) s2 (.store 73 (.tmp 0) (.tmp 1))=some (undef,s3)) nx))
theorem yPH {Inv:Nat→Int→St→Prop} (hb:∀ k aD σ,Inv k aD σ→zKO day who aQ bi BA q1 l1 c1 aD σ (NX1 Inv k) Q0):∀ k aD σ,Inv k aD σ→yPJ day who aQ bi BA q1 l1 c1 aD σ Q0 :=
 xJ (ai (wI 0) trivial) hb
theorem xFP {Nx:Int→St→Prop}:let s1:=σ.row (zM none 0 0 none 0 0 none 0 0 0 0 0) 6;let s2:=s1.own σ.y (zM qD lA cE qE lG cF qF lH cG nB nA nE) 6;let y0:=zM qD lA cE qE lG cF qF lH cG nB nA nE;∀ (h1:lz σ 61 (zN fz (Int.toNat aD*6)) (qh y0)) (h2:qn 37 [.slice qF lH cG,iV day] s2 (.bool true) s2) (h3:qn 37 [.slice who aQ bi,iV aD] s2 (.bool true) s2) (nx:Nx (aD+1) s2) (u1:aD<(l1:Int):=by omega) (u2:Ix aD l1:=by omega) (u3:I6 (aD+1):=by omega),zKO day who aQ bi BA (some fz) l1 c1 aD σ Nx Q0:=
 let s1:=σ.row (zM none 0 0 none 0 0 none 0 0 0 0 0) 6;let s2:=s1.own σ.y (zM qD lA cE qE lG cF qF lH cG nB nA nE) 6;let y0:=zM qD lA cE qE lG cF qF lH cG nB nA nE;fun h1 h2 h3 nx u1 u2 u3=>kO 0 (aD+1) [.b true,.g,.i,.l (qh y0),.g,.g,.e undef s2,.g,.l (.slice qF lH cG),.g,.c (.bool true) s2,.g,.g,.g,.c (.bool true) s2,.g,.g,.n (aD+1),.g] (fun _ f=>an2 (zR u1) u2 (an6 h1 ((zC _ _ _).store (vs:=y0) rfl zES rfl (nle rfl) rfl:qq (evL [pq σ.y 0,qh y0]) s1 (.store 61 (.tmp 0) (.tmp 1))=some (undef,s2)) ((zC _ _ _).put.rw.ld yV (k:=2) rfl:lz s2 29 (qg σ.y 2) (.slice qF lH cG)) h2 h3 (w64 u3) f)) nx
theorem xFO {Nx:Int→St→Prop}:let s1:=σ.row (zM none 0 0 none 0 0 none 0 0 0 0 0) 6;let s2:=s1.own σ.y (zM qD lA cE qE lG cF qF lH cG nB nA nE) 6;let y0:=zM qD lA cE qE lG cF qF lH cG nB nA nE;∀ (h1:lz σ 61 (zN fz (Int.toNat aD*6)) (qh y0)) (h2:qn 37 [.slice qF lH cG,iV day] s2 (.bool true) s2) (h3:qn 37 [.slice who aQ bi,iV aD] s2 (.bool false) s2) (h4:qq (evL [pq BA (0+Int.toNat aD*1),iV 1]) s2 (.store 3 (.tmp 0) (.tmp 1))=some (undef,σV)) (nx:Nx (aD+1) σV) (u1:aD<(l1:Int):=by omega) (u2:Ix aD l1:=by omega) (u3:Ix aD 6:=by omega) (u4:I6 (aD+1):=by omega),zKO day who aQ bi BA (some fz) l1 c1 aD σ Nx Q0:=
 let s1:=σ.row (zM none 0 0 none 0 0 none 0 0 0 0 0) 6;let s2:=s1.own σ.y (zM qD lA cE qE lG cF qF lH cG nB nA nE) 6;let y0:=zM qD lA cE qE lG cF qF lH cG nB nA nE;fun h1 h2 h3 h4 nx u1 u2 u3 u4=>kO 0 (aD+1) [.b true,.g,.i,.l (qh y0),.g,.g,.e undef s2,.g,.l (.slice qF lH cG),.g,.c (.bool true) s2,.g,.g,.g,.c (.bool false) s2,.g,.g,.g,.i,.e undef σV,.n (aD+1),.g] (fun _ f=>an4 (zR u1) u2 h1 ((zC _ _ _).store (vs:=y0) rfl zES rfl (nle rfl) rfl:qq (evL [pq σ.y 0,qh y0]) s1 (.store 61 (.tmp 0) (.tmp 1))=some (undef,s2)) (an6 ((zC _ _ _).put.rw.ld yV (k:=2) rfl:lz s2 29 (qg σ.y 2) (.slice qF lH cG)) h2 h3 u3 h4 (w64 u4) f)) nx
theorem xFN {Nx:Int→St→Prop}:let s1:=σ.row (zM none 0 0 none 0 0 none 0 0 0 0 0) 6;let s2:=s1.own σ.y (zM qD lA cE qE lG cF qF lH cG nB nA nE) 6;let y0:=zM qD lA cE qE lG cF qF lH cG nB nA nE;∀ (h1:lz σ 61 (zN fz (Int.toNat aD*6)) (qh y0)) (h2:qn 37 [.slice qF lH cG,iV day] s2 (.bool false) s2) (nx:Nx (aD+1) s2) (u1:aD<(l1:Int):=by omega) (u2:Ix aD l1:=by omega) (u3:I6 (aD+1):=by omega),zKO day who aQ bi BA (some fz) l1 c1 aD σ Nx Q0:=
 let s1:=σ.row (zM none 0 0 none 0 0 none 0 0 0 0 0) 6;let s2:=s1.own σ.y (zM qD lA cE qE lG cF qF lH cG nB nA nE) 6;let y0:=zM qD lA cE qE lG cF qF lH cG nB nA nE;fun h1 h2 nx u1 u2 u3=>kO 0 (aD+1) [.b true,.g,.i,.l (qh y0),.g,.g,.e undef s2,.g,.l (.slice qF lH cG),.g,.c (.bool false) s2,.g,.g,.n (aD+1),.g] (fun _ f=>ai (zR u1) (an6 u2 h1 ((zC _ _ _).store (vs:=y0) rfl zES rfl (nle rfl) rfl:qq (evL [pq σ.y 0,qh y0]) s1 (.store 61 (.tmp 0) (.tmp 1))=some (undef,s2)) ((zC _ _ _).put.rw.ld yV (k:=2) rfl:lz s2 29 (qg σ.y 2) (.slice qF lH cG)) h2 (w64 u3) f)) nx
theorem xFM {Nx:Int→St→Prop} (nx:Q0 σ) (u1:¬ aD<(l1:Int):=by omega):zKO day who aQ bi BA q1 l1 c1 aD σ Nx Q0 :=
 kO 1 () [.b false] (fun _ f=>ai (zT u1) f) nx
theorem xOH (h1:lz (σ.row (zJ 0 0 0 0 0 0) 1) 41 (zN v0 2) (.slice q1 l1 c1)) (hL:yPJ day who aQ bi σ.y q1 l1 c1 0 (σ.row (zJ 0 0 0 0 0 0) 1) P0) (k0:∀ σ',P0 σ'→yAR day who aQ bi σ.y q1 l1 c1 σ' Q):qi 36 [iV day,.slice who aQ bi,pz v0] σ Q :=
 zI [.g,.g,.l (.slice q1 l1 c1),.g,.g,.lf 30 (zKN day who aQ bi σ.y q1 l1 c1 0) [zOA day who aQ bi σ.y q1 l1 c1 P0]] (kd (ai h1 (ai (ai tt (ai (arf (zKN day who aQ bi σ.y q1 l1 c1 0)) hL)) (ai (kz0 k0) trivial))))
theorem yPG (h1:lz σ 73 (qg BA 0) (qh (zJ nGC nHC nIC nJC nBA nBD))) (h2:qq (evL [pq BA 0,qh (zJ nGC nHC nIC nJC nBA nBD)]) σ (.store 73 (.tmp 0) (.tmp 1))=some (undef,σCB)) (h3:lz σCB 73 (qg BA 0) (qh (zJ nB7 nBb nBc nBd nBe nBf))) (nx:Q (qh (zJ nB7 nBb nBc nBd nBe nBf)) σCB):yAR day who aQ bi BA q1 l1 c1 σ Q :=
 sK [.l (qh (zJ nGC nHC nIC nJC nBA nBD)),.e undef σCB,.l (qh (zJ nB7 nBb nBc nBd nBe nBf))] (an3 h1 h2 h3 nx)
theorem xSX:let s1:=σ.row (wkc am af ab ad ae aa ac ao au aj) 6;∀ (h1:qn 22 [qh (wkc am af ab ad ae aa ac ao au aj)] s1 (iV n1) s1) (nx:Q (.tuple ⟨[.slice none 0 0,iV 0,iV n1]⟩) s1) (u1:¬ n1=0:=by omega),qi 18 [qh (wkc am af ab ad ae aa ac ao au aj)] σ Q:=
 let s1:=σ.row (wkc am af ab ad ae aa ac ao au aj) 6;fun h1 nx u1=>zI [.g,.g,.g,.g,.l (qh (wkc am af ab ad ae aa ac ao au aj)),.c (iV n1) s1,.g,.g,.b true,.g,.g,.g,.g] (kd (an3 ((zC _ _ _).rw.ldN xS yW (k:=0) rfl rfl (nle rfl):lz s1 43 (qg σ.y 0) (qh (wkc am af ab ad ae aa ac ao au aj))) h1 (zCF u1) nx))
theorem xSW:let s1:=σ.row (wkc am af ab ad ae aa ac ao au aj) 6;let s2:=σ10.row (zJ 0 0 0 0 0 0) 1;let s3:=s2.own σ10.y (zJ n3 n4 n5 n6 n7 n8) 1;∀ (h1:qn 22 [qh (wkc am af ab ad ae aa ac ao au aj)] s1 (iV n1) s1) (h2:qn 35 [qh (wkc am af ab ad ae aa ac ao au aj),.bool true,.func (.func 33) ⟨[]⟩ ⟨[]⟩] s1 (.tuple ⟨[.slice q2 l2 c2,qh (zJ n3 n4 n5 n6 n7 n8),.bool b9]⟩) σ10) (nx:Q (.tuple ⟨[.slice q2 l2 c2,iV n3,iV 0]⟩) s3) (u1:n1=0:=by omega),qi 18 [qh (wkc am af ab ad ae aa ac ao au aj)] σ Q:=
 let s1:=σ.row (wkc am af ab ad ae aa ac ao au aj) 6;let s2:=σ10.row (zJ 0 0 0 0 0 0) 1;let s3:=s2.own σ10.y (zJ n3 n4 n5 n6 n7 n8) 1;fun h1 h2 nx u1=>zI [.g,.g,.g,.g,.l (qh (wkc am af ab ad ae aa ac ao au aj)),.c (iV n1) s1,.g,.g,.b false,.g,.l (qh (wkc am af ab ad ae aa ac ao au aj)),.g,.c (.tuple ⟨[.slice q2 l2 c2,qh (zJ n3 n4 n5 n6 n7 n8),.bool b9]⟩) σ10,.g,.g,.g,.g,.g,.g,.e undef s3,.g,.g,.i,.l (iV n3),.g,.g,.g] (kd (an2 ((zC _ _ _).rw.ldN xS yW (k:=0) rfl rfl (nle rfl):lz s1 43 (qg σ.y 0) (qh (wkc am af ab ad ae aa ac ao au aj))) h1 (an6 (zAF u1) ((zC _ _ _).rw.ldN xS yW (k:=0) rfl rfl (nle rfl):lz s1 43 (qg σ.y 0) (qh (wkc am af ab ad ae aa ac ao au aj))) h2 ((zC _ _ _).store (vs:=(zJ n3 n4 n5 n6 n7 n8)) rfl xZ rfl (nle rfl) rfl:qq (evL [pq σ10.y 0,qh (zJ n3 n4 n5 n6 n7 n8)]) s2 (.store 73 (.tmp 0) (.tmp 1))=some (undef,s3)) (⟨by decide,by decide⟩:xKR 0 6) ((zC _ _ _).put.rw.ld zS (k:=0) rfl:lz s3 3 (qg σ10.y 0) (iV n3)) nx)))
theorem xOA:let s1:=σ.row (zJ 0 0 0 0 0 0) 1;let s2:=s1.own σ.y (zJ n1 0 0 0 0 0) 1;∀ (h1:qn 34 [.slice who aQ bi] s1 (iV n1) s1) (nx:Q (qh (zJ n1 0 0 0 0 0)) s2),qi 33 [iV x0,.slice who aQ bi] σ Q:=
 let s1:=σ.row (zJ 0 0 0 0 0 0) 1;let s2:=s1.own σ.y (zJ n1 0 0 0 0 0) 1;fun h1 nx=>zI [.g,.g,.c (iV n1) s1,.g,.e undef s2,.l (qh (zJ n1 0 0 0 0 0))] (kd (an3 h1 ((zC _ _ _).store (vs:=(zJ n1 0 0 0 0 0)) rfl xZ rfl (nle rfl) rfl:qq (evL [pq σ.y 0,qh (zJ n1 0 0 0 0 0)]) s1 (.store 73 (.tmp 0) (.tmp 1))=some (undef,s2)) ((zC _ _ _).put.rw.ldN zCW xZ (k:=0) rfl rfl (nle rfl):lz s2 73 (qg σ.y 0) (qh (zJ n1 0 0 0 0 0))) nx))
end
end Go.Proofs.Ytgfiniccfpfplaa
