import Derived.Test.YtgfiniccfpfplaaGreatRA
import Derived.Sort.AssemblyPlain
import Derived.Test.YtgfiniccfpfplaaGreatTy
import Derived.Test.YtgfiniccfpfplaaGreatRI

namespace Go.Proofs.YtgfiniccfpfplaaGreat
open Go Go.Lay
set_option linter.unusedVariables false
set_option linter.unusedSimpArgs false
set_option maxRecDepth 20000
open Go.Sort (swp)
def cellsD (d:Array Rec):List Value:=d.toList.flatMap recL
def Dt (σ:St) (b:Nat) (s:Option Nat) (d:Array Rec):Prop:=b<σ.next∧∃ log nx,yR σ.heap b=some (.cells (cellsD d) 3 ((s.getD 0,d.size*3)::log) nx false)
section
variable {σ τ:St} {b:Nat} {s:Option Nat} {d d0:Array Rec}
end
end Go.Proofs.YtgfiniccfpfplaaGreat

namespace Go.Proofs.YtgfiniccfpfplaaGreat
open Go Go.Lay
set_option linter.unusedVariables false
set_option linter.unusedSimpArgs false
set_option maxRecDepth 20000
open Go.Sort (swp)
theorem zON {σ σ':St} {f:FuncId} {args:List Value} {v:Value} (h:zE Tryz.prog f args σ v σ'):σ'.low≤σ.low:=by
 obtain ⟨N0,hN0⟩:=h
 have hc:=hN0 N0 (Nat.le_refl _)
 unfold zAU at hc
 split at hc
 ·cases hc
 ·rename_i v1 s1 h1
  unfold zBS at hc
  rcases Bool.eq_false_or_eq_true (Nat.ble σ.next s1.low && zT RD v1) with e | e
  ·rw [e,cond_true] at hc;simp at hc;rw [← hc.2];exact Nat.le_refl _
  ·rw [e,cond_false] at hc
   rcases Bool.eq_false_or_eq_true (Nat.ble σ.next s1.next) with e2 | e2
   ·rw [e2,cond_true,vH,zEG] at hc;simp at hc;rw [← hc.2];show min _ _≤_;omega
   ·rw [e2,cond_false] at hc;cases hc
theorem mut_c {σ s:St} {f:FuncId} {args:List Value} {v:Value} (h:∃ N0,∀ N,N0≤N→zZ Tryz.prog N (.func f) args σ.re=some (v,s)) (h1:σ.next≤s.next) (h2:s.low<σ.next):zE Tryz.prog f args σ v ⟨s.heap,s.next,min σ.low s.low⟩:=by
 obtain ⟨N0,hN⟩:=h
 refine ⟨N0,fun N hl=>?_⟩
 unfold zAU
 rw [show (⟨σ.heap,σ.next,σ.next⟩:St)=σ.re from rfl,hN N hl]
 show zBS σ v s=_
 unfold zBS
 have e1:(Nat.ble σ.next s.low && zT RD v)=false:=by
  rw [Bool.and_eq_false_iff];left
  rw [Bool.eq_false_iff];intro e;have:=(zU _ _).1 e;omega
 have e2:Nat.ble σ.next s.next=true:=(zU _ _).2 h1
 rw [e1,cond_false,e2,cond_true,vH,zEG]
structure W (σ τ:St) (b:Nat) (s:Option Nat) (d dk:Array Rec):Prop where
 only:Only (·=b) σ.re τ
 dt:Dt τ b s dk
 low:τ.low≤b∨dk=d
section
variable {σ:St} {b c:Nat} {s:Option Nat} {d:Array Rec} {g:FuncId} {gc:List Value} {lt:Rec→Rec→Bool} {V:Rec→Prop}
end
end Go.Proofs.YtgfiniccfpfplaaGreat

namespace Go.Proofs.YtgfiniccfpfplaaGreat
open Go Go.Lay
open Tryz renaming prog → Pg
set_option linter.unusedVariables false
set_option linter.unusedSimpArgs false
set_option maxRecDepth 20000
abbrev zMW (s:Std):Value:=.agg ⟨zN s.free s.row s.used s.day⟩
structure StOk (s:Std):Prop where
 free:-1000000≤s.free∧s.free≤1000000
 row:0≤s.row∧s.row≤1000000
 used:-1000000≤s.used∧s.used≤1000000
 day:-1≤s.day∧s.day≤6
structure DtOk (d:Dty):Prop where
 day:0≤d.day∧d.day≤6
 on:0≤d.on∧d.on≤1439
section
variable {σ:St} {w:Wk} {p q:Option Addr} {l m c d:Nat} {k:Nat}
theorem yYY {p:Option Addr} {l c:Nat} {xs:List Int} {n:Int} (h:yI σ p l xs) (hl:l≤1073741824):zE Pg 58 [.slice p l c,iV n] σ (.bool (xs.contains n)) σ:=by
 have h1:=(SlV.re h).re
 have e1:=h.len
 have ci:∃ r:Int,zE Pg 83 [.slice p l c,iV n] σ.re (iV r) σ.re∧(0≤r↔n∈xs):=by
  have key:zQ Pg 83 [.slice p l c,iV n] σ.re.re fun v s=>(∃ r:Int,v=iV r∧(0≤r↔n∈xs))∧s=σ.re.re:=by
   refine yXM (yIC (Inv:=fun k i τ=>τ=σ.re.re∧∃ j:Nat,i=j∧j+k=l∧n ∉ xs.take j) (Qr:=fun i τ=>τ=σ.re.re∧0≤i∧n∈xs) (Q0:=fun τ=>τ=σ.re.re∧n ∉ xs) ?_ l 0 _ ⟨rfl,0,rfl,by omega,by simp⟩) ?_ ?_
   ·rintro k i τ ⟨rfl,j,rfl,hk,he⟩
    by_cases hj:j<l
    ·obtain ⟨a,rfl,x,hx,l1⟩:=vR h1 hj
     by_cases hxy:n=x
     ·exact yTK l1 ⟨rfl,by omega,hxy ▸ List.mem_of_getElem? hx⟩ (by omega) (by omega) hxy
     ·exact yTJ l1 ⟨k-1,by omega,rfl,j+1,by omega,by omega,by rw [vS hx,List.mem_append];simp;exact ⟨he,hxy⟩⟩ (by omega) (by omega) hxy (by omega)
    ·rw [List.take_of_length_le (by omega)] at he
     exact yTI ⟨rfl,he⟩ (by omega)
   ·rintro i τ ⟨rfl,h2,hn⟩
    exact yIA ⟨⟨i,rfl,by simp [h2,hn]⟩,rfl⟩
   ·rintro τ ⟨rfl,hn⟩
    exact yIB ⟨⟨-1,rfl,by simp [hn]⟩,rfl⟩
  obtain ⟨v,s,h3,⟨r,rfl,h2⟩,rfl⟩:=key
  exact ⟨r,zVN h3 (Nat.le_refl _) rfl,h2⟩
 obtain ⟨r,c1,c2⟩:=ci
 by_cases hn:n∈xs
 ·rw [show xs.contains n=true by simp [hn]]
  exact (conI_ra c1 ⟨rfl,Nat.le_refl _⟩ (c2.2 hn)).pure
 ·rw [show xs.contains n=false by simp [hn]]
  exact (conI_rb c1 ⟨rfl,Nat.le_refl _⟩ (fun h=>hn (c2.1 h))).pure
theorem yPP {s:Std} {x:Dty} {e:Int} (hs:StOk s) (hx:DtOk x) (he:-1000000≤e∧e≤1000000):zE Pg 77 [zMW s,zEU x,iV e] σ (zMW (take s x e)) σ:=by
 have h1:=hs.used;have h2:=hs.row;have h3:=hs.day;have h4:=hx.day;have h5:=hx.on
 unfold take
 by_cases e1:s.day=x.day
 ·rw [if_pos e1]
  exact (yVH ⟨rfl,by simp⟩ (by omega) (by omega) e1).pure
 ·rw [if_neg e1]
  by_cases e2:s.day=x.day-1
  ·rw [if_pos e2]
   exact (yVF ⟨rfl,by simp⟩ (by omega) (by omega) e1 (by omega) e2 (by omega) (by omega) (by omega)).pure
  ·rw [if_neg e2]
   exact (yVG ⟨rfl,by simp⟩ (by omega) (by omega) e1 (by omega) e2 (by omega) (by omega)).pure
theorem ask_c (h:WkP σ 85 88 w p l q m) (hsh:zLY w) (hk:k<m) {s:Std} {x:Dty} (hs:StOk s) (hx:DtOk x) {n:Nat} (hn:n<5):zE Pg (92+n) [.agg ⟨wkc w.days p l c q m d w.rest w.run w.hours⟩,iV (k:Int),zEU x,zMW s] σ (.bool (holds w n (drv w k) x s)) σ:=by
 have h1:=hs.free;have h4:=hx.day;have h5:=hx.on
 have L:Le σ (((σ.re.row (wkc w.days p l c q m d w.rest w.run w.hours) 6).row (zF x.day x.on x.lo x.hi x.route) 5).row (zN s.free s.row s.used s.day) 4):=(((le0 σ).trans (Le.row _ _ _)).trans (Le.row _ _ _)).trans (Le.row _ _ _)
 obtain ⟨a,rfl,p',l',c',r',n',d',s',j',e',_,hkn,hlv,_,hf⟩:=(h.le L).vld yJW zQW hk
 have hm:=h.len.2
 have hmem:drv w k∈w.drivers:=by
  unfold drv
  rw [List.getD_eq_getElem?_getD,List.getElem?_eq_getElem (by omega)]
  exact List.getElem_mem _
 have hsx:=hsh _ hmem
 match n,hn with
 | 0,_=>exact (ySP (hf 0 _ rfl 26 yV) (yYY hkn (by have:=hkn.len;omega)) ⟨rfl,Nat.le_refl _⟩ (by omega)).pure
 | 1,_ =>
  have cc:=yYY (c:=d') (n:=x.day) hlv (by have:=hlv.len;omega)
  show zE Pg 93 _ σ (.bool (!(drv w k).leave.contains x.day)) σ
  cases hc:(drv w k).leave.contains x.day with
  | true=>rw [hc] at cc;exact (yWH (hf 1 _ rfl 26 yV) cc ⟨rfl,Nat.le_refl _⟩ (by omega)).pure
  | false=>rw [hc] at cc;exact (yWG (hf 1 _ rfl 26 yV) cc ⟨rfl,Nat.le_refl _⟩ (by omega)).pure
 | 2,_ =>
  show zE Pg 94 _ σ (.bool (decide (s.day≠x.day))) σ
  by_cases e:s.day=x.day
  ·rw [decide_eq_false (by simp [e])];exact (yMS ⟨rfl,Nat.le_refl _⟩ e).pure
  ·rw [decide_eq_true e];exact (yMT ⟨rfl,Nat.le_refl _⟩ e).pure
 | 3,_ =>
  show zE Pg 95 _ σ (.bool (decide (s.day=x.day) || decide (w.rest≤x.day*1440+x.on-s.free))) σ
  by_cases e:s.day=x.day
  ·rw [decide_eq_true e];exact (yMW ⟨rfl,Nat.le_refl _⟩ e).pure
  ·rw [decide_eq_false e,Bool.false_or]
   by_cases e2:w.rest≤x.day*1440+x.on-s.free
   ·rw [decide_eq_true e2];exact (yMV ⟨rfl,Nat.le_refl _⟩ e (by omega) (by omega) (by omega) e2).pure
   ·rw [decide_eq_false e2];exact (yMU ⟨rfl,Nat.le_refl _⟩ e (by omega) (by omega) (by omega) e2).pure
 | 4,_ =>
  show zE Pg 96 _ σ (.bool (decide (s.day=x.day) || decide ((take s x x.on).row≤w.run))) σ
  by_cases e:s.day=x.day
  ·rw [decide_eq_true e];exact (ySS ⟨rfl,Nat.le_refl _⟩ e).pure
  ·rw [decide_eq_false e,Bool.false_or]
   have ct:=yPP (σ:=((σ.re.row (wkc w.days p l c (some a) m d w.rest w.run w.hours) 6).row (zF x.day x.on x.lo x.hi x.route) 5).row (zN s.free s.row s.used s.day) 4) (e:=x.on) hs hx (by omega)
   by_cases e2:(take s x x.on).row≤w.run
   ·rw [decide_eq_true e2];exact (ySR ct ⟨rfl,Nat.le_refl _⟩ e e2).pure
   ·rw [decide_eq_false e2];exact (ySQ ct ⟨rfl,Nat.le_refl _⟩ e e2).pure
end
end Go.Proofs.YtgfiniccfpfplaaGreat

namespace Go.Proofs.YtgfiniccfpfplaaGreat
open Go Go.Lay
set_option linter.unusedVariables false
set_option linter.unusedSimpArgs false
set_option maxRecDepth 20000
open Go.Sort (swp PermIn SortedIn Below SWO)
def bLt (x y:Rec):Prop:=x.a<y.a∨x.a=y.a∧(x.k<y.k∨x.k=y.k∧x.b<y.b)
instance (x y:Rec):Decidable (bLt x y):=by unfold bLt;infer_instance
section
variable {σ:St}
end
end Go.Proofs.YtgfiniccfpfplaaGreat

namespace Go.Proofs.YtgfiniccfpfplaaGreat
open Go Go.Lay
set_option linter.unusedVariables false
set_option linter.unusedSimpArgs false
set_option maxRecDepth 20000
abbrev zGR (s:Std):List Value:=zN s.free s.row s.used s.day
def stL (f:Nat→Std):List Value:=zGR (f 0)++(zGR (f 1)++(zGR (f 2)++(zGR (f 3)++(zGR (f 4)++zGR (f 5)))))
def zNT:List Value:=[yC 0,yC 0,yC 0,yC 0,yC 0,yC 0,yC 0,yC 0,yC 0,yC 0,yC 0,yC 0,yC 0,yC 0,yC 0,yC 0,yC 0,yC 0,yC 0,yC 0,yC 0,yC 0,yC 0,yC 0]
def yFG:Std:=⟨0,0,0,0⟩
theorem zYT:zNT=stL fun _=>yFG:=rfl
section
variable {σ:St} {b n:Nat} {f:Nat→Std}
theorem yVI (o:Own σ b (stL f) n) {i:Nat} (hi:i<6):zB Tryz.prog σ 107 ⟨b,0+Int.toNat (i:Int)*4,none⟩=some (zMW (f i)):=by
 rw [Int.toNat_natCast]
 match i,hi with
 | 0,_=>exact o.ldN (k:=0) uO xC (ds:=zGR (f 0)) rfl rfl (by simp [stL])
 | 1,_=>exact o.ldN (k:=4) uO xC (ds:=zGR (f 1)) rfl rfl (by simp [stL])
 | 2,_=>exact o.ldN (k:=8) uO xC (ds:=zGR (f 2)) rfl rfl (by simp [stL])
 | 3,_=>exact o.ldN (k:=12) uO xC (ds:=zGR (f 3)) rfl rfl (by simp [stL])
 | 4,_=>exact o.ldN (k:=16) uO xC (ds:=zGR (f 4)) rfl rfl (by simp [stL])
 | 5,_=>exact o.ldN (k:=20) uO xC (ds:=zGR (f 5)) rfl rfl (by simp [stL])
theorem zAL (o:Own σ b (stL f) n):zB Tryz.prog σ 109 ⟨b,0,none⟩=some (.agg ⟨stL f⟩):=o.ldN (k:=0) agg109 yBZ (ds:=stL f) rfl rfl (by simp [stL])
theorem yKR (o:Own σ b (stL f) n) {i:Nat} (hi:i<6) (s:Std):zS Tryz.prog (evL [.pointer (some ⟨b,0+Int.toNat (i:Int)*4,none⟩),zMW s]) σ (.store 107 (.tmp 0) (.tmp 1))=some (undef,σ.own b (stL (upd f i s)) n):=by
 rw [Int.toNat_natCast]
 match i,hi with
 | 0,_=>exact o.store (k:=0) (vs:=zGR s) rfl xC rfl (by simp [stL]) rfl
 | 1,_=>exact o.store (k:=4) (vs:=zGR s) rfl xC rfl (by simp [stL]) rfl
 | 2,_=>exact o.store (k:=8) (vs:=zGR s) rfl xC rfl (by simp [stL]) rfl
 | 3,_=>exact o.store (k:=12) (vs:=zGR s) rfl xC rfl (by simp [stL]) rfl
 | 4,_=>exact o.store (k:=16) (vs:=zGR s) rfl xC rfl (by simp [stL]) rfl
 | 5,_=>exact o.store (k:=20) (vs:=zGR s) rfl xC rfl (by simp [stL]) rfl
theorem yBV (o:Own σ b (stL f) n) (g:Nat→Std):zS Tryz.prog (evL [.pointer (some ⟨b,0,none⟩),.agg ⟨stL g⟩]) σ (.store 109 (.tmp 0) (.tmp 1))=some (undef,σ.own b (stL g) n) :=
 o.store (k:=0) (vs:=stL g) rfl yBZ rfl (by simp [stL]) rfl
def st0 (w:Wk) (j:Nat):Nat→Std:=fun k=>if k<j then before (drv w k) else yFG
theorem st0_s {w:Wk} {j:Nat}:upd (st0 w j) j (before (drv w j))=st0 w (j+1):=by
 funext k
 unfold upd st0
 by_cases e:k=j
 ·subst e;rw [if_pos rfl,if_pos (by omega)]
 ·rw [if_neg e]
  by_cases h:k<j
  ·rw [if_pos h,if_pos (by omega)]
  ·rw [if_neg h,if_neg (by omega)]
variable {w:Wk} {p q:Option Addr} {l m c d:Nat}
theorem yRK (h:WkP σ 85 88 w p l q m) (hm:m≤6):zE Tryz.prog 74 [.agg ⟨wkc w.days p l c q m d w.rest w.run w.hours⟩] σ (.agg ⟨stL (st0 w m)⟩) σ:=by
 have hmm:=h.len.2
 obtain ⟨σ1,hσ1⟩:∃ σ1,σ1=(σ.re.row (wkc w.days p l c q m d w.rest w.run w.hours) 6).row zNT 4:=⟨_,rfl⟩
 have N1:New σ.re σ1:=by rw [hσ1];exact (New.row _ _ _).row'
 have L1:Le σ σ1:=(le0 σ).trans N1.le
 have o1:Own σ1 (σ.next+1) (stL (st0 w 0)) 4:=by
  rw [hσ1]
  exact zC (σ.re.row (wkc w.days p l c q m d w.rest w.run w.hours) 6) zNT 4
 have hr:zT RD (.agg ⟨stL (st0 w m)⟩)=true:=rfl
 refine zQ.pure (hv:=hr) (yKN (zXJ (Inv:=fun k i τ=>New σ.re τ∧∃ j:Nat,i=j∧j+k=m∧Own τ (σ.next+1) (stL (st0 w j)) 4) (Q0:=fun τ=>New σ.re τ∧Own τ (σ.next+1) (stL (st0 w m)) 4) ?_ m 0 σ1 ⟨N1,0,rfl,by omega,o1⟩ |> fun h=>by rw [hσ1] at h;exact h) ?_)
 ·rintro k i τ ⟨hN,j,rfl,hk,o⟩
  by_cases hj:j<m
  rotate_left
  ·have:j=m:=by omega
   subst this
   exact yEZ ⟨hN,o⟩ (by omega)
  have LL:=(le0 σ).trans hN.le
  obtain ⟨a,rfl,p',l',c',r',n',d',s',j',e',lx,_,_,_,_⟩:=(h.le LL).vld yJW zQW hj
  have hN2:New σ.re ((τ.row (zK none 0 0 none 0 0 none 0 0 0 0 0) 6).own τ.next (zK p' l' c' r' n' d' s' j' e' (drv w j).off (drv w j).row (drv w j).used) 6):=hN.row'.own hN.le.next
  have o2:Own ((τ.row (zK none 0 0 none 0 0 none 0 0 0 0 0) 6).own τ.next (zK p' l' c' r' n' d' s' j' e' (drv w j).off (drv w j).row (drv w j).used) 6) (σ.next+1) (stL (st0 w j)) 4:=o.row.own (by have:=o.lt;omega)
  refine yFA lx (yKR o2 (i:=j) (by omega) (before (drv w j))) ⟨k-1,by omega,hN2.own (by show σ.next≤σ.next+1;omega),j+1,by omega,by omega, ?_⟩ (by omega) (by omega) (by omega) (by omega)
  rw [← st0_s]
  exact o2.put
 ·rintro τ ⟨hN,o⟩
  exact zXI (zAL o) (yBV o _) (zAL o.put) ⟨rfl,(hN.own (by show σ.next≤σ.next+1;omega)).lw⟩
theorem yHL:∃ b σ',zE Tryz.prog 76 [] σ (.slice (some ⟨b,0,none⟩) 5 5) σ'∧New σ σ'∧σ.next≤b∧Row σ' ⟨b,0,none⟩ [.int .u8 0,.func (.func 92) ⟨[]⟩ ⟨[]⟩,.int .u8 1,.func (.func 93) ⟨[]⟩ ⟨[]⟩,.int .u8 2,.func (.func 94) ⟨[]⟩ ⟨[]⟩,.int .u8 3,.func (.func 95) ⟨[]⟩ ⟨[]⟩,.int .u8 4,.func (.func 96) ⟨[]⟩ ⟨[]⟩]:=by
 obtain ⟨v,σ',h1,h2,b,rfl,h3,h4⟩:=zQ.new (σ:=σ) (P:=Tryz.prog) (f:=76) (args:=[]) (Q:=fun v s=>∃ b,v=.slice (some ⟨b,0,none⟩) 5 5∧σ.next≤b∧Row s ⟨b,0,none⟩ [.int .u8 0,.func (.func 92) ⟨[]⟩ ⟨[]⟩,.int .u8 1,.func (.func 93) ⟨[]⟩ ⟨[]⟩,.int .u8 2,.func (.func 94) ⟨[]⟩ ⟨[]⟩,.int .u8 3,.func (.func 95) ⟨[]⟩ ⟨[]⟩,.int .u8 4,.func (.func 96) ⟨[]⟩ ⟨[]⟩])
  (yCY ⟨New.row _ _ _,σ.re.next,rfl,Nat.le_refl _,xG _ _ _⟩) (by rintro v s s' ⟨b,rfl,g1,g2⟩ hle;exact ⟨b,rfl,g1,g2.le hle⟩) (by rintro v s hr ⟨b,rfl,_⟩;cases hr)
 exact ⟨b,σ',h1,h2,h3,h4⟩
end
end Go.Proofs.YtgfiniccfpfplaaGreat
