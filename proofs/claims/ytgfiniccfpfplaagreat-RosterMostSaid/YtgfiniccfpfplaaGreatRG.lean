
import Derived.Test.YtgfiniccfpfplaaGreatRF
import Derived.Test.YtgfiniccfpfplaaGreatXD
import Derived.Test.YtgfiniccfpfplaaGreatXJ
namespace Go.Proofs.YtgfiniccfpfplaaGreat
open Go Go.Lay
open Tryz renaming prog -> Pg
set_option linter.unusedVariables false
set_option linter.unusedSimpArgs false
set_option maxRecDepth 20000
section
variable {Z:St}
theorem idxD_c {p:Option Addr} {len cap:Nat} {g:FuncId} {ga:List Value} {gc:List Value} {xs:List Dty} {f:Dty->Bool} (hs:SlV Pg Z 85 5 p len (xs.map zBT)) (hlen:len<=1073741824)
  (hc:∀ x∈xs,∀ τ,Le Z τ->zD Pg g (ga++(zBT x::gc)) τ (.bool (f x)) τ):∃ r:Int,zD Pg 87 [.slice p len cap,.func (.func g) ⟨ga⟩ ⟨gc⟩] Z (iV r) Z/\(0<=r↔xs.any f=true):=by
 have hl:xs.length=len:=by have:=hs.2.1;simpa using this
 have key:zO Pg 87 [.slice p len cap,.func (.func g) ⟨ga⟩ ⟨gc⟩] Z.re fun v s=>(∃ r:Int,v=iV r/\(0<=r↔xs.any f=true))/\s=Z.re:=by
  refine idxD_ra (yUL (Inv:=fun k i τ=>τ=Z.re/\∃ j:Nat,i=j/\j+k=len/\(xs.take j).any f=false) (Qr:=fun i τ=>τ=Z.re/\0<=i/\xs.any f=true) (Q0:=fun τ=>τ=Z.re/\xs.any f=false) ?_ len 0 Z.re ⟨rfl,0,rfl,by omega,by simp⟩) ?_ ?_
  ·rintro k i τ ⟨rfl,j,rfl,hk,ha⟩;by_cases hj:j<len
   ·obtain ⟨a,rfl,x,hx,ld⟩:=vF hs.re hj;have c:=hc x (List.mem_of_getElem? hx) Z.re (le0 Z);cases hf:f x with
    | true =>
     rw [hf] at c;exact idxD_s1a ld c ⟨rfl,by omega,List.any_eq_true.2 ⟨x,List.mem_of_getElem? hx,hf⟩⟩
    | false =>
     rw [hf] at c;exact idxD_s1b ld c ⟨k-1,by omega,rfl,j+1,by omega,by omega,by rw [wP hx,List.any_append,ha];simp [hf]⟩
   ·exact idxD_s1c ⟨rfl,by rwa [List.take_of_length_le (by omega)] at ha⟩
  ·rintro i τ ⟨rfl,h1,h2⟩;exact yUJ ⟨⟨i,rfl,by simp [h1,h2]⟩,rfl⟩
  ·rintro τ ⟨rfl,h⟩;exact yUK ⟨⟨-1,rfl,by simp [h]⟩,rfl⟩
 obtain ⟨v,s,h1,⟨r,rfl,h2⟩,rfl⟩:=key;exact ⟨r,zRU h1 (Nat.le_refl _) rfl,h2⟩
theorem conD_c {p:Option Addr} {len cap:Nat} {g:FuncId} {ga:List Value} {gc:List Value} {xs:List Dty} {f:Dty->Bool} (hs:SlV Pg Z 85 5 p len (xs.map zBT)) (hlen:len<=1073741824)
  (hc:∀ x∈xs,∀ τ,Le Z τ->zD Pg g (ga++(zBT x::gc)) τ (.bool (f x)) τ):zD Pg 67 [.slice p len cap,.func (.func g) ⟨ga⟩ ⟨gc⟩] Z (.bool (xs.any f)) Z:=by
 obtain ⟨r,h1,h2⟩:=idxD_c (Z:=Z.re) (cap:=cap) hs.re hlen (fun x hx τ hτ=>hc x hx τ ((le0 Z).trans hτ));cases ha:xs.any f with
 | true=>exact (conD_ra h1 ⟨rfl,Nat.le_refl _⟩ (h2.2 ha)).pure
 | false=>exact (conD_rb h1 ⟨rfl,Nat.le_refl _⟩ (fun h=>by rw [h2.1 h] at ha;cases ha)).pure
theorem allD1_c {x:Dty} {a:Addr} {g:FuncId} {ga:List Value} {gc:List Value} {b:Bool} (hr:Row Z a [.func (.func g) ⟨ga⟩ ⟨gc⟩]) (hc:∀ τ,Le Z τ->zD Pg g (ga++(zBT x::gc)) τ (.bool b) τ) :
  zD Pg 68 [zBT x,.pointer (some a)] Z (.bool (!b)) Z:=by
 cases b with
 | true=>exact (allD1_ra (hr.re.row.ld1 agg86) (hc _ ((le0 Z).trans (Le.row _ _ _))) ⟨rfl,Nat.le_refl _⟩).pure
 | false=>exact (allD1_rb (hr.re.row.ld1 agg86) (hc _ ((le0 Z).trans (Le.row _ _ _))) ⟨rfl,Nat.le_refl _⟩).pure
theorem allD_c {p:Option Addr} {len cap:Nat} {g:FuncId} {ga:List Value} {gc:List Value} {xs:List Dty} {f:Dty->Bool} (hs:SlV Pg Z 85 5 p len (xs.map zBT)) (hlen:len<=1073741824)
  (hc:∀ x∈xs,∀ τ,Le Z τ->zD Pg g (ga++(zBT x::gc)) τ (.bool (f x)) τ):zD Pg 48 [.slice p len cap,.func (.func g) ⟨ga⟩ ⟨gc⟩] Z (.bool (xs.all f)) Z:=by
 have c:=conD_c (Z:=Z.re.row [.func (.func g) ⟨ga⟩ ⟨gc⟩] 1) (g:=68) (ga:=[]) (gc:=[.pointer (some ⟨Z.re.next,0,none⟩)]) (f:=fun x=>!f x) (cap:=cap) hs.re.row hlen
  (fun x hx τ hτ=>allD1_c ((xP _ _ _).le hτ) (fun τ' hτ'=>hc x hx τ' ((((le0 Z).trans (Le.row _ _ _)).trans hτ).trans hτ')))
 have e:(xs.any fun x=>!f x)=!xs.all f:=by rw [List.not_all_eq_any_not]
 rw [e] at c;cases ha:xs.all f with
 | true=>rw [ha] at c;exact (allD_rb c ⟨rfl,Nat.le_refl _⟩).pure
 | false=>rw [ha] at c;exact (allD_ra c ⟨rfl,Nat.le_refl _⟩).pure
theorem idxI_c {p:Option Addr} {len cap:Nat} {g:FuncId} {gc:List Value} {xs:List Int} {f:Int->Bool} (hs:SlV Pg Z 3 1 p len (xs.map yB)) (hlen:len<=1073741824)
  (hc:∀ x∈xs,∀ τ,Le Z τ->zD Pg g (yB x::gc) τ (.bool (f x)) τ):∃ r:Int,zD Pg 105 [.slice p len cap,.func (.func g) ⟨[]⟩ ⟨gc⟩] Z (iV r) Z/\(0<=r↔xs.any f=true):=by
 have hl:xs.length=len:=by have:=hs.2.1;simpa using this
 have key:zO Pg 105 [.slice p len cap,.func (.func g) ⟨[]⟩ ⟨gc⟩] Z.re fun v s=>(∃ r:Int,v=iV r/\(0<=r↔xs.any f=true))/\s=Z.re:=by
  refine idxI_ra (yUI (Inv:=fun k i τ=>τ=Z.re/\∃ j:Nat,i=j/\j+k=len/\(xs.take j).any f=false) (Qr:=fun i τ=>τ=Z.re/\0<=i/\xs.any f=true) (Q0:=fun τ=>τ=Z.re/\xs.any f=false) ?_ len 0 Z.re ⟨rfl,0,rfl,by omega,by simp⟩) ?_ ?_
  ·rintro k i τ ⟨rfl,j,rfl,hk,ha⟩;by_cases hj:j<len
   ·obtain ⟨a,rfl,x,hx,ld⟩:=vF hs.re hj;have c:=hc x (List.mem_of_getElem? hx) Z.re (le0 Z);cases hf:f x with
    | true =>
     rw [hf] at c;exact idxI_s1a ld c ⟨rfl,by omega,List.any_eq_true.2 ⟨x,List.mem_of_getElem? hx,hf⟩⟩
    | false =>
     rw [hf] at c;exact idxI_s1b ld c ⟨k-1,by omega,rfl,j+1,by omega,by omega,by rw [wP hx,List.any_append,ha];simp [hf]⟩
   ·exact idxI_s1c ⟨rfl,by rwa [List.take_of_length_le (by omega)] at ha⟩
  ·rintro i τ ⟨rfl,h1,h2⟩;exact yUG ⟨⟨i,rfl,by simp [h1,h2]⟩,rfl⟩
  ·rintro τ ⟨rfl,h⟩;exact yUH ⟨⟨-1,rfl,by simp [h]⟩,rfl⟩
 obtain ⟨v,s,h1,⟨r,rfl,h2⟩,rfl⟩:=key;exact ⟨r,zRU h1 (Nat.le_refl _) rfl,h2⟩
theorem conJ_c {p:Option Addr} {len cap:Nat} {g:FuncId} {gc:List Value} {xs:List Int} {f:Int->Bool} (hs:SlV Pg Z 3 1 p len (xs.map yB)) (hlen:len<=1073741824)
  (hc:∀ x∈xs,∀ τ,Le Z τ->zD Pg g (yB x::gc) τ (.bool (f x)) τ):zD Pg 89 [.slice p len cap,.func (.func g) ⟨[]⟩ ⟨gc⟩] Z (.bool (xs.any f)) Z:=by
 obtain ⟨r,h1,h2⟩:=idxI_c (Z:=Z.re) (cap:=cap) hs.re hlen (fun x hx τ hτ=>hc x hx τ ((le0 Z).trans hτ));cases ha:xs.any f with
 | true=>exact (conJ_ra h1 ⟨rfl,Nat.le_refl _⟩ (h2.2 ha)).pure
 | false=>exact (conJ_rb h1 ⟨rfl,Nat.le_refl _⟩ (fun h=>by rw [h2.1 h] at ha;cases ha)).pure
theorem allI1_c {x:Int} {a:Addr} {g:FuncId} {gc:List Value} {b:Bool} (hr:Row Z a [.func (.func g) ⟨[]⟩ ⟨gc⟩]) (hc:∀ τ,Le Z τ->zD Pg g (yB x::gc) τ (.bool b) τ) :
  zD Pg 90 [yB x,.pointer (some a)] Z (.bool (!b)) Z:=by
 cases b with
 | true=>exact (allI1_ra (hr.re.ld1 agg105) (hc _ (le0 Z)) ⟨rfl,Nat.le_refl _⟩).pure
 | false=>exact (allI1_rb (hr.re.ld1 agg105) (hc _ (le0 Z)) ⟨rfl,Nat.le_refl _⟩).pure
theorem allI_c {p:Option Addr} {len cap:Nat} {g:FuncId} {gc:List Value} {xs:List Int} {f:Int->Bool} (hs:SlV Pg Z 3 1 p len (xs.map yB)) (hlen:len<=1073741824)
  (hc:∀ x∈xs,∀ τ,Le Z τ->zD Pg g (yB x::gc) τ (.bool (f x)) τ):zD Pg 72 [.slice p len cap,.func (.func g) ⟨[]⟩ ⟨gc⟩] Z (.bool (xs.all f)) Z:=by
 have c:=conJ_c (Z:=Z.re.row [.func (.func g) ⟨[]⟩ ⟨gc⟩] 1) (g:=90) (gc:=[.pointer (some ⟨Z.re.next,0,none⟩)]) (f:=fun x=>!f x) (cap:=cap) hs.re.row hlen
  (fun x hx τ hτ=>allI1_c ((xP _ _ _).le hτ) (fun τ' hτ'=>hc x hx τ' ((((le0 Z).trans (Le.row _ _ _)).trans hτ).trans hτ')))
 have e:(xs.any fun x=>!f x)=!xs.all f:=by rw [List.not_all_eq_any_not]
 rw [e] at c;cases ha:xs.all f with
 | true=>rw [ha] at c;exact (allI_rb c ⟨rfl,Nat.le_refl _⟩).pure
 | false=>rw [ha] at c;exact (allI_ra c ⟨rfl,Nat.le_refl _⟩).pure
theorem idxV_c {p:Option Addr} {len cap:Nat} {g:FuncId} {ga:List Value} {gc:List Value} {xs:List Drv} {f:Drv->Bool} (hs:zUY Z 88 p len xs) (hlen:len<=1073741824)
  (hc:∀ x∈xs,∀ v τ,Le Z τ->zVG τ v x->zD Pg g (ga++(v::gc)) τ (.bool (f x)) τ):∃ r:Int,zD Pg 88 [.slice p len cap,.func (.func g) ⟨ga⟩ ⟨gc⟩] Z (iV r) Z/\(0<=r↔xs.any f=true):=by
 obtain ⟨vs,hv1,hl,hv3⟩:=hs.le (le0 Z);have key:zO Pg 88 [.slice p len cap,.func (.func g) ⟨ga⟩ ⟨gc⟩] Z.re fun v s=>(∃ r:Int,v=iV r/\(0<=r↔xs.any f=true))/\s=Z.re:=by
  refine idxV_ra (yUD (Inv:=fun k i τ=>τ=Z.re/\∃ j:Nat,i=j/\j+k=len/\(xs.take j).any f=false) (Qr:=fun i τ=>τ=Z.re/\0<=i/\xs.any f=true) (Q0:=fun τ=>τ=Z.re/\xs.any f=false) ?_ len 0 Z.re ⟨rfl,0,rfl,by omega,by simp⟩) ?_ ?_
  ·rintro k i τ ⟨rfl,j,rfl,hk,ha⟩;by_cases hj:j<len
   ·obtain ⟨a,rfl,_⟩:=hv1.some hj;obtain ⟨x,hxe⟩:∃ x,x=xs[j]:=⟨_,rfl⟩;have hx:xs[j]?=some x:=by rw [hxe];simp
    obtain ⟨v,g1,hv⟩:=hv3 j x hx;have c:=hc x (List.mem_of_getElem? hx) v Z.re (le0 Z) hv;obtain ⟨p',l',c',r',n',d',s',j',e',rfl,_⟩:=hv;have ld:zB Pg Z.re 88 (zM a (Int.toNat (j:Int)*6))=some (.agg ⟨zL p' l' c' r' n' d' s' j' e' x.off x.row x.used⟩):=hv1.at rfl g1;cases hf:f x with
    | true =>
     rw [hf] at c;exact idxV_s1a ld c ⟨rfl,by omega,List.any_eq_true.2 ⟨x,List.mem_of_getElem? hx,hf⟩⟩
    | false =>
     rw [hf] at c;exact idxV_s1b ld c ⟨k-1,by omega,rfl,j+1,by omega,by omega,by rw [wP hx,List.any_append,ha];simp [hf]⟩
   ·exact idxV_s1c ⟨rfl,by rwa [List.take_of_length_le (by omega)] at ha⟩
  ·rintro i τ ⟨rfl,h1,h2⟩;exact yUB ⟨⟨i,rfl,by simp [h1,h2]⟩,rfl⟩
  ·rintro τ ⟨rfl,h⟩;exact yUC ⟨⟨-1,rfl,by simp [h]⟩,rfl⟩
 obtain ⟨v,s,h1,⟨r,rfl,h2⟩,rfl⟩:=key;exact ⟨r,zRU h1 (Nat.le_refl _) rfl,h2⟩
theorem conV_c {p:Option Addr} {len cap:Nat} {g:FuncId} {ga:List Value} {gc:List Value} {xs:List Drv} {f:Drv->Bool} (hs:zUY Z 88 p len xs) (hlen:len<=1073741824)
  (hc:∀ x∈xs,∀ v τ,Le Z τ->zVG τ v x->zD Pg g (ga++(v::gc)) τ (.bool (f x)) τ):zD Pg 69 [.slice p len cap,.func (.func g) ⟨ga⟩ ⟨gc⟩] Z (.bool (xs.any f)) Z:=by
 obtain ⟨r,h1,h2⟩:=idxV_c (Z:=Z.re) (cap:=cap) (hs.le (le0 Z)) hlen (fun x hx v τ hτ=>hc x hx v τ ((le0 Z).trans hτ));cases ha:xs.any f with
 | true=>exact (conV_ra h1 ⟨rfl,Nat.le_refl _⟩ (h2.2 ha)).pure
 | false=>exact (conV_rb h1 ⟨rfl,Nat.le_refl _⟩ (fun h=>by rw [h2.1 h] at ha;cases ha)).pure
theorem allV1_c {x:Drv} {v:Value} {a:Addr} {g:FuncId} {ga:List Value} {gc:List Value} {b:Bool} (hv:zVG Z v x) (hr:Row Z a [.func (.func g) ⟨ga⟩ ⟨gc⟩]) (hc:∀ τ,Le Z τ->zVG τ v x->zD Pg g (ga++(v::gc)) τ (.bool b) τ) :
  zD Pg 70 [v,.pointer (some a)] Z (.bool (!b)) Z:=by
 have hc2:=fun τ (hτ:Le Z τ)=>hc τ hτ (hv.le hτ)
 obtain ⟨p',l',c',r',n',d',s',j',e',rfl,_⟩:=hv;cases b with
 | true=>exact (allV1_ra (hr.re.row.ld1 agg89) (hc2 _ ((le0 Z).trans (Le.row _ _ _))) ⟨rfl,Nat.le_refl _⟩).pure
 | false=>exact (allV1_rb (hr.re.row.ld1 agg89) (hc2 _ ((le0 Z).trans (Le.row _ _ _))) ⟨rfl,Nat.le_refl _⟩).pure
theorem allV_c {p:Option Addr} {len cap:Nat} {g:FuncId} {ga:List Value} {gc:List Value} {xs:List Drv} {f:Drv->Bool} (hs:zUY Z 88 p len xs) (hlen:len<=1073741824)
  (hc:∀ x∈xs,∀ v τ,Le Z τ->zVG τ v x->zD Pg g (ga++(v::gc)) τ (.bool (f x)) τ):zD Pg 50 [.slice p len cap,.func (.func g) ⟨ga⟩ ⟨gc⟩] Z (.bool (xs.all f)) Z:=by
 have c:=conV_c (Z:=Z.re.row [.func (.func g) ⟨ga⟩ ⟨gc⟩] 1) (g:=70) (ga:=[]) (gc:=[.pointer (some ⟨Z.re.next,0,none⟩)]) (f:=fun x=>!f x) (cap:=cap) (hs.le ((le0 Z).trans (Le.row _ _ _))) hlen
  (fun x hx v τ hτ hv=>allV1_c hv ((xP _ _ _).le hτ) (fun τ' hτ'=>hc x hx v τ' ((((le0 Z).trans (Le.row _ _ _)).trans hτ).trans hτ')))
 have e:(xs.any fun x=>!f x)=!xs.all f:=by rw [List.not_all_eq_any_not]
 rw [e] at c;cases ha:xs.all f with
 | true=>rw [ha] at c;exact (allV_rb c ⟨rfl,Nat.le_refl _⟩).pure
 | false=>rw [ha] at c;exact (allV_ra c ⟨rfl,Nat.le_refl _⟩).pure
section
variable {w:Wk} {p q:Option Addr} {l m c d:Nat}
theorem wduty_c {x:Dty} (hd:1<=w.days/\w.days<=7):zD Pg 49 [.agg ⟨wkc w.days p l c q m d w.rest w.run w.hours⟩,zBT x] Z (.bool (vS w x)) Z:=by
 have cin:∀ {τ:St} {n lo hi:Int} {b:Bool},inB n lo hi=b->zD Pg 47 [iV n,iV lo,iV hi] τ (.bool b) τ:=fun e=>e ▸ zJX
 unfold vS;cases c1:inB x.day 0 (w.days-1) with
 | false=>exact (wduty_rf (cin c1) ⟨rfl,Nat.le_refl _⟩ (by omega)).pure
 | true =>
 cases c2:inB x.on 0 1439 with
 | false=>exact (wduty_re (cin c1) (cin c2) ⟨rfl,Nat.le_refl _⟩ (by omega)).pure
 | true =>
 have hon:=uW.1 c2;by_cases h1:x.on<=x.lo;rotate_left
 ·have:inB x.lo x.on x.hi=false:=yEA.2 (fun h=>h1 h.1);rw [this];exact (wduty_rd (cin c1) (cin c2) ⟨rfl,Nat.le_refl _⟩ (by omega) h1).pure
 by_cases h2:x.lo<=x.hi;rotate_left
 ·have:inB x.lo x.on x.hi=false:=yEA.2 (fun h=>h2 h.2);rw [this];exact (wduty_rc (cin c1) (cin c2) ⟨rfl,Nat.le_refl _⟩ (by omega) h1 h2).pure
 have c3:inB x.lo x.on x.hi=true:=uW.2 ⟨h1,h2⟩;rw [c3];by_cases h3:x.hi<=x.on+1440
 ·rw [decide_eq_false (by omega:¬ x.on+1440<x.hi)];exact (wduty_ra (cin c1) (cin c2) (cin rfl) ⟨by simp,Nat.le_refl _⟩ (by omega) h1 h2 (by omega) h3).pure
 ·rw [decide_eq_true (by omega:x.on+1440<x.hi)];exact (wduty_rb (cin c1) (cin c2) ⟨rfl,Nat.le_refl _⟩ (by omega) h1 h2 (by omega) h3).pure
theorem wdriver_c {x:Drv} {v:Value} (hv:zVG Z v x) (hl:x.knows.length<=1000/\x.leave.length<=1000/\x.wish.length<=1000) (hd:1<=w.days/\w.days<=7):zD Pg 51 [.agg ⟨wkc w.days p l c q m d w.rest w.run w.hours⟩,v] Z (.bool (zAM w x)) Z:=by
 have cin:∀ {τ:St} {n lo hi:Int} {b:Bool},inB n lo hi=b->zD Pg 47 [iV n,iV lo,iV hi] τ (.bool b) τ:=fun e=>e ▸ zJX
 obtain ⟨p',l',c',r',n',d',s',j',e',rfl,hkn,hlv,hws⟩:=hv;have L2:Le Z ((Z.re.row (wkc w.days p l c q m d w.rest w.run w.hours) 6).row (zL p' l' c' r' n' d' s' j' e' x.off x.row x.used) 6):=((le0 Z).trans (Le.row _ _ _)).trans (Le.row _ _ _);have k1:=yGK (c:=c') (lo:=0) (hi:=15) (SlV.le hkn L2) (by have:=hkn.len;omega);have k2:=yGK (c:=d') (lo:=0) (hi:=w.days-1) (SlV.le hlv L2) (by have:=hlv.len;omega);have k3:=yGK (c:=e') (lo:=0) (hi:=w.days-1) (SlV.le hws L2) (by have:=hws.len;omega);unfold zAM;cases c1:wJ x.knows 0 15 with
 | false=>rw [c1] at k1;exact (yQE k1 ⟨rfl,Nat.le_refl _⟩).pure
 | true =>
 rw [c1] at k1;cases c2:wJ x.leave 0 (w.days-1) with
 | false=>rw [c2] at k2;exact (yQF k1 k2 ⟨rfl,Nat.le_refl _⟩ (by omega)).pure
 | true =>
 rw [c2] at k2;cases c3:wJ x.wish 0 (w.days-1) with
 | false=>rw [c3] at k3;exact (yQG k1 k2 k3 ⟨rfl,Nat.le_refl _⟩ (by omega)).pure
 | true =>
 rw [c3] at k3;cases c4:inB x.off (-10080) 1440 with
 | false=>exact (yQH k1 k2 k3 (cin c4) ⟨rfl,Nat.le_refl _⟩ (by omega)).pure
 | true =>
 cases c5:inB x.row 0 14 with
 | false=>exact (yQI k1 k2 k3 (cin c4) (cin c5) ⟨rfl,Nat.le_refl _⟩ (by omega)).pure
 | true=>exact (yQJ k1 k2 k3 (cin c4) (cin c5) (cin rfl) ⟨by simp,Nat.le_refl _⟩ (by omega)).pure
theorem zLQ (h:WkP Z 85 88 w p l q m) (hsh:zAQ w):zD Pg 16 [.agg ⟨wkc w.days p l c q m d w.rest w.run w.hours⟩] Z (iV (yY w)) Z:=by
 have hn:=h.len.1;have hm:=h.len.2;by_cases h12:12<l
 ·have:yY w=3:=by unfold yY;rw [if_pos (.inl (by omega))]
  rw [this];exact (yJR ⟨rfl,Nat.le_refl _⟩ (by omega)).pure
 by_cases h6:6<m
 ·have:yY w=3:=by unfold yY;rw [if_pos (.inr (by omega))]
  rw [this];exact (yJQ ⟨rfl,Nat.le_refl _⟩ (by omega) (by omega)).pure
 have hf0:yY w=if vK w && (w.duties.all (vS w) && w.drivers.all (zAM w)) then 0 else 1:=by unfold yY;rw [if_neg (by omega)]
 have cin:∀ {τ:St} {n lo hi:Int} {b:Bool},inB n lo hi=b->zD Pg 47 [iV n,iV lo,iV hi] τ (.bool b) τ:=fun e=>e ▸ zJX
 have no:vK w=false->yY w=1:=fun e=>by rw [hf0,e];rfl
 cases b1:inB w.days 1 7 with
 | false=>rw [no (by unfold vK;rw [b1];rfl)];exact (yJJ (cin b1) ⟨rfl,Nat.le_refl _⟩ (by omega) (by omega)).pure
 | true =>
 cases b2:inB w.rest 0 3000 with
 | false=>rw [no (by unfold vK;rw [b1,b2];rfl)];exact (yJK (cin b1) (cin b2) ⟨rfl,Nat.le_refl _⟩ (by omega) (by omega)).pure
 | true =>
 cases b3:inB w.run 1 14 with
 | false=>rw [no (by unfold vK;rw [b1,b2,b3];rfl)];exact (yJL (cin b1) (cin b2) (cin b3) ⟨rfl,Nat.le_refl _⟩ (by omega) (by omega)).pure
 | true =>
 cases b4:inB w.hours 0 20000 with
 | false=>rw [no (by unfold vK;rw [b1,b2,b3,b4];rfl)];exact (yJM (cin b1) (cin b2) (cin b3) (cin b4) ⟨rfl,Nat.le_refl _⟩ (by omega) (by omega)).pure
 | true =>
 have hh:vK w=true:=by unfold vK;rw [b1,b2,b3,b4];rfl
 have hd:=uW.1 b1;have L1:Le Z (Z.re.row (wkc w.days p l c q m d w.rest w.run w.hours) 6):=(le0 Z).trans (Le.row _ _ _);have cd:=allD_c (cap:=c) (g:=49) (ga:=[.agg ⟨wkc w.days p l c q m d w.rest w.run w.hours⟩]) (gc:=[]) (f:=vS w) (SlV.le h.dty L1) (by omega) (fun x _ τ _=>wduty_c hd);have cv:=allV_c (cap:=d) (g:=51) (ga:=[.agg ⟨wkc w.days p l c q m d w.rest w.run w.hours⟩]) (gc:=[]) (f:=zAM w) (h.drv.le L1) (by omega) (fun x hx v τ _ hv=>wdriver_c hv (hsh x hx) hd);cases e1:w.duties.all (vS w) with
 | false=>rw [e1] at cd;rw [hf0,hh,e1];exact (yJN (cin b1) (cin b2) (cin b3) (cin b4) cd ⟨rfl,Nat.le_refl _⟩ (by omega) (by omega)).pure
 | true =>
 rw [e1] at cd;cases e2:w.drivers.all (zAM w) with
 | false=>rw [e2] at cv;rw [hf0,hh,e1,e2];exact (yJO (cin b1) (cin b2) (cin b3) (cin b4) cd cv ⟨rfl,Nat.le_refl _⟩ (by omega) (by omega)).pure
 | true=>rw [e2] at cv;rw [hf0,hh,e1,e2];exact (yJP (cin b1) (cin b2) (cin b3) (cin b4) cd cv ⟨rfl,Nat.le_refl _⟩ (by omega) (by omega)).pure
end
end
end Go.Proofs.YtgfiniccfpfplaaGreat
