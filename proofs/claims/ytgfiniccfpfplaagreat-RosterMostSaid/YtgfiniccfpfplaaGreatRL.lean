import Derived.Test.YtgfiniccfpfplaaGreatUI
import Derived.Test.YtgfiniccfpfplaaGreatUA

namespace Go.Proofs.YtgfiniccfpfplaaGreat
open Go Go.Lay
set_option linter.unusedVariables false
set_option linter.unusedSimpArgs false
set_option maxRecDepth 20000
open Go.Sort (swp PermIn SortedIn Below SWO)
section
variable {Z:St} {b c:Nat} {s:Option Nat} {d:Array Rec} {g:FuncId} {gc:List Value} {lt:Rec->Rec->Bool} {V:Rec->Prop}
theorem sortF_c (hS:SWO lt) (hc:Cmp g gc lt V) (hd:Dt Z b s d) (hv:xQ V d) (hsz:d.size<=60000) :
  ∃ d',PermIn 0 d.size d d'/\SortedIn lt 0 d.size d'/\uH 78 [.slice (some ⟨b,0,s⟩) d.size c,.func (.func g) ⟨[]⟩ ⟨gc⟩] (.tuple ⟨[]⟩) Z b s d d':=by
 obtain ⟨n,n1,n2,n3⟩:=yWN (Z:=Z.re) (x:=d.size) (by omega);obtain ⟨d',p1,p2,p3⟩:=pdq_c (c:=c) (s:=s) hS hc d.size Z.re d 0 d.size (n:Int) (by omega) hd hv (Nat.zero_le _) (Nat.le_refl _) hsz (.inl rfl) (by omega);have w0:W Z Z.re b s d d:=W.start hd;obtain ⟨τ',k1,w1⟩:=w0.call p3;exact ⟨d',p1,p2,uH.of hd (yKF (z1:=(d.size:Int)) (by rw [zWE];omega) n3 k1 ⟨rfl,w1⟩)⟩
theorem insS_nil:zD Tryz.prog 106 [.slice none 0 c,iV 0,iV 0,.func (.func g) ⟨[]⟩ ⟨gc⟩] Z (.tuple ⟨[]⟩) Z :=
 zO.pure (yYR (P0:=fun τ=>τ=Z.re) (zYN (Inv:=fun k i τ=>i=1/\τ=Z.re) (fun k i τ h=>by obtain ⟨rfl,rfl⟩:=h;exact yMY rfl (by omega)) 0 _ Z.re ⟨rfl,rfl⟩) (fun τ h=>zYM ⟨rfl,by rw [h];exact Nat.le_refl _⟩) (by omega))
theorem pdq_nil {n:Int}:zD Tryz.prog 97 [.slice none 0 c,iV 0,iV 0,iV n,.func (.func g) ⟨[]⟩ ⟨gc⟩] Z (.tuple ⟨[]⟩) Z :=
 zO.pure (pdq_ra (Pr:=fun τ=>τ=Z.re) (yCY (Inv:=fun k i1 i2 i3 t10 t11 τ=>i1=0/\i2=0/\τ=Z.re) (fun k i1 i2 i3 t10 t11 τ h=>by obtain ⟨rfl,rfl,rfl⟩:=h;exact yXV insS_nil rfl (by omega) (by omega)) 0 _ _ _ _ _ Z.re ⟨rfl,rfl,rfl⟩) (fun τ h=>yCX ⟨rfl,by rw [h];exact Nat.le_refl _⟩))
theorem sortF_nil:zD Tryz.prog 78 [.slice none 0 c,.func (.func g) ⟨[]⟩ ⟨gc⟩] Z (.tuple ⟨[]⟩) Z:=by
 obtain ⟨n,n1,n2,n3⟩:=yWN (Z:=Z.re) (x:=0) (by omega);exact zO.pure (yKF (x_l:=0) (z1:=((0:Nat):Int)) (by rw [zWE];rfl) n3 pdq_nil ⟨rfl,Nat.le_refl _⟩)
end
end Go.Proofs.YtgfiniccfpfplaaGreat

namespace Go.Proofs.YtgfiniccfpfplaaGreat
open Go Go.Lay
open Tryz renaming prog -> Pg
set_option linter.unusedVariables false
set_option linter.unusedSimpArgs false
set_option maxRecDepth 20000
abbrev zOA (s:Std):Value:=.agg ⟨zK s.free s.row s.used s.day⟩
structure StOk (s:Std):Prop where
 free:-1000000<=s.free/\s.free<=1000000
 row:0<=s.row/\s.row<=1000000
 used:-1000000<=s.used/\s.used<=1000000
 day:-1<=s.day/\s.day<=6
structure DtOk (d:Dty):Prop where
 day:0<=d.day/\d.day<=6
 on:0<=d.on/\d.on<=1439
section
variable {Z:St} {w:Wk} {p q:Option Addr} {l m c d:Nat} {k:Nat}
theorem yIL {p:Option Addr} {l c:Nat} {xs:List Int} {n:Int} (h:yG Z p l xs) (hl:l<=1073741824):zD Pg 58 [.slice p l c,iV n] Z (.bool (xs.contains n)) Z:=by
 have h1:=(SlV.re h).re;have e1:=h.len;have ci:∃ r:Int,zD Pg 83 [.slice p l c,iV n] Z.re (iV r) Z.re/\(0<=r↔n∈xs):=by
  have key:zO Pg 83 [.slice p l c,iV n] Z.re.re fun v s=>(∃ r:Int,v=iV r/\(0<=r↔n∈xs))/\s=Z.re.re:=by
   refine index_ra (yNC (Inv:=fun k i τ=>τ=Z.re.re/\∃ j:Nat,i=j/\j+k=l/\n ∉ xs.take j) (Qr:=fun i τ=>τ=Z.re.re/\0<=i/\n∈xs) (Q0:=fun τ=>τ=Z.re.re/\n ∉ xs) ?_ l 0 _ ⟨rfl,0,rfl,by omega,by simp⟩) ?_ ?_
   ·rintro k i τ ⟨rfl,j,rfl,hk,he⟩;by_cases hj:j<l
    ·obtain ⟨a,rfl,x,hx,l1⟩:=vF h1 hj;by_cases hxy:n=x
     ·exact index_s1a l1 ⟨rfl,by omega,hxy ▸ List.mem_of_getElem? hx⟩ (by omega) (by omega) hxy
     ·exact index_s1b l1 ⟨k-1,by omega,rfl,j+1,by omega,by omega,by rw [wP hx,List.mem_append];simp;exact ⟨he,hxy⟩⟩ (by omega) (by omega) hxy (by omega)
    ·rw [List.take_of_length_le (by omega)] at he;exact index_s1c ⟨rfl,he⟩ (by omega)
   ·rintro i τ ⟨rfl,h2,hn⟩;exact yNA ⟨⟨i,rfl,by simp [h2,hn]⟩,rfl⟩
   ·rintro τ ⟨rfl,hn⟩;exact yNB ⟨⟨-1,rfl,by simp [hn]⟩,rfl⟩
  obtain ⟨v,s,h3,⟨r,rfl,h2⟩,rfl⟩:=key;exact ⟨r,zRU h3 (Nat.le_refl _) rfl,h2⟩
 obtain ⟨r,c1,c2⟩:=ci;by_cases hn:n∈xs
 ·rw [show xs.contains n=true by simp [hn]];exact (conI_ra c1 ⟨rfl,Nat.le_refl _⟩ (c2.2 hn)).pure
 ·rw [show xs.contains n=false by simp [hn]];exact (conI_rb c1 ⟨rfl,Nat.le_refl _⟩ (fun h=>hn (c2.1 h))).pure
theorem yGC {s:Std} {x:Dty} {e:Int} (hs:StOk s) (hx:DtOk x) (he:-1000000<=e/\e<=1000000):zD Pg 77 [zOA s,zBT x,iV e] Z (zOA (take s x e)) Z:=by
 have h1:=hs.used;have h2:=hs.row;have h3:=hs.day;have h4:=hx.day;have h5:=hx.on;unfold take;by_cases e1:s.day=x.day
 ·rw [if_pos e1];exact (stake_ra ⟨rfl,by simp⟩ (by omega) (by omega) e1).pure
 ·rw [if_neg e1];by_cases e2:s.day=x.day-1
  ·rw [if_pos e2];exact (stake_rc ⟨rfl,by simp⟩ (by omega) (by omega) e1 (by omega) e2 (by omega) (by omega) (by omega)).pure
  ·rw [if_neg e2];exact (stake_rb ⟨rfl,by simp⟩ (by omega) (by omega) e1 (by omega) e2 (by omega) (by omega)).pure
theorem ask_c (h:WkP Z 85 88 w p l q m) (hsh:zAQ w) (hk:k<m) {s:Std} {x:Dty} (hs:StOk s) (hx:DtOk x) {n:Nat} (hn:n<5):zD Pg (92+n) [.agg ⟨wkc w.days p l c q m d w.rest w.run w.hours⟩,iV (k:Int),zBT x,zOA s] Z (.bool (holds w n (drv w k) x s)) Z:=by
 have h1:=hs.free;have h4:=hx.day;have h5:=hx.on;have L:Le Z (((Z.re.row (wkc w.days p l c q m d w.rest w.run w.hours) 6).row (zF x.day x.on x.lo x.hi x.route) 5).row (zK s.free s.row s.used s.day) 4):=(((le0 Z).trans (Le.row _ _ _)).trans (Le.row _ _ _)).trans (Le.row _ _ _);obtain ⟨a,rfl,p',l',c',r',n',d',s',j',e',_,hkn,hlv,_,hf⟩:=(h.le L).vld yFP zFZ hk;have hm:=h.len.2;have hmem:drv w k∈w.drivers:=by
  unfold drv;rw [List.getD_eq_getElem?_getD,List.getElem?_eq_getElem (by omega)];exact List.getElem_mem _
 have hsx:=hsh _ hmem;match n,hn with
 | 0,_=>exact (qknows_ra (hf 0 _ rfl 26 yS) (yIL hkn (by have:=hkn.len;omega)) ⟨rfl,Nat.le_refl _⟩ (by omega)).pure
 | 1,_ =>
  have cc:=yIL (c:=d') (n:=x.day) hlv (by have:=hlv.len;omega);show zD Pg 93 _ Z (.bool (!(drv w k).leave.contains x.day)) Z;cases hc:(drv w k).leave.contains x.day with
  | true=>rw [hc] at cc;exact (qhere_ra (hf 1 _ rfl 26 yS) cc ⟨rfl,Nat.le_refl _⟩ (by omega)).pure
  | false=>rw [hc] at cc;exact (qhere_rb (hf 1 _ rfl 26 yS) cc ⟨rfl,Nat.le_refl _⟩ (by omega)).pure
 | 2,_ =>
  show zD Pg 94 _ Z (.bool (decide (s.day≠x.day))) Z;by_cases e:s.day=x.day
  ·rw [decide_eq_false (by simp [e])];exact (ySJ ⟨rfl,Nat.le_refl _⟩ e).pure
  ·rw [decide_eq_true e];exact (ySK ⟨rfl,Nat.le_refl _⟩ e).pure
 | 3,_ =>
  show zD Pg 95 _ Z (.bool (decide (s.day=x.day) || decide (w.rest<=x.day*1440+x.on-s.free))) Z;by_cases e:s.day=x.day
  ·rw [decide_eq_true e];exact (ySN ⟨rfl,Nat.le_refl _⟩ e).pure
  ·rw [decide_eq_false e,Bool.false_or];by_cases e2:w.rest<=x.day*1440+x.on-s.free
   ·rw [decide_eq_true e2];exact (ySM ⟨rfl,Nat.le_refl _⟩ e (by omega) (by omega) (by omega) e2).pure
   ·rw [decide_eq_false e2];exact (ySL ⟨rfl,Nat.le_refl _⟩ e (by omega) (by omega) (by omega) e2).pure
 | 4,_ =>
  show zD Pg 96 _ Z (.bool (decide (s.day=x.day) || decide ((take s x x.on).row<=w.run))) Z;by_cases e:s.day=x.day
  ·rw [decide_eq_true e];exact (qfresh_ra ⟨rfl,Nat.le_refl _⟩ e).pure
  ·rw [decide_eq_false e,Bool.false_or];have ct:=yGC (Z:=((Z.re.row (wkc w.days p l c (some a) m d w.rest w.run w.hours) 6).row (zF x.day x.on x.lo x.hi x.route) 5).row (zK s.free s.row s.used s.day) 4) (e:=x.on) hs hx (by omega);by_cases e2:(take s x x.on).row<=w.run
   ·rw [decide_eq_true e2];exact (qfresh_rb ct ⟨rfl,Nat.le_refl _⟩ e e2).pure
   ·rw [decide_eq_false e2];exact (qfresh_rc ct ⟨rfl,Nat.le_refl _⟩ e e2).pure
end
end Go.Proofs.YtgfiniccfpfplaaGreat

namespace Go.Proofs.YtgfiniccfpfplaaGreat
open Go Go.Lay
set_option linter.unusedVariables false
set_option linter.unusedSimpArgs false
set_option maxRecDepth 20000
open Go.Sort (swp PermIn SortedIn Below SWO)
def bLt (x y:Rec):Prop:=x.a<y.a\/x.a=y.a/\(x.k<y.k\/x.k=y.k/\x.b<y.b)
instance (x y:Rec):Decidable (bLt x y):=by unfold bLt;infer_instance
def yPK (x y:Rec):Bool:=decide (bLt x y)
theorem swo_b:SWO yPK:=by
 refine ⟨fun x=>?_,fun x y z h1 h2=>?_,fun x y z h1 h2=>?_⟩
 ·simp only [yPK,decide_eq_false_iff_not];unfold bLt;omega
 ·simp only [yPK,decide_eq_true_eq] at *;unfold bLt at *;omega
 ·simp only [yPK,decide_eq_false_iff_not] at *;unfold bLt at *;omega
def BOk (x:Rec):Prop:=0<=x.k/\x.k<=5/\0<=x.a/\x.a<=100/\0<=x.b/\x.b<=100
section
variable {Z:St}
theorem cmpOr_c {x y z:Int} {b c:Nat} (o:Own Z b [iV x,iV y,iV z] 1):zD Tryz.prog 80 [.slice (some ⟨b,0,none⟩) 3 c] Z (iV (if x=0 then (if y=0 then z else y) else x)) Z:=by
 have h0:=o.re;have l0:=h0.ldI (P:=Tryz.prog) (t:=3) (i:=0) (v:=iV x) zS rfl;have l1:=h0.ldI (P:=Tryz.prog) (t:=3) (i:=1) (v:=iV y) zS rfl;have l2:=h0.ldI (P:=Tryz.prog) (t:=3) (i:=2) (v:=iV z) zS rfl;refine zO.pure (cmpOr_ra (Pr:=fun n τ=>τ=Z.re/\n=if x=0 then (if y=0 then z else y) else x) (P0:=fun τ=>τ=Z.re/\x=0/\y=0/\z=0)
  (yOW (Inv:=fun k i τ=>τ=Z.re/\((i=0/\k=3)\/(i=1/\k=2/\x=0)\/(i=2/\k=1/\x=0/\y=0)\/(i=3/\x=0/\y=0/\z=0))) ?_ 3 0 Z.re ⟨rfl,.inl ⟨rfl,rfl⟩⟩)
  (fun n τ h=>yOU ⟨by rw [h.2],by rw [h.1];exact Nat.le_refl _⟩) (fun τ h=>yOV ⟨by simp [h.2.1,h.2.2.1,h.2.2.2],by rw [h.1];exact Nat.le_refl _⟩))
 rintro k i τ ⟨rfl,⟨rfl,rfl⟩ | ⟨rfl,rfl,hx⟩ | ⟨rfl,rfl,hx,hy⟩ | ⟨rfl,hx,hy,hz⟩⟩
 ·by_cases hx:x=0
  ·exact zSM l0 ⟨2,by omega,rfl,.inr (.inl ⟨rfl,rfl,hx⟩)⟩
  ·exact zSN l0 ⟨rfl,by rw [if_neg hx]⟩
 ·by_cases hy:y=0
  ·exact zSM l1 ⟨1,by omega,rfl,.inr (.inr (.inl ⟨rfl,rfl,hx,hy⟩))⟩
  ·exact zSN l1 ⟨rfl,by rw [if_pos hx,if_neg hy]⟩
 ·by_cases hz:z=0
  ·exact zSM l2 ⟨0,by omega,rfl,.inr (.inr (.inr ⟨rfl,hx,hy,hz⟩))⟩
  ·exact zSN l2 ⟨rfl,by rw [if_pos hx,if_pos hy]⟩
 ·exact cmpOr_s1c ⟨rfl,hx,hy,hz⟩
theorem cmp_b:Cmp 79 [] yPK BOk:=by
 intro τ x y hx hy;unfold BOk at hx hy;refine ⟨if x.a-y.a=0 then (if x.k-y.k=0 then x.b-y.b else x.k-y.k) else x.a-y.a, ?_, ?_⟩
 ·have N:New τ.re (((τ.re.row (zBC x) 3).row (zBC y) 3).row [iV (x.a-y.a),iV (x.k-y.k),iV (x.b-y.b)] 1):=((New.row _ _ _).row').row';exact zO.pure (cmpF_ra (cmpOr_c (zC _ _ _)) ⟨rfl,N.lw⟩ (by omega) (by omega) (by omega) (by omega) (by omega))
 ·simp only [yPK,decide_eq_true_eq];unfold bLt;by_cases h:x.a-y.a=0
  ·rw [if_pos h];by_cases h2:x.k-y.k=0
   ·rw [if_pos h2];omega
   ·rw [if_neg h2];omega
  ·rw [if_neg h];omega
end
end Go.Proofs.YtgfiniccfpfplaaGreat

namespace Go.Proofs.YtgfiniccfpfplaaGreat
open Go Go.Lay
set_option linter.unusedVariables false
set_option linter.unusedSimpArgs false
set_option maxRecDepth 20000
abbrev zFX (s:Std):List Value:=zK s.free s.row s.used s.day
def stL (f:Nat->Std):List Value:=zFX (f 0)++(zFX (f 1)++(zFX (f 2)++(zFX (f 3)++(zFX (f 4)++zFX (f 5)))))
def zFU:List Value:=[yB 0,yB 0,yB 0,yB 0,yB 0,yB 0,yB 0,yB 0,yB 0,yB 0,yB 0,yB 0,yB 0,yB 0,yB 0,yB 0,yB 0,yB 0,yB 0,yB 0,yB 0,yB 0,yB 0,yB 0]
def zVA:Std:=⟨0,0,0,0⟩
theorem yBV:zFU=stL fun _=>zVA:=rfl
section
variable {Z:St} {b n:Nat} {f:Nat->Std}
theorem yGD (o:Own Z b (stL f) n) {i:Nat} (hi:i<6):zB Tryz.prog Z 107 ⟨b,0+Int.toNat (i:Int)*4,none⟩=some (zOA (f i)):=by
 rw [Int.toNat_natCast];match i,hi with
 | 0,_=>exact o.ldN (k:=0) vN xB (ds:=zFX (f 0)) rfl rfl (by simp [stL])
 | 1,_=>exact o.ldN (k:=4) vN xB (ds:=zFX (f 1)) rfl rfl (by simp [stL])
 | 2,_=>exact o.ldN (k:=8) vN xB (ds:=zFX (f 2)) rfl rfl (by simp [stL])
 | 3,_=>exact o.ldN (k:=12) vN xB (ds:=zFX (f 3)) rfl rfl (by simp [stL])
 | 4,_=>exact o.ldN (k:=16) vN xB (ds:=zFX (f 4)) rfl rfl (by simp [stL])
 | 5,_=>exact o.ldN (k:=20) vN xB (ds:=zFX (f 5)) rfl rfl (by simp [stL])
theorem stL_used (o:Own Z b (stL f) n) {i:Nat} (hi:i<6):zB Tryz.prog Z 3 ⟨b,0+Int.toNat (i:Int)*4+2,none⟩=some (yB (f i).used):=by
 rw [Int.toNat_natCast];match i,hi with
 | 0,_=>exact o.ld (k:=2) rfl zS rfl
 | 1,_=>exact o.ld (k:=6) rfl zS rfl
 | 2,_=>exact o.ld (k:=10) rfl zS rfl
 | 3,_=>exact o.ld (k:=14) rfl zS rfl
 | 4,_=>exact o.ld (k:=18) rfl zS rfl
 | 5,_=>exact o.ld (k:=22) rfl zS rfl
theorem vZ (o:Own Z b (stL f) n):zB Tryz.prog Z 109 ⟨b,0,none⟩=some (.agg ⟨stL f⟩):=o.ldN (k:=0) agg109 yGI (ds:=stL f) rfl rfl (by simp [stL])
theorem yQN (o:Own Z b (stL f) n) {i:Nat} (hi:i<6) (s:Std):zQ Tryz.prog (evL [.pointer (some ⟨b,0+Int.toNat (i:Int)*4,none⟩),zOA s]) Z (.store 107 (.tmp 0) (.tmp 1))=some (undef,Z.own b (stL (upd f i s)) n):=by
 rw [Int.toNat_natCast];match i,hi with
 | 0,_=>exact o.store (k:=0) (vs:=zFX s) rfl xB rfl (by simp [stL]) rfl
 | 1,_=>exact o.store (k:=4) (vs:=zFX s) rfl xB rfl (by simp [stL]) rfl
 | 2,_=>exact o.store (k:=8) (vs:=zFX s) rfl xB rfl (by simp [stL]) rfl
 | 3,_=>exact o.store (k:=12) (vs:=zFX s) rfl xB rfl (by simp [stL]) rfl
 | 4,_=>exact o.store (k:=16) (vs:=zFX s) rfl xB rfl (by simp [stL]) rfl
 | 5,_=>exact o.store (k:=20) (vs:=zFX s) rfl xB rfl (by simp [stL]) rfl
theorem zVK (o:Own Z b (stL f) n) (g:Nat->Std):zQ Tryz.prog (evL [.pointer (some ⟨b,0,none⟩),.agg ⟨stL g⟩]) Z (.store 109 (.tmp 0) (.tmp 1))=some (undef,Z.own b (stL g) n) :=
 o.store (k:=0) (vs:=stL g) rfl yGI rfl (by simp [stL]) rfl
def st0 (w:Wk) (j:Nat):Nat->Std:=fun k=>if k<j then before (drv w k) else zVA
theorem st0_s {w:Wk} {j:Nat}:upd (st0 w j) j (before (drv w j))=st0 w (j+1):=by
 funext k;unfold upd st0;by_cases e:k=j
 ·subst e;rw [if_pos rfl,if_pos (by omega)]
 ·rw [if_neg e];by_cases h:k<j
  ·rw [if_pos h,if_pos (by omega)]
  ·rw [if_neg h,if_neg (by omega)]
variable {w:Wk} {p q:Option Addr} {l m c d:Nat}
theorem yBY (h:WkP Z 85 88 w p l q m) (hm:m<=6):zD Tryz.prog 74 [.agg ⟨wkc w.days p l c q m d w.rest w.run w.hours⟩] Z (.agg ⟨stL (st0 w m)⟩) Z:=by
 have hmm:=h.len.2;obtain ⟨Z1,hZ1⟩:∃ Z1,Z1=(Z.re.row (wkc w.days p l c q m d w.rest w.run w.hours) 6).row zFU 4:=⟨_,rfl⟩;have N1:New Z.re Z1:=by rw [hZ1];exact (New.row _ _ _).row'
 have L1:Le Z Z1:=(le0 Z).trans N1.le;have o1:Own Z1 (Z.next+1) (stL (st0 w 0)) 4:=by
  rw [hZ1];exact zC (Z.re.row (wkc w.days p l c q m d w.rest w.run w.hours) 6) zFU 4
 have hr:zV RD (.agg ⟨stL (st0 w m)⟩)=true:=rfl;refine zO.pure (hv:=hr) (yQK (yAX (Inv:=fun k i τ=>New Z.re τ/\∃ j:Nat,i=j/\j+k=m/\Own τ (Z.next+1) (stL (st0 w j)) 4) (Q0:=fun τ=>New Z.re τ/\Own τ (Z.next+1) (stL (st0 w m)) 4) ?_ m 0 Z1 ⟨N1,0,rfl,by omega,o1⟩ |> fun h=>by rw [hZ1] at h;exact h) ?_)
 ·rintro k i τ ⟨hN,j,rfl,hk,o⟩;by_cases hj:j<m;rotate_left
  ·have:j=m:=by omega
   subst this;exact yJW ⟨hN,o⟩ (by omega)
  have LL:=(le0 Z).trans hN.le;obtain ⟨a,rfl,p',l',c',r',n',d',s',j',e',lx,_,_,_,_⟩:=(h.le LL).vld yFP zFZ hj;have hN2:New Z.re ((τ.row (zL none 0 0 none 0 0 none 0 0 0 0 0) 6).own τ.next (zL p' l' c' r' n' d' s' j' e' (drv w j).off (drv w j).row (drv w j).used) 6):=hN.row'.own hN.le.next;have o2:Own ((τ.row (zL none 0 0 none 0 0 none 0 0 0 0 0) 6).own τ.next (zL p' l' c' r' n' d' s' j' e' (drv w j).off (drv w j).row (drv w j).used) 6) (Z.next+1) (stL (st0 w j)) 4:=o.row.own (by have:=o.lt;omega);refine yJX lx (yQN o2 (i:=j) (by omega) (before (drv w j))) ⟨k-1,by omega,hN2.own (by show Z.next<=Z.next+1;omega),j+1,by omega,by omega, ?_⟩ (by omega) (by omega) (by omega) (by omega);rw [<- st0_s];exact o2.put
 ·rintro τ ⟨hN,o⟩;exact yAW (vZ o) (zVK o _) (vZ o.put) ⟨rfl,(hN.own (by show Z.next<=Z.next+1;omega)).lw⟩
theorem zTU:∃ b Z',zD Tryz.prog 76 [] Z (.slice (some ⟨b,0,none⟩) 5 5) Z'/\New Z Z'/\Z.next<=b/\Row Z' ⟨b,0,none⟩ [.int .u8 0,.func (.func 92) ⟨[]⟩ ⟨[]⟩,.int .u8 1,.func (.func 93) ⟨[]⟩ ⟨[]⟩,.int .u8 2,.func (.func 94) ⟨[]⟩ ⟨[]⟩,.int .u8 3,.func (.func 95) ⟨[]⟩ ⟨[]⟩,.int .u8 4,.func (.func 96) ⟨[]⟩ ⟨[]⟩]:=by
 obtain ⟨v,Z',h1,h2,b,rfl,h3,h4⟩:=zO.new (Z:=Z) (P:=Tryz.prog) (f:=76) (args:=[]) (Q:=fun v s=>∃ b,v=.slice (some ⟨b,0,none⟩) 5 5/\Z.next<=b/\Row s ⟨b,0,none⟩ [.int .u8 0,.func (.func 92) ⟨[]⟩ ⟨[]⟩,.int .u8 1,.func (.func 93) ⟨[]⟩ ⟨[]⟩,.int .u8 2,.func (.func 94) ⟨[]⟩ ⟨[]⟩,.int .u8 3,.func (.func 95) ⟨[]⟩ ⟨[]⟩,.int .u8 4,.func (.func 96) ⟨[]⟩ ⟨[]⟩])
  (yGY ⟨New.row _ _ _,Z.re.next,rfl,Nat.le_refl _,xP _ _ _⟩) (by rintro v s s' ⟨b,rfl,g1,g2⟩ hle;exact ⟨b,rfl,g1,g2.le hle⟩) (by rintro v s hr ⟨b,rfl,_⟩;cases hr)
 exact ⟨b,Z',h1,h2,h3,h4⟩
end
end Go.Proofs.YtgfiniccfpfplaaGreat
