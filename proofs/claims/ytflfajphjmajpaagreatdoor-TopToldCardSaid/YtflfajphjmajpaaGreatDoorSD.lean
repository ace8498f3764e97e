import Derived.Test.YtflfajphjmajpaaGreatDoorXA
import Derived.Test.YtflfajphjmajpaaGreatDoorPA
set_option maxRecDepth 20000
namespace Go.Proofs.YtflfajphjmajpaaGreatDoor
open Go Go.Lay
open Tryz renaming prog -> Pg
section
variable {n lo hi:Int} {α:Type} {xs:List α} {i:Nat} {x:Rec}
abbrev zBA (n:Int):Value:=iV n
abbrev xG (x:Rec):List Value:=rcd x.m x.s x.t x.k x.a x.b
abbrev xT (x:Rec):Value:=.agg ⟨xG x⟩
def inB (n lo hi:Int):Bool:=decide (lo<=n) && decide (n<=hi)
theorem wD:inB n lo hi=true↔lo<=n/\n<=hi:=by simp [inB]
theorem xCJ:inB n lo hi=false↔¬ (lo<=n/\n<=hi):=by rw [<- Bool.not_eq_true,wD]
theorem yM {x:α} (h:xs[i]?=some x):xs.take (i+1)=xs.take i++[x]:=by
 rw [List.take_add_one,h];rfl
def yQ (x:Rec):Bool:=inB x.m 0 999 && inB x.s 1 9999 && inB x.t 0 1000000 && (if x.k=0 then inB x.a 0 99 && inB x.b 0 10000 else if x.k=1 then inB x.a 0 1000000 && decide (x.b=0) else if x.k=2 then inB x.a 0 9999 && inB x.b 0 10000000 else false)
theorem zBH (h:yQ x=true):0<=x.m/\x.m<=999/\1<=x.s/\x.s<=9999/\0<=x.t/\x.t<=1000000/\0<=x.k/\x.k<=2/\0<=x.a/\x.a<=1000000/\0<=x.b/\x.b<=10000000:=by
 unfold yQ at h;simp only [Bool.and_eq_true,wD] at h;obtain ⟨⟨⟨h1,h2⟩,h3⟩,h4⟩:=h;split at h4
 ·simp only [Bool.and_eq_true,wD] at h4;omega
 ·split at h4
  ·simp only [Bool.and_eq_true,wD,decide_eq_true_eq] at h4;omega
  ·split at h4
   ·simp only [Bool.and_eq_true,wD] at h4;omega
   ·cases h4
section
variable {Z:St}
theorem le0 (Z:St):Le Z Z.re:=Le.re' (Le.refl _)
theorem wS {t n len:Nat} {p:Option Addr} {f:α->Value} (h:SlV Tryz.prog Z t n p len (xs.map f)) (hi:i<len):∃ a,p=some a/\∃ x,xs[i]?=some x/\zH Tryz.prog Z t (zS a (Int.toNat (i:Int)*n))=some (f x):=by
 obtain ⟨a,rfl,_⟩:=h.some hi;have hl:i<xs.length:=by have:=h.2.1;simp at this;omega
 exact ⟨a,rfl,xs[i],by simp,h.at rfl (by simp [hl])⟩
theorem xM:zJ Tryz.prog 55 [iV n,iV lo,iV hi] Z (.bool (inB n lo hi)) Z:=by
 by_cases h1:lo<=n <;> by_cases h2:n<=hi
 ·exact (xAN ⟨by simp [inB,h1,h2],Nat.le_refl _⟩).pure
 ·exact (xAM ⟨by simp [inB,h1,h2],Nat.le_refl _⟩).pure
 ·exact (yDC ⟨by simp [inB,h1],Nat.le_refl _⟩).pure
 ·exact (yDC ⟨by simp [inB,h1],Nat.le_refl _⟩).pure
theorem xTO:zJ Tryz.prog 85 [xT x] Z (.bool (inB x.a 0 99 && inB x.b 0 10000)) Z:=by
 cases h:inB x.a 0 99 with
 | true=>exact (xPB (by rw [<- h];exact xM) xM ⟨by rw [Bool.true_and],Nat.le_refl _⟩).pure
 | false=>exact (xPA (by rw [<- h];exact xM) ⟨rfl,Nat.le_refl _⟩).pure
theorem xTI:zJ Tryz.prog 86 [xT x] Z (.bool (inB x.a 0 1000000 && decide (x.b=0))) Z:=by
 cases h:inB x.a 0 1000000 with
 | true =>
  by_cases hb:x.b=0
  ·exact (xOT (by rw [<- h];exact xM) ⟨by simp [hb],Nat.le_refl _⟩ hb).pure
  ·exact (xOS (by rw [<- h];exact xM) ⟨by simp [hb],Nat.le_refl _⟩ hb).pure
 | false=>exact (xOR (by rw [<- h];exact xM) ⟨rfl,Nat.le_refl _⟩).pure
theorem xMF:zJ Tryz.prog 87 [xT x] Z (.bool (inB x.a 0 9999 && inB x.b 0 10000000)) Z:=by
 cases h:inB x.a 0 9999 with
 | true=>exact (xEE (by rw [<- h];exact xM) xM ⟨by rw [Bool.true_and],Nat.le_refl _⟩).pure
 | false=>exact (xED (by rw [<- h];exact xM) ⟨rfl,Nat.le_refl _⟩).pure
end
end
section
variable {p:Option Addr} {l cap:Nat} {xs:List Rec} {rs:List (List Rec)} {g:FuncId} {gc:List Value} {f:Rec->Bool} {a:Addr} {b:Bool}
abbrev wB (Z:St) (t:Nat) (p:Option Addr) (l:Nat) (xs:List Rec):Prop:=SlV Pg Z t 6 p l (xs.map xT)
def zDI (Z:St) (ts te:Nat) (p:Option Addr) (l:Nat) (rs:List (List Rec)):Prop:=∃ vs:List Value,SlV Pg Z ts 1 p l vs/\rs.length=l/\∀ (i:Nat) (r:List Rec),rs[i]?=some r->∃ q c,vs[i]?=some (Value.slice q r.length c)/\wB Z te q r.length r
section
variable {Z:St} {ts te:Nat}
theorem wB.len {t:Nat} (h:wB Z t p l xs):xs.length=l:=by have:=h.2.1;simpa using this
theorem zDI.le {Z':St} {p:Option Addr} {l:Nat} {rs:List (List Rec)} (h:zDI Z ts te p l rs) (k:Le Z Z'):zDI Z' ts te p l rs:=by
 obtain ⟨vs,h1,h2,h3⟩:=h;exact ⟨vs,h1.le k,h2,fun i r hi=>by obtain ⟨q,c,g1,g2⟩:=h3 i r hi;exact ⟨q,c,g1,g2.le k⟩⟩
theorem zDI.len (h:zDI Z ts te p l rs):rs.length=l:=h.choose_spec.2.1
theorem zDI.row {i:Nat} (h:zDI Z ts te p l rs) (hi:i<l):∃ a,p=some a/\∃ r q c,rs[i]?=some r/\(∀ U,Le Z U->zH Pg U ts (zS a (Int.toNat (i:Int)*1))=some (.slice q r.length c))/\wB Z te q r.length r:=by
 obtain ⟨vs,h1,h2,h3⟩:=h;obtain ⟨a,rfl,_⟩:=h1.some hi;obtain ⟨q,c,g1,g2⟩:=h3 i rs[i] (by simp);exact ⟨a,rfl,rs[i],q,c,by simp,fun U hU=>(h1.le hU).at rfl g1,g2⟩
theorem xUN {len:Nat} (hs:SlV Pg Z 64 6 p len (xs.map xT)) (hlen:len<=1073741824)
  (hc:∀ x∈xs,∀ U,Le Z U->zJ Pg g (xT x::gc) U (.bool (f x)) U):∃ r:Int,zJ Pg 99 [.slice p len cap,.func (.func g) ⟨[]⟩ ⟨gc⟩] Z (iV r) Z/\(0<=r↔xs.any f=true):=by
 have hl:xs.length=len:=by have:=hs.2.1;simpa using this
 have key:zL Pg 99 [.slice p len cap,.func (.func g) ⟨[]⟩ ⟨gc⟩] Z.re fun v s=>(∃ r:Int,v=iV r/\(0<=r↔xs.any f=true))/\s=Z.re:=by
  refine xQF (yUQ (Inv:=fun k i U=>U=Z.re/\∃ j:Nat,i=j/\j+k=len/\(xs.take j).any f=false) (Qr:=fun i U=>U=Z.re/\0<=i/\xs.any f=true) (Q0:=fun U=>U=Z.re/\xs.any f=false) ?_ len 0 Z.re ⟨rfl,0,rfl,by omega,by simp⟩) ?_ ?_
  ·rintro k i U ⟨rfl,j,rfl,hk,ha⟩;by_cases hj:j<len
   ·obtain ⟨a,rfl,x,hx,ld⟩:=wS hs.re hj;have c:=hc x (List.mem_of_getElem? hx) Z.re (le0 Z);cases hf:f x with
    | true =>
     rw [hf] at c;exact xKM ld c ⟨rfl,by omega,List.any_eq_true.2 ⟨x,List.mem_of_getElem? hx,hf⟩⟩
    | false =>
     rw [hf] at c;exact xKL ld c ⟨k-1,by omega,rfl,j+1,by omega,by omega,by rw [yM hx,List.any_append,ha];simp [hf]⟩
   ·exact xKK ⟨rfl,by rwa [List.take_of_length_le (by omega)] at ha⟩
  ·rintro i U ⟨rfl,h1,h2⟩;exact yUO ⟨⟨i,rfl,by simp [h1,h2]⟩,rfl⟩
  ·rintro U ⟨rfl,h⟩;exact yUP ⟨⟨-1,rfl,by simp [h]⟩,rfl⟩
 obtain ⟨v,s,h1,⟨r,rfl,h2⟩,rfl⟩:=key;exact ⟨r,zNE h1 (Nat.le_refl _) rfl,h2⟩
theorem xUV {len:Nat} (hs:SlV Pg Z 64 6 p len (xs.map xT)) (hlen:len<=1073741824)
  (hc:∀ x∈xs,∀ U,Le Z U->zJ Pg g (xT x::gc) U (.bool (f x)) U):zJ Pg 78 [.slice p len cap,.func (.func g) ⟨[]⟩ ⟨gc⟩] Z (.bool (xs.any f)) Z:=by
 obtain ⟨r,h1,h2⟩:=xUN (Z:=Z.re) (cap:=cap) hs.re hlen (fun x hx U hU=>hc x hx U ((le0 Z).trans hU));cases ha:xs.any f with
 | true=>exact (xRB h1 ⟨rfl,Nat.le_refl _⟩ (h2.2 ha)).pure
 | false=>exact (xRA h1 ⟨rfl,Nat.le_refl _⟩ (fun h=>by rw [h2.1 h] at ha;cases ha)).pure
theorem xSA {x:Rec} (hr:Row Z a [.func (.func g) ⟨[]⟩ ⟨gc⟩]) (hc:∀ U,Le Z U->zJ Pg g (xT x::gc) U (.bool b) U) :
  zJ Pg 79 [xT x,.pointer (some a)] Z (.bool (!b)) Z:=by
 cases b with
 | true=>exact (xMX (hr.re.row.ld1 yAT) (hc _ ((le0 Z).trans (Le.row _ _ _))) ⟨rfl,Nat.le_refl _⟩).pure
 | false=>exact (xMW (hr.re.row.ld1 yAT) (hc _ ((le0 Z).trans (Le.row _ _ _))) ⟨rfl,Nat.le_refl _⟩).pure
theorem xVJ {len:Nat} (hs:SlV Pg Z 64 6 p len (xs.map xT)) (hlen:len<=1073741824)
  (hc:∀ x∈xs,∀ U,Le Z U->zJ Pg g (xT x::gc) U (.bool (f x)) U):zJ Pg 44 [.slice p len cap,.func (.func g) ⟨[]⟩ ⟨gc⟩] Z (.bool (xs.all f)) Z:=by
 have c:=xUV (Z:=Z.re.row [.func (.func g) ⟨[]⟩ ⟨gc⟩] 1) (g:=79) (gc:=[.pointer (some ⟨Z.re.y,0,none⟩)]) (f:=fun x=>!f x) (cap:=cap) hs.re.row hlen
  (fun x hx U hU=>xSA ((zPE _ _ _).le hU) (fun U' hU'=>hc x hx U' ((((le0 Z).trans (Le.row _ _ _)).trans hU).trans hU')))
 have e:(xs.any fun x=>!f x)=!xs.all f:=by rw [List.not_all_eq_any_not]
 rw [e] at c;cases ha:xs.all f with
 | true=>rw [ha] at c;exact (xRY c ⟨rfl,Nat.le_refl _⟩).pure
 | false=>rw [ha] at c;exact (xRZ c ⟨rfl,Nat.le_refl _⟩).pure
theorem xUO {len:Nat} {f:List Rec->Bool} (hs:zDI Z 52 64 p len rs) (hlen:len<=1073741824)
  (hc:∀ r∈rs,∀ q c U,Le Z U->wB U 64 q r.length r->zJ Pg g (.slice q r.length c::gc) U (.bool (f r)) U):∃ r:Int,zJ Pg 98 [.slice p len cap,.func (.func g) ⟨[]⟩ ⟨gc⟩] Z (iV r) Z/\(0<=r↔rs.any f=true):=by
 have hl:=hs.len;have hs':=hs.le (le0 Z);have key:zL Pg 98 [.slice p len cap,.func (.func g) ⟨[]⟩ ⟨gc⟩] Z.re fun v s=>(∃ r:Int,v=iV r/\(0<=r↔rs.any f=true))/\s=Z.re:=by
  refine xQG (yUT (Inv:=fun k i U=>U=Z.re/\∃ j:Nat,i=j/\j+k=len/\(rs.take j).any f=false) (Qr:=fun i U=>U=Z.re/\0<=i/\rs.any f=true) (Q0:=fun U=>U=Z.re/\rs.any f=false) ?_ len 0 Z.re ⟨rfl,0,rfl,by omega,by simp⟩) ?_ ?_
  ·rintro k i U ⟨rfl,j,rfl,hk,ha⟩;by_cases hj:j<len
   ·obtain ⟨a,rfl,r,q,c,hr,ld,hq⟩:=hs'.row hj;have ld:=ld _ (Le.refl _);have c:=hc r (List.mem_of_getElem? hr) q c Z.re (le0 Z) hq;cases hf:f r with
    | true =>
     rw [hf] at c;exact xKQ ld c ⟨rfl,by omega,List.any_eq_true.2 ⟨r,List.mem_of_getElem? hr,hf⟩⟩
    | false =>
     rw [hf] at c;exact xKP ld c ⟨k-1,by omega,rfl,j+1,by omega,by omega,by rw [yM hr,List.any_append,ha];simp [hf]⟩
   ·exact xKO ⟨rfl,by rwa [List.take_of_length_le (by omega)] at ha⟩
  ·rintro i U ⟨rfl,h1,h2⟩;exact yUR ⟨⟨i,rfl,by simp [h1,h2]⟩,rfl⟩
  ·rintro U ⟨rfl,h⟩;exact yUS ⟨⟨-1,rfl,by simp [h]⟩,rfl⟩
 obtain ⟨v,s,h1,⟨r,rfl,h2⟩,rfl⟩:=key;exact ⟨r,zNE h1 (Nat.le_refl _) rfl,h2⟩
theorem xUW {len:Nat} {f:List Rec->Bool} (hs:zDI Z 52 64 p len rs) (hlen:len<=1073741824)
  (hc:∀ r∈rs,∀ q c U,Le Z U->wB U 64 q r.length r->zJ Pg g (.slice q r.length c::gc) U (.bool (f r)) U):zJ Pg 76 [.slice p len cap,.func (.func g) ⟨[]⟩ ⟨gc⟩] Z (.bool (rs.any f)) Z:=by
 obtain ⟨r,h1,h2⟩:=xUO (Z:=Z.re) (cap:=cap) (hs.le (le0 Z)) hlen (fun x hx q c U hU=>hc x hx q c U ((le0 Z).trans hU));cases ha:rs.any f with
 | true=>exact (xRD h1 ⟨rfl,Nat.le_refl _⟩ (h2.2 ha)).pure
 | false=>exact (xRC h1 ⟨rfl,Nat.le_refl _⟩ (fun h=>by rw [h2.1 h] at ha;cases ha)).pure
theorem xSD {q:Option Addr} {c:Nat} (hr:Row Z a [.func (.func g) ⟨[]⟩ ⟨gc⟩]) (hc:∀ U,Le Z U->zJ Pg g (.slice q l c::gc) U (.bool b) U) :
  zJ Pg 77 [.slice q l c,.pointer (some a)] Z (.bool (!b)) Z:=by
 cases b with
 | true=>exact (xNA (hr.re.ld1 xNJ) (hc _ (le0 Z)) ⟨rfl,Nat.le_refl _⟩).pure
 | false=>exact (xMZ (hr.re.ld1 xNJ) (hc _ (le0 Z)) ⟨rfl,Nat.le_refl _⟩).pure
theorem xMY {len:Nat} {f:List Rec->Bool} (hs:zDI Z 52 64 p len rs) (hlen:len<=1073741824)
  (hc:∀ r∈rs,∀ q c U,Le Z U->wB U 64 q r.length r->zJ Pg g (.slice q r.length c::gc) U (.bool (f r)) U):zJ Pg 41 [.slice p len cap,.func (.func g) ⟨[]⟩ ⟨gc⟩] Z (.bool (rs.all f)) Z:=by
 have c:=xUW (Z:=Z.re.row [.func (.func g) ⟨[]⟩ ⟨gc⟩] 1) (g:=77) (gc:=[.pointer (some ⟨Z.re.y,0,none⟩)]) (f:=fun x=>!f x) (cap:=cap) (hs.le ((le0 Z).trans (Le.row _ _ _))) hlen
  (fun x hx q c U hU hq=>xSD ((zPE _ _ _).le hU) (fun U' hU'=>hc x hx q c U' ((((le0 Z).trans (Le.row _ _ _)).trans hU).trans hU') (SlV.le hq hU')))
 have e:(rs.any fun x=>!f x)=!rs.all f:=by rw [List.not_all_eq_any_not]
 rw [e] at c;cases ha:rs.all f with
 | true=>rw [ha] at c;exact (xSB c ⟨rfl,Nat.le_refl _⟩).pure
 | false=>rw [ha] at c;exact (xSC c ⟨rfl,Nat.le_refl _⟩).pure
end
end
def Byte (x:Rec):Prop:=0<=x.k/\x.k<=255
abbrev xKC:List Value:=[.func (.func 85) ⟨[]⟩ ⟨[]⟩,.func (.func 86) ⟨[]⟩ ⟨[]⟩,.func (.func 87) ⟨[]⟩ ⟨[]⟩]
section
variable {Z:St}
theorem yZS {n:Int} {U:St} (h:0<=n/\n<=255):(zX U.y [.int .u8 n]/\yB RD (iV n)=true)/\xJ Pg (evL [.int .u8 n]) U (.convert 5 3 (.tmp 0))=some (iV n):=by
 refine ⟨⟨rfl,rfl⟩, ?_⟩
 have e:xJ Pg (evL [.int .u8 n]) U (.convert 5 3 (.tmp 0))=some (iV (vV .i64 n)):=by kernel_rfl
 rw [e,vS (by omega) (by omega)]
theorem yIR:∃ b Z',zJ Pg 56 [] Z (.slice (some ⟨b,0,none⟩) 3 3) Z'/\New Z Z'/\Own Z' b xKC 1:=by
 obtain ⟨v,Z',h1,h2,b,rfl,h3⟩:=zL.new (P:=Pg) (f:=56) (args:=[]) (Z:=Z) (Q:=fun v s=>∃ b,v=.slice (some ⟨b,0,none⟩) 3 3/\Own s b xKC 1) (xKB ⟨New.row _ _ _,_,rfl,zI _ _ _⟩)
  (by rintro v s s' ⟨b,rfl,h⟩ hl;exact ⟨b,rfl,h.le hl⟩) (by rintro v s hr ⟨b,rfl,_⟩;exact Bool.noConfusion (show false=true from hr))
 exact ⟨b,Z',h1,h2,h3⟩
theorem yXF {x:Rec} (hx:Byte x):zJ Pg 45 [xT x] Z (.bool (yQ x)) Z:=by
 obtain ⟨m,s,t,k,a,b⟩:=x;obtain ⟨hk0,hk1⟩:=hx;simp only at hk0 hk1;cases h1:inB m 0 999 with
 | false=>exact (xGL (by rw [<- h1];exact xM) ⟨by simp [yQ,h1],(New.row _ _ _).lw⟩).pure
 | true =>
 cases h2:inB s 1 9999 with
 | false=>exact (xGM (by rw [<- h1];exact xM) (by rw [<- h2];exact xM) ⟨by simp [yQ,h2],(New.row _ _ _).lw⟩).pure
 | true =>
 cases h3:inB t 0 1000000 with
 | false=>exact (xGN (by rw [<- h1];exact xM) (by rw [<- h2];exact xM) (by rw [<- h3];exact xM) ⟨by simp [yQ,h3],(New.row _ _ _).lw⟩).pure
 | true =>
 obtain ⟨b1,Z5,k1,n1,o1⟩:=yIR (Z:=Z.re.row (rcd m s t k a b) 6);have oR:Own (Z.re.row (rcd m s t k a b) 6) Z.y (rcd m s t k a b) 6:=zI _ _ _;have N1:New Z.re (Z.re.row (rcd m s t k a b) 6):=New.row _ _ _;by_cases hk:k<3;rotate_left
 ·exact (xGO (by rw [<- h1];exact xM) (by rw [<- h2];exact xM) (by rw [<- h3];exact xM) k1 (zM (zBK o1.lt) zO) ⟨⟨(oR.le n1.le).lt,rfl⟩,(oR.le n1.le).ld rfl zGD rfl⟩ (yZS ⟨hk0,hk1⟩) (yZS ⟨hk0,hk1⟩)
   ⟨by simp [yQ,show ¬ k=0 by omega,show ¬ k=1 by omega,show ¬ k=2 by omega],(N1.trans n1).lw⟩).pure
 obtain ⟨b2,Z7,k2,n2,o2⟩:=yIR (Z:=Z5);have o5:=oR.le n1.le;have o7:=o5.le n2.le;have NN:=(N1.trans n1).trans n2;have key:∀ (g:FuncId) (B:Bool),zH Pg Z7 114 (zS ⟨b2,0,none⟩ (Int.toNat k*1+0))=some (.func (.func g) ⟨[]⟩ ⟨[]⟩)->zJ Pg g [.agg ⟨rcd m s t k a b⟩] Z7 (.bool B) Z7->B=yQ ⟨m,s,t,k,a,b⟩->zJ Pg 45 [xT ⟨m,s,t,k,a,b⟩] Z (.bool (yQ ⟨m,s,t,k,a,b⟩)) Z:=by
  intro g B hl hc hB;exact (xGP (by rw [<- h1];exact xM) (by rw [<- h2];exact xM) (by rw [<- h3];exact xM) k1 k2 (o7.ld rfl zGD rfl) hl (o7.ldN uM yP (k:=0) rfl rfl (by simp)) hc (zM (zBK o1.lt) zO) (zM (zV o7.lt) zO) (zM (zV o2.lt) zO) (zM (zV o7.lt) zO) rfl
   ⟨⟨o5.lt,rfl⟩,o5.ld rfl zGD rfl⟩ (yZS ⟨hk0,hk1⟩) (yZS ⟨hk0,hk1⟩) ⟨⟨o5.lt,rfl⟩,o5.ld rfl zGD rfl⟩ ⟨⟨o7.lt,rfl⟩,o7.ld rfl zGD rfl⟩ ⟨⟨o5.lt,rfl⟩,o5.ldN uM yP (k:=0) rfl rfl (by simp)⟩ ⟨⟨o7.lt,rfl⟩,o7.ldN uM yP (k:=0) rfl rfl (by simp)⟩ ⟨by rw [hB],NN.lw⟩).pure
 have hkk:k=0\/k=1\/k=2:=by omega
 rcases hkk with rfl | rfl | rfl
 ·exact key 85 _ (o2.ld rfl yAT (k:=0) rfl) (xTO (x:=⟨m,s,t,0,a,b⟩)) (by simp [yQ,h1,h2,h3])
 ·exact key 86 _ (o2.ld rfl yAT (k:=1) rfl) (xTI (x:=⟨m,s,t,1,a,b⟩)) (by simp [yQ,h1,h2,h3])
 ·exact key 87 _ (o2.ld rfl yAT (k:=2) rfl) (xMF (x:=⟨m,s,t,2,a,b⟩)) (by simp [yQ,h1,h2,h3])
theorem xHT {x:Rec}:zJ Pg 25 [xT x] Z (xT x) Z:=(xAV ⟨rfl,by simp⟩).pure
def zAT (rs:List (List Rec)):Int:=if 6<rs.length then 3 else if !(rs.all fun r=>decide (r.length<=60)) then 3 else if !(rs.all fun r=>r.all yQ) then 1 else 0
theorem yGI {p:Option Addr} {l c:Nat} {rs:List (List Rec)} (h:zDI Z 52 64 p l rs) (hl:l<=1073741824) (hb:∀ r∈rs,r.length<=1073741824/\∀ x∈r,Byte x):zJ Pg 22 [.slice p l c] Z (iV (zAT rs)) Z:=by
 have hlen:=h.len;have h0:=h.le (le0 Z);by_cases h6:6<l
 ·exact (yVT ⟨by simp [zAT,hlen,h6],Nat.le_refl _⟩).pure
 have c1:=xMY (cap:=c) (g:=42) (gc:=[]) (f:=fun r=>decide (r.length<=60)) h0 hl (fun r hr q c U hU hq=>by
  by_cases e:r.length<=60
  ·exact (yPI ⟨by simp [e],Nat.le_refl _⟩ (by omega)).pure
  ·exact (yPH ⟨by simp [e],Nat.le_refl _⟩ (by omega)).pure)
 cases e1:rs.all fun r=>decide (r.length<=60) with
 | false=>rw [e1] at c1;exact (yVQ c1 ⟨by simp [zAT,hlen,h6,e1],Nat.le_refl _⟩).pure
 | true =>
 rw [e1] at c1;have c2:=xMY (cap:=c) (g:=43) (gc:=[]) (f:=fun r=>r.all yQ) h0 hl (fun r hr q c U hU hq =>
  (yPG (xVJ (g:=45) (gc:=[]) (f:=yQ) (SlV.le hq (le0 U)) (hb r hr).1 fun x hx U' _=>yXF ((hb r hr).2 x hx)) ⟨rfl,Nat.le_refl _⟩).pure)
 cases e2:rs.all fun r=>r.all yQ with
 | false=>rw [e2] at c2;exact (yVR c1 c2 ⟨by simp [zAT,hlen,h6,e1,e2],Nat.le_refl _⟩).pure
 | true=>rw [e2] at c2;exact (yVS c1 c2 ⟨by simp [zAT,hlen,h6,e1,e2],Nat.le_refl _⟩).pure
end
section
variable {x y:Rec} {α:Type} {xs:List α} {f:α->Bool}
theorem zKF {k:Nat} (h:k<=1073741824):yY k=true:=(xI k).2 (by unfold vU;omega)
theorem zQS:AppT Pg 52 52 64 6:=zBF (by kernel_rfl)
theorem yQB:AppT Pg 32 32 40 6:=zBF (by kernel_rfl)
theorem zGY (x:Rec):zGZ Pg 64 6 (xT x):=.inr ⟨uM,yP,_,rfl,rfl⟩
theorem yNT (x:Rec):zGZ Pg 40 6 (xT x):=.inr ⟨xXC,xTL,_,rfl,rfl⟩
def xTU (j:Nat):IntKind:=if j=3 then .u8 else .i64
theorem xHV (x:Rec) (j:Nat) (n:Int) (h:[x.m,x.s,x.t,x.k,x.a,x.b][j]?=some n):(⟨xG x⟩:Array Value)[j]?=some (.int (xTU j) n):=by
 rcases j with _ | _ | _ | _ | _ | _ | j <;> simp_all [xTU]
theorem xHU:[x.m,x.s,x.t,x.k,x.a,x.b]=[y.m,y.s,y.t,y.k,y.a,y.b]↔x=y:=by
 constructor
 ·intro h;simp at h;cases x;cases y;simp_all
 ·rintro rfl;rfl
theorem xPM (x y:Rec):yJ Pg (Op.equal 64 (xT x) (xT y))=some (decide (x=y)):=by
 have h:=yYD (P:=Pg) (t:=64) (n:=6) (d:=9998) xTU (by kernel_rfl) («as»:=[x.m,x.s,x.t,x.k,x.a,x.b]) (bs:=[y.m,y.s,y.t,y.k,y.a,y.b]) (xs:=⟨xG x⟩) (ys:=⟨xG y⟩) rfl rfl (xHV x) (xHV y);rw [show decide (x=y)=decide ([x.m,x.s,x.t,x.k,x.a,x.b]=[y.m,y.s,y.t,y.k,y.a,y.b]) from decide_eq_decide.2 xHU.symm];exact h
theorem xWF {o1 o2:Operand}:uP Pg .neq 64 o1 o2 (xT x) (xT y)=some (.bool (!decide (x=y))):=by
 have e:∀ (x1 x2 x3 x4 x5 x6 y1 y2 y3 y4 y5 y6:Int),uP Pg .neq 64 o1 o2 (.agg ⟨rcd x1 x2 x3 x4 x5 x6⟩) (.agg ⟨rcd y1 y2 y3 y4 y5 y6⟩)=(yJ Pg (do eqGuard .neq 64 o1 o2 (.agg ⟨rcd x1 x2 x3 x4 x5 x6⟩) (.agg ⟨rcd y1 y2 y3 y4 y5 y6⟩);binOp .neq 64 (.agg ⟨rcd x1 x2 x3 x4 x5 x6⟩) (.agg ⟨rcd y1 y2 y3 y4 y5 y6⟩))).filter (zQ RD):=fun _ _ _ _ _ _ _ _ _ _ _ _=>by kernel_rfl
 have e1:∀ (x1 x2 x3 x4 x5 x6 y1 y2 y3 y4 y5 y6:Int),yJ Pg (eqGuard .neq 64 o1 o2 (.agg ⟨rcd x1 x2 x3 x4 x5 x6⟩) (.agg ⟨rcd y1 y2 y3 y4 y5 y6⟩))=some ():=fun _ _ _ _ _ _ _ _ _ _ _ _=>by kernel_rfl
 have e2:∀ x y:List Value,binOp .neq 64 (.agg ⟨x⟩) (.agg ⟨y⟩)=(do let r <- Op.equal 64 (.agg ⟨x⟩) (.agg ⟨y⟩);pure (.bool (!r))):=fun _ _=>rfl
 rw [e,vF,e1];simp only [Option.bind_some];rw [e2,vF,xPM];rfl
section
variable {Z:St}
theorem xMV {i:Nat} {x:α} (h:xs[i]?=some x) (ha:(xs.take i).all f=true) (hf:f x=true):(xs.take (i+1)).all f=true:=by rw [yM h,List.all_append,ha];simp [hf]
theorem xVI {x:α} (h:x∈xs) (hf:f x=false):xs.all f=false:=by
 cases e:xs.all f with
 | false=>rfl
 | true=>rw [List.all_eq_true.1 e x h] at hf;cases hf
theorem xFK {p:Option Addr} {l c:Nat} {xs:List Rec} (h:wB Z 40 p l xs) (hl:l<=1073741823):∃ p' c' Z',zJ Pg 12 [.slice p l c] Z (.slice p' l c') Z'/\New Z Z'/\wB Z' 64 p' l xs/\∀ b,AtP p' b->Z.y<=b:=by
 have hlen:=h.len;refine zL.newSl (yWJ (P0:=fun p' l' c' U=>l'=l/\New Z.re U/\Gr Pg U Z.y 64 6 p' l c' (xs.map xT)) (yDA (Inv:=fun k p' l' c' i U=>∃ s:Nat,i=s/\l'=s/\s+k=l/\New Z.re U/\Gr Pg U Z.y 64 6 p' s c' ((xs.take s).map xT)) ?_ l none 0 0 0 Z.re ⟨0,rfl,rfl,by omega,New.refl _,by simpa using Gr.nil⟩) ?_)
 ·rintro k p' l' c' i U ⟨s,rfl,rfl,hk,hN,hg⟩;by_cases hs:l' < l;rotate_left
  ·have:l'=l:=by omega
   subst this;rw [List.take_of_length_le (by omega)] at hg;exact yRB ⟨rfl,hN,hg⟩ (by omega)
  obtain ⟨a,rfl,x,hx,ld⟩:=wS ((SlV.le h (le0 Z)).le hN.le) hs;obtain ⟨p4,c4,U2,g1,g2,g3,g4,g5⟩:=grow (Z0:=Z.re) (xT x) zQS hg hN (New.refl U) (zGY _) (by omega) (e:=rfl) (hc:=rfl);exact yRC ld xHT g1 ⟨k-1,by omega,l'+1,by omega,rfl,by omega,g3,by rw [yM hx,List.map_append];exact g2⟩ (by omega)
 ·rintro p' l' c' U ⟨rfl,hN,hg⟩;exact yCZ ⟨hN,p',c',rfl,hg.slv,fun b hb=>(hg.bd hb).1⟩
end
end
end Go.Proofs.YtflfajphjmajpaaGreatDoor
