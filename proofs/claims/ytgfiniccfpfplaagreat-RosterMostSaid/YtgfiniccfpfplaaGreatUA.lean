import Derived.Test.YtgfiniccfpfplaaGreatRG
import Derived.Test.YtgfiniccfpfplaaGreatRH
import Derived.Test.YtgfiniccfpfplaaGreatXH
import Derived.Test.YtgfiniccfpfplaaGreatRA
import Derived.Sort.AssemblyPlain

namespace Go.Proofs.YtgfiniccfpfplaaGreat
open Go Go.Lay
open Tryz renaming prog -> Pg
set_option linter.unusedVariables false
set_option linter.unusedSimpArgs false
set_option maxRecDepth 20000
theorem zDN (xs:List Int):∀ (_:IntKind),vA (xs.map yB)=xs.map yB:=by
 intro _;induction xs with
 | nil=>rfl
 | cons x xs ih=>simp only [vA,List.map_cons,List.flatMap_cons] at ih ⊢;rw [ih];rfl
section
variable {Z:St}
theorem zYK {p:Option Addr} {l c:Nat} {xs:List Int} (h:yG Z p l xs) (hl:l<=1073741824) :
  ∃ p' c' Z',zD Pg 19 [.slice p l c] Z (.slice p' l c') Z'/\New Z Z'/\yG Z' p' l xs/\∀ b,AtP p' b->Z.next<=b:=by
 have hc:(vA (xs.map yB)).all cellB=true:=by rw [zDN xs .i64];simp [List.all_eq_true];intro a _;rfl
 have N1:New Z.re (Z.re.row [] 1):=New.row _ _ _;obtain ⟨p6,c6,s5,ap1,A6,O6,b6⟩:=Ax.append (P:=Pg) (k:=c) (n0:=Z.re.next) zHF (Ax.lit (len:=0) (zC Z.re [] 1) rfl ((xC 0).2 vU) (Nat.le_refl _)) (SlV.le h ((le0 Z).trans N1.le)).1 (by omega) hc N1.nx;rw [Nat.zero_add] at ap1 A6;have N5:New Z.re s5:=N1.of_only O6 (by rintro b ⟨a,e,rfl⟩;cases e;exact Nat.le_refl _);exact zO.newSl (list_ra ap1 ⟨N5,p6,c6,rfl,Ax.slv (by simpa using A6) (by simpa using h.2.1) h.2.2,fun b hb=>(A6.bd b hb).1⟩)
theorem rCovers_c {p:Option Addr} {l c:Nat} {xs:List Int} (h:yG Z p l xs) (hl:l<=1073741824):zD Pg 27 [.slice p l c] Z (iV ((xs.filter fun x=>decide (0<=x)).length:Nat)) Z:=by
 have h1:=h.re;have e1:=h.len;refine (ySI (yBI (Inv:=fun k i3 i4 τ=>τ=Z.re/\∃ j:Nat,i4=j/\j+k=l/\i3=(((xs.take j).filter fun x=>decide (0<=x)).length:Nat)/\((xs.take j).filter fun x=>decide (0<=x)).length<=j) (Q0:=fun i3 τ=>τ=Z.re/\i3=((xs.filter fun x=>decide (0<=x)).length:Nat)) ?_ l 0 0 Z.re ⟨rfl,0,rfl,by omega,rfl,Nat.le_refl _⟩) ?_).pure
 ·rintro k i3 i4 τ ⟨rfl,j,rfl,hk,rfl,hle⟩;by_cases hj:j<l
  ·obtain ⟨a,rfl,x,hx,l1⟩:=vF h1 hj;have es:(xs.take (j+1)).filter (fun x=>decide (0<=x))=(xs.take j).filter (fun x=>decide (0<=x))++if 0<=x then [x] else []:=by
    rw [wP hx,List.filter_append];by_cases e:0<=x <;> simp [e]
   by_cases e:0<=x
   ·rw [if_pos e] at es;exact yLG l1 ⟨k-1,by omega,rfl,j+1,by omega,by omega,by rw [es,List.length_append];simp,by rw [es,List.length_append];show _+1<=_;omega⟩ (by omega) (by omega) e (by omega) (by omega)
   ·rw [if_neg e,List.append_nil] at es;exact yLF l1 ⟨k-1,by omega,rfl,j+1,by omega,by omega,by rw [es],by rw [es];omega⟩ (by omega) (by omega) e (by omega)
  ·rw [List.take_of_length_le (by omega)];exact yLE ⟨rfl,rfl⟩ (by omega)
 ·rintro i3 τ ⟨rfl,rfl⟩;exact yBH ⟨rfl,Nat.le_refl _⟩
theorem yOI {p:Option Addr} {l c:Nat} {xs:List Int} (h:yG Z p l xs) (hl:l<=1073741824):zD Pg 63 [.slice p l c] Z (iV ((xs.filter fun x=>decide (x≠-1)).length:Nat)) Z:=by
 have h1:=h.re;have e1:=h.len;refine (covers_ra (yIJ (Inv:=fun k i3 i4 τ=>τ=Z.re/\∃ j:Nat,i4=j/\j+k=l/\i3=(((xs.take j).filter fun x=>decide (x≠-1)).length:Nat)/\((xs.take j).filter fun x=>decide (x≠-1)).length<=j) (Q0:=fun i3 τ=>τ=Z.re/\i3=((xs.filter fun x=>decide (x≠-1)).length:Nat)) ?_ l 0 0 Z.re ⟨rfl,0,rfl,by omega,rfl,Nat.le_refl _⟩) ?_).pure
 ·rintro k i3 i4 τ ⟨rfl,j,rfl,hk,rfl,hle⟩;by_cases hj:j<l
  ·obtain ⟨a,rfl,x,hx,l1⟩:=vF h1 hj;have es:(xs.take (j+1)).filter (fun x=>decide (x≠-1))=(xs.take j).filter (fun x=>decide (x≠-1))++if x≠-1 then [x] else []:=by
    rw [wP hx,List.filter_append];by_cases e:x≠-1 <;> simp [e]
   by_cases e:x≠-1
   ·rw [if_pos e] at es;exact yVA l1 ⟨k-1,by omega,rfl,j+1,by omega,by omega,by rw [es,List.length_append];simp,by rw [es,List.length_append];show _+1<=_;omega⟩ (by omega) (by omega) e (by omega) (by omega)
   ·rw [if_neg e,List.append_nil] at es;exact yUZ l1 ⟨k-1,by omega,rfl,j+1,by omega,by omega,by rw [es],by rw [es];omega⟩ (by omega) (by omega) (Decidable.not_not.1 e) (by omega)
  ·rw [List.take_of_length_le (by omega)];exact yUY ⟨rfl,rfl⟩ (by omega)
 ·rintro i3 τ ⟨rfl,rfl⟩;exact yII ⟨rfl,Nat.le_refl _⟩
section
variable {w:Wk} {p q r t:Option Addr} {l m c d rl rc tl tc:Nat} {rs ts:List Int}
theorem ends_c (h:WkP Z 85 88 w p l q m) (hl:l<=1000):∃ p' c' Z',zD Pg 86 [.agg ⟨wkc w.days p l c q m d w.rest w.run w.hours⟩] Z (.slice p' l c') Z'/\New Z Z'/\yG Z' p' l (zBE w)/\∀ b,AtP p' b->Z.next<=b:=by
 have hn:=h.len.1;obtain ⟨Z1,hZ1⟩:∃ Z1,Z1=Z.re.row (wkc w.days p l c q m d w.rest w.run w.hours) 6:=⟨_,rfl⟩;have N1:New Z.re Z1:=by rw [hZ1];exact New.row _ _ _
 have L1:Le Z Z1:=(le0 Z).trans N1.le;refine zO.newSl (ends_ra (yUR (Inv:=fun k p' l' c' i τ=>New Z1 τ/\∃ j:Nat,i=j/\j+k=l/\l'=j/\Gr Pg τ Z1.next 3 1 p' l' c' (((zBE w).take j).map yB))
  (Q0:=fun p' l' c' τ=>New Z1 τ/\l'=l/\Gr Pg τ Z1.next 3 1 p' l' c' ((zBE w).map yB)) ?_ l none 0 0 0 _ ⟨by rw [<- hZ1];exact New.refl _,0,rfl,by omega,rfl,Gr.nil⟩) ?_)
 ·rintro k p' l' c' i τ ⟨hN,j,rfl,hk,rfl,hg⟩;by_cases hj:l' < l
  ·obtain ⟨a,rfl,x,hx,lx⟩:=vF (SlV.le h.dty (L1.trans hN.le)) hj;have hN2:New τ ((τ.row (zF 0 0 0 0 0) 5).own τ.next (zF x.day x.on x.lo x.hi x.route) 5):=(New.row _ _ _).own (Nat.le_refl _);obtain ⟨q7,d7,τ',g1,g2,g3,_,_⟩:=grow (yB x.hi) zHF hg hN hN2 (zAX _) (by omega);have hx2:(zBE w)[l']?=some x.hi:=by unfold zBE;rw [List.getElem?_map,hx];rfl
   refine ends_s1a lx g1 ⟨k-1,by omega,g3,l'+1,by omega,by omega,rfl, ?_⟩ (by omega) (by omega) (by omega);rw [wP hx2,List.map_append];exact g2
  ·have:l'=l:=by omega
   subst this;refine ends_s1b ⟨hN,rfl, ?_⟩ (by omega);rwa [List.take_of_length_le (by unfold zBE;rw [List.length_map];omega)] at hg
 ·rintro p' l' c' τ ⟨hN,rfl,hg⟩;refine yUQ ⟨N1.trans hN,p',c',rfl,hg.slv,fun b hb=>?_⟩;have:=(hg.bd hb).1;have:=N1.nx;show Z.re.next<=b;omega
theorem wroster_c (h:WkP Z 85 88 w p l q m) (hr:yG Z r rl rs) (hl:rl<=1073741824) (hm:m<=1073741824):zD Pg 52 [.agg ⟨wkc w.days p l c q m d w.rest w.run w.hours⟩,.slice r rl rc] Z (.bool (zEN w rs)) Z:=by
 have hn:=h.len.1;have hmm:=h.len.2;have el:=hr.len;by_cases hh:rl=l;rotate_left
 ·have:zEN w rs=false:=by unfold zEN;rw [decide_eq_false (by omega),Bool.and_false]
  rw [this];exact (yQB ⟨rfl,Nat.le_refl _⟩ (by omega)).pure
 have L1:Le Z (Z.re.row (wkc w.days p l c q m d w.rest w.run w.hours) 6):=(le0 Z).trans (Le.row _ _ _);have hk0:=xP Z.re (wkc w.days p l c q m d w.rest w.run w.hours) 6;have ca:=allI_c (cap:=rc) (g:=73) (gc:=[.pointer (some ⟨Z.re.next,0,none⟩)]) (f:=fun x=>inB x (-1) ((w.drivers.length:Int)-1)) (SlV.le hr L1) hl (fun x _ τ hτ=>by
  have ld:zB Pg τ.re 32 (zM ⟨Z.re.next,0,none⟩ 2)=some (.slice q m d):=((hk0.le hτ).re).load1 uV rfl;rw [hmm];exact (yRB ld zJX ⟨rfl,Nat.le_refl _⟩ (by omega)).pure)
 have:zEN w rs=rs.all (fun x=>inB x (-1) ((w.drivers.length:Int)-1)):=by unfold zEN;rw [decide_eq_true (by omega),Bool.and_true]
 rw [this];exact (yQC ca ⟨rfl,Nat.le_refl _⟩ (by omega)).pure
end
end
end Go.Proofs.YtgfiniccfpfplaaGreat

namespace Go.Proofs.YtgfiniccfpfplaaGreat
open Go Go.Lay
set_option linter.unusedVariables false
set_option linter.unusedSimpArgs false
set_option maxRecDepth 20000
open Go.Sort (swp)
def zAY (d:Array Rec):List Value:=d.toList.flatMap zBC
theorem zRT:∀ l:List Rec,(l.flatMap zBC).length=l.length*3
 | []=>rfl
 | x::l=>by rw [List.flatMap_cons,List.length_append,zRT l];simp;omega
theorem yAB (d:Array Rec):(zAY d).length=d.size*3:=by unfold zAY;rw [zRT];simp
def Dt (Z:St) (b:Nat) (s:Option Nat) (d:Array Rec):Prop:=b<Z.next/\∃ log nx,yI Z.heap b=some (.cells (zAY d) 3 ((s.getD 0,d.size*3)::log) nx false)
section
variable {Z τ:St} {b:Nat} {s:Option Nat} {d d0:Array Rec}
theorem Dt.le (h:Dt Z b s d) (k:Le Z τ):Dt τ b s d:=by
 obtain ⟨h1,log,nx,h2⟩:=h;exact ⟨Nat.lt_of_lt_of_le h1 k.next,log,nx,by rw [k.get b h1];exact h2⟩
theorem Dt.only {S:Nat->Prop} (h:Dt Z b s d) (k:Only S Z τ) (hs:¬ S b):Dt τ b s d:=by
 obtain ⟨h1,log,nx,h2⟩:=h;exact ⟨Nat.lt_of_lt_of_le h1 k.next,log,nx,by rw [k.get b h1 hs];exact h2⟩
theorem yCH:∀ (l:List Rec) (i:Nat) (x:Rec),l[i]?=some x->((l.flatMap zBC).drop (i*3)).take 3=zBC x
 | [],i,x,h=>by simp at h
 | y::l,0,x,h=>by
  cases h
  rw [List.flatMap_cons,Nat.zero_mul,List.drop_zero];exact List.take_left' rfl
 | y::l,i+1,x,h=>by
  rw [List.flatMap_cons,Nat.add_mul,Nat.one_mul,Nat.add_comm (i*3),<- List.drop_drop,show List.drop 3 (zBC y++l.flatMap zBC)=l.flatMap zBC from rfl];exact yCH l i x (by simpa using h)
theorem yLC:∀ (l:List Rec) (i:Nat) (x:Rec),i<l.length->(l.flatMap zBC).take (i*3)++(zBC x++(l.flatMap zBC).drop (i*3+3))=(l.set i x).flatMap zBC
 | [],i,x,h=>by simp at h
 | y::l,0,x,h=>by
  rw [List.set_cons_zero,List.flatMap_cons,List.flatMap_cons,Nat.zero_mul,List.take_zero,List.nil_append,Nat.zero_add,show List.drop 3 (zBC y++l.flatMap zBC)=l.flatMap zBC from rfl]
 | y::l,i+1,x,h=>by
  rw [List.set_cons_succ,List.flatMap_cons,List.flatMap_cons,<- yLC l i x (by simpa using h),show (i+1)*3=3+i*3 by omega,List.take_append,List.drop_append,show 3+i*3+3-(zBC y).length=i*3+3 by simp;omega,show 3+i*3-(zBC y).length=i*3 by simp];rw [List.take_of_length_le (by simp),List.drop_of_length_le (by simp),List.nil_append,List.append_assoc]
theorem getD_at {i:Nat} (h:i<d.size):d.toList[i]?=some d[i]! := by
 rw [Array.getElem?_toList,getElem!_pos d i h,Array.getElem?_eq_getElem h]
theorem Dt.ld (h:Dt Z b s d) {i:Int} (h0:0<=i) (hi:i<(d.size:Int)):zB Tryz.prog Z 45 (zM ⟨b,0,s⟩ (Int.toNat i*3))=some (zFA d[i.toNat]!):=by
 obtain ⟨h1,log,nx,h2⟩:=h;have hlt:i.toNat<d.size:=by omega
 have hr:yO Z ⟨b,0+i.toNat*3,s⟩ 3=some (zBC d[i.toNat]!):=by
  have hle:Nat.ble (0+i.toNat*3+3) (d.size*3)=true:=(zW _ _).2 (by omega);unfold yO;simp only [h2,yD,wT,Nat.beq_refl,cond_true,hle];rw [Nat.zero_add];unfold zAY;rw [yCH _ _ _ (getD_at hlt)]
 have hR:Row Z ⟨b,0+i.toNat*3,s⟩ (zBC d[i.toNat]!):=⟨hr,h1⟩;exact hR.loadN (P:=Tryz.prog) (t:=45) (k:=0) agg45 yGH rfl rfl (by simp)
theorem Dt.st (h:Dt Z b s d) {i:Int} (x:Rec) (h0:0<=i) (hi:i<(d.size:Int)) :
  ∃ Z',zQ Tryz.prog (evL [.pointer (some (zM ⟨b,0,s⟩ (Int.toNat i*3))),zFA x]) Z (.store 45 (.tmp 0) (.tmp 1))=some (undef,Z')/\Dt Z' b s (d.setIfInBounds i.toNat x)/\Only (·=b) Z Z'/\Z'.low<=b:=by
 obtain ⟨h1,log,nx,h2⟩:=h;have hlt:i.toNat<d.size:=by omega
 have hw:wF Z ⟨b,0+i.toNat*3,s⟩ (zBC x)=some (Z.put b (.cells (zAY (d.setIfInBounds i.toNat x)) 3 [(s.getD 0,d.size*3)] nx false)):=by
  have e6:(zBC x).length=3:=rfl;have hc:(Nat.beq (s.getD 0) (s.getD 0) && Nat.ble (0+i.toNat*3+3) (d.size*3) && !false && (zBC x).all cellB)=true:=by
   rw [Nat.beq_refl,(zW _ _).2 (show 0+i.toNat*3+3<=d.size*3 by omega)];rfl
  unfold wF;simp only [h2,yD,e6,hc,cond_true,zEP,St.write_eq];have e:(zAY d).take (0+i.toNat*3)++(zBC x++(zAY d).drop (0+i.toNat*3+3))=zAY (d.setIfInBounds i.toNat x):=by
   rw [Nat.zero_add];unfold zAY;rw [Array.toList_setIfInBounds];exact yLC d.toList i.toNat x (by simpa using hlt)
  rw [e]
 refine ⟨Z.put b (.cells (zAY (d.setIfInBounds i.toNat x)) 3 [(s.getD 0,d.size*3)] nx false), ?_,⟨h1,[],nx, ?_⟩,Only.put (.inr rfl),by simp;omega⟩
 ·have e0:zQ Tryz.prog (evL [.pointer (some (zM ⟨b,0,s⟩ (Int.toNat i*3))),zFA x]) Z (.store 45 (.tmp 0) (.tmp 1))=(wF Z ⟨b,0+i.toNat*3,s⟩ (zBC x)).map fun Z'=>(undef,Z'):=by
   have e1:∀ l:List Value,evL l (.tmp 0)=l.getD 0 undef:=fun _=>rfl
   have e2:∀ l:List Value,evL l (.tmp 1)=l.getD 1 undef:=fun _=>rfl
   have e3:yV Tryz.prog 45=some 3:=yGH;unfold zQ;simp only [e1,e2,List.getD_cons_zero,List.getD_cons_succ,zHQ,e3];rfl
  rw [e0,hw];rfl
 ·rw [St.put_get,if_pos rfl,Array.size_setIfInBounds]
end
end Go.Proofs.YtgfiniccfpfplaaGreat
