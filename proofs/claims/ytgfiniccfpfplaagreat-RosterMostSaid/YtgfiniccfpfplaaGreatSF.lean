
import Derived.Test.YtgfiniccfpfplaaGreatRL
import Derived.Test.YtgfiniccfpfplaaGreatXN
import Derived.Test.YtgfiniccfpfplaaGreatXM
namespace Go.Proofs.YtgfiniccfpfplaaGreat
open Go Go.Lay
open Tryz renaming prog -> Pg
set_option linter.unusedVariables false
set_option linter.unusedSimpArgs false
set_option maxRecDepth 20000
section
variable {P:Program}
theorem pv_els {e sz d:Nat} {xs ys:Array Value} {R:Nat->Bool}:∀ (L:List Nat),(∀ i∈L,∃ a b,yA P (part e xs (i*sz))=some a/\yA P (part e ys (i*sz))=some b/\yA P (Op.equalIn d e a b)=some (R i)) ->
  yA P (forIn L ((none,()):Option Bool × Unit) fun i __s=>do
    let a <- part e xs (i*sz)
    let b <- part e ys (i*sz)
    let r <- Op.equalIn d e a b
    if (!r)=true then pure (ForInStep.done (some false,())) else pure (ForInStep.yield (none,())))=some (if ∀ i∈L,R i=true then (none,()) else (some false,()))
 | [],_=>by simp;rfl
 | i::L,h=>by
  obtain ⟨a,b,h1,h2,h3⟩:=h i List.mem_cons_self;rw [List.forIn_cons,xE,xE,h1];simp only [Option.bind_some];rw [xE,h2];simp only [Option.bind_some];rw [xE,h3];simp only [Option.bind_some];cases e1:R i with
  | true =>
   simp only [Bool.not_true,Bool.false_eq_true,if_false,zQI,Option.bind_some];rw [pv_els L (fun j hj=>h j (List.mem_cons_of_mem _ hj))];by_cases e2:∀ j∈L,R j=true
   ·rw [if_pos e2,if_pos (fun j hj=>by rcases List.mem_cons.1 hj with rfl | hj;exact e1;exact e2 j hj)]
   ·rw [if_neg e2,if_neg (fun h=>e2 fun j hj=>h j (List.mem_cons_of_mem _ hj))]
  | false =>
   simp only [Bool.not_false,if_true,zQI,Option.bind_some];rw [if_neg (fun h=>by rw [h i List.mem_cons_self] at e1;cases e1)]
theorem pv_arr {t e n sz d:Nat} (hu:P.underlying t=some (.array n e)) (hs:yA P (sizeOf e)=some sz) {xs ys:Array Value} {R:Nat->Bool} (h:∀ i,i<n->∃ a b,yA P (part e xs (i*sz))=some a/\yA P (part e ys (i*sz))=some b/\yA P (Op.equalIn d e a b)=some (R i)) :
  yA P (Op.equalIn (d+1) t (.agg xs) (.agg ys))=some ((List.range n).all R):=by
 have key:=pv_els (P:=P) (e:=e) (sz:=sz) (d:=d) (xs:=xs) (ys:=ys) (R:=R) (List.range' 0 n) (fun i hi=>h i (by simpa using hi));unfold Op.equalIn;rw [xE,zKM hu];simp only [Option.bind_some];rw [xE,hs];simp only [Option.bind_some];rw [xE,Std.Legacy.Range.forIn_eq_forIn_range'];simp only [Std.Legacy.Range.size,Nat.sub_zero,Nat.add_sub_cancel,Nat.div_one];rw [key];simp only [Option.bind_some];cases e:(List.range n).all R with
 | true=>rw [if_pos (fun i hi=>List.all_eq_true.1 e i (by simpa using hi))];rfl
 | false=>rw [if_neg (fun h=>by rw [List.all_eq_true.2 fun i hi=>h i (by simpa using hi)] at e;cases e)];rfl
theorem pv_two {t d : Nat} {f1 f2 : Field} (hu : P.underlying t = some (.struct #[f1, f2])) (hh : P.stoodInHeld t = false) (n1 : f1.name ≠ "_") (n2 : f2.name ≠ "_") {xs ys : Array Value} {a1 b1 a2 b2 : Value} {r1 r2 : Bool}
  (h1:yA P (part f1.type xs f1.offset)=some a1) (h2:yA P (part f1.type ys f1.offset)=some b1) (e1:yA P (Op.equalIn d f1.type a1 b1)=some r1)
  (h3:yA P (part f2.type xs f2.offset)=some a2) (h4:yA P (part f2.type ys f2.offset)=some b2) (e2:yA P (Op.equalIn d f2.type a2 b2)=some r2) :
  yA P (Op.equalIn (d+1) t (.agg xs) (.agg ys))=some (r1 && r2):=by
 unfold Op.equalIn;rw [xE,zKM hu];simp only [Option.bind_some];rw [xE,yGZ];simp only [Option.bind_some,hh,Bool.false_eq_true,if_false];rw [xE,<- Array.forIn_toList];show (yA P (forIn [f1,f2] _ _)).bind _=_;rw [List.forIn_cons,xE];simp only [if_pos n1];rw [xE,h1];simp only [Option.bind_some];rw [xE,h2];simp only [Option.bind_some];rw [xE,e1];simp only [Option.bind_some];cases r1 with
 | false=>rfl
 | true =>
  simp only [Bool.not_true,Bool.false_eq_true,if_false,zQI,Option.bind_some];rw [List.forIn_cons,xE];simp only [if_pos n2];rw [xE,h3];simp only [Option.bind_some];rw [xE,h4];simp only [Option.bind_some];rw [xE,e2];simp only [Option.bind_some];cases r2 <;> rfl
end
theorem pv_std (d:Nat) (s t:Std):yA Pg (Op.equalIn (d+2) 107 (zOA s) (zOA t))=some (decide (s=t)):=by
 have h:yA Pg (Op.equalIn (d+2) 107 (.agg ⟨[s.free,s.row,s.used,s.day].map fun x=>iV x⟩) (.agg ⟨[t.free,t.row,t.used,t.day].map fun x=>iV x⟩))=some (decide ([s.free,s.row,s.used,s.day]=[t.free,t.row,t.used,t.day])):=pv_rec (n:=4) (by kernel_rfl) rfl rfl;have e:decide ([s.free,s.row,s.used,s.day]=[t.free,t.row,t.used,t.day])=decide (s=t):=by
  refine decide_eq_decide.2 ?_
  cases s;cases t
  simp
 rw [<- e];exact h
theorem yLR (f:Nat->Std) {i:Nat} (hi:i<6):yA Pg (part 107 ⟨stL f⟩ (i*4))=some (zOA (f i)):=by
 match i,hi with
 | 0,_=>show _=_;kernel_rfl
 | 1,_=>show _=_;kernel_rfl
 | 2,_=>show _=_;kernel_rfl
 | 3,_=>show _=_;kernel_rfl
 | 4,_=>show _=_;kernel_rfl
 | 5,_=>show _=_;kernel_rfl
theorem pv_stands (d:Nat) (f g:Nat->Std):yA Pg (Op.equalIn (d+3) 109 (.agg ⟨stL f⟩) (.agg ⟨stL g⟩))=some ((List.range 6).all fun i=>decide (f i=g i)) :=
 pv_arr (P:=Pg) (t:=109) (e:=107) (n:=6) (sz:=4) (d:=d+2) (by kernel_rfl) (by kernel_rfl) (xs:=⟨stL f⟩) (ys:=⟨stL g⟩) (R:=fun i=>decide (f i=g i)) (fun i hi=>⟨_,_,yLR f hi,yLR g hi,pv_std d _ _⟩)
structure Key where
 day:Int
 l:List Std
 h:l.length=6
 deriving DecidableEq
def zIJ (k:Key) (i:Nat):Std:=k.l.getD i zVA
def yMX (k:Key):Value:=.agg ⟨iV k.day::stL (zIJ k)⟩
def zKW (D:Int) (f:Nat->Std):Key:=⟨D,(List.range 6).map f,by simp⟩
theorem zCC {D:Int} {f:Nat->Std} {i:Nat} (hi:i<6):zIJ (zKW D f) i=f i:=by
 unfold zIJ zKW;simp [hi]
theorem yHT (D:Int) (f:Nat->Std):yMX (zKW D f)=.agg ⟨iV D::stL f⟩:=by
 unfold yMX stL;rw [zCC (by omega),zCC (by omega),zCC (by omega),zCC (by omega),zCC (by omega),zCC (by omega)];rfl
theorem key_eq {a b:Key}:a=b↔a.day=b.day/\∀ i,i<6->zIJ a i=zIJ b i:=by
 constructor
 ·rintro rfl;exact ⟨rfl,fun _ _=>rfl⟩
 ·rintro ⟨h1,h2⟩;obtain ⟨d,l,hl⟩:=a;obtain ⟨e,m,hm⟩:=b;have:l=m:=by
   apply List.ext_getElem (by omega);intro i g1 g2;have:=h2 i (by omega);simpa [zIJ,g1,g2] using this
  subst this;simp only at h1;subst h1;rfl
theorem keyOf_eq {D E:Int} {f g:Nat->Std}:zKW D f=zKW E g↔D=E/\∀ i,i<6->f i=g i:=by
 rw [key_eq];refine and_congr_right fun _=>⟨fun h i hi=>?_,fun h i hi=>?_⟩
 ·have:=h i hi;rwa [zCC hi,zCC hi] at this
 ·rw [zCC hi,zCC hi];exact h i hi
theorem pv_state (a b:Key):yA Pg (Op.equal 133 (yMX a) (yMX b))=some (decide (a=b)):=by
 have e:decide (a=b)=((a.day == b.day) && (List.range 6).all fun i=>decide (zIJ a i=zIJ b i)):=by
  rw [Bool.eq_iff_iff,decide_eq_true_eq,Bool.and_eq_true,beq_iff_eq,zBK,key_eq];exact and_congr_right fun _=>⟨fun h i hi=>decide_eq_true (h i hi),fun h i hi=>of_decide_eq_true (h i hi)⟩
 rw [e];have hu : ∃ f1 f2 : Field, Pg.underlying 133 = some (.struct #[f1, f2]) ∧ f1.type = 3 ∧ f1.offset = 0 ∧ f1.name ≠ "_" ∧ f2.type = 109 ∧ f2.offset = 1 ∧ f2.name ≠ "_" := ⟨_, _, Tryz.underlying133, rfl, rfl, by decide, rfl, rfl, by decide⟩
 obtain ⟨f1,f2,hu,t1,o1,n1,t2,o2,n2⟩:=hu;refine pv_two (P:=Pg) (t:=133) (d:=9999) hu (by kernel_rfl) n1 n2 (xs:=⟨iV a.day::stL (zIJ a)⟩) (ys:=⟨iV b.day::stL (zIJ b)⟩)
  (a1:=iV a.day) (b1:=iV b.day) (a2:=.agg ⟨stL (zIJ a)⟩) (b2:=.agg ⟨stL (zIJ b)⟩) (r1:=a.day == b.day) (r2:=(List.range 6).all fun i=>decide (zIJ a i=zIJ b i)) ?_ ?_ ?_ ?_ ?_ ?_
 ·rw [t1,o1];kernel_rfl
 ·rw [t1,o1];kernel_rfl
 ·rw [t1];exact zHZ (d:=9998) (k:=.i64) (by kernel_rfl) _ _ _
 ·rw [t2,o2];kernel_rfl
 ·rw [t2,o2];kernel_rfl
 ·rw [t2];exact pv_stands 9996 _ _
theorem yBC:∀ (n:Nat) (xs:List Int),Instr.sameBits (n+2) (.agg ⟨xs.map yB⟩) (.agg ⟨xs.map yB⟩)=true:=by
 intro n xs;simp [Instr.sameBits];intro x y hxy;have key:∀ (m:List Int),(x,y)∈(m.map yB).zip (m.map yB)->∃ c,x=yB c/\y=yB c:=by
  intro m;induction m with
  | nil=>intro h;cases h
  | cons c m ih =>
   intro h;simp only [List.map_cons,List.zip_cons_cons,List.mem_cons,Prod.mk.injEq] at h;rcases h with h | h
   ·exact ⟨c,h.1,h.2⟩
   ·exact ih h
 obtain ⟨c,rfl,rfl⟩:=key xs hxy;simp [Instr.sameBits]
def keyI (k:Key):List Int:=k.day::(List.range 6).flatMap fun i=>[(zIJ k i).free,(zIJ k i).row,(zIJ k i).used,(zIJ k i).day]
theorem zEM:KeyT Pg 133 yMX:=by
 refine ⟨pv_state,fun e a=>?_,fun a=>?_⟩
 ·have h:∀ (e:Bool) (D:Int) (f:Nat->Std),zJN Pg e 133 (.agg ⟨iV D::stL f⟩)=true:=fun e D f=>by kernel_rfl
  exact h e a.day (zIJ a)
 ·have:yMX a=.agg ⟨(keyI a).map yB⟩:=rfl;rw [this];exact yBC 9998 _
theorem mapE:zEI Pg 126=some (133,130):=by kernel_rfl
def six (v:List Int):List Value:=wO 6 fun i=>v.getD i 0
theorem uZ (v:List Int):six v=zH (v.getD 0 0) (v.getD 1 0) (v.getD 2 0) (v.getD 3 0) (v.getD 4 0) (v.getD 5 0):=rfl
section
variable {Z:St}
theorem six_idx {f:Nat->Int} {i:Nat} (hi:i<6):zAD Pg 98 (.agg ⟨wO 6 f⟩) (iV (i:Int))=some (iV (f i)):=by
 match i,hi with
 | 0,_=>show _=_;kernel_rfl
 | 1,_=>show _=_;kernel_rfl
 | 2,_=>show _=_;kernel_rfl
 | 3,_=>show _=_;kernel_rfl
 | 4,_=>show _=_;kernel_rfl
 | 5,_=>show _=_;kernel_rfl
theorem vec_ld {b i:Nat} {f:Nat->Int} (o:Own Z b (wO 6 f) 1) (hi:i<6):zB Pg Z 3 ⟨b,0+Int.toNat (i:Int)*1,none⟩=some (iV (f i)):=by
 have:=o.ldI (P:=Pg) (t:=3) (i:=i) zS (zWL hi);simpa [zM] using this
theorem vec_st {b i:Nat} {f:Nat->Int} {x:Int} (o:Own Z b (wO 6 f) 1) (hi:i<6):zQ Pg (evL [.pointer (some ⟨b,0+Int.toNat (i:Int)*1,none⟩),iV x]) Z (.store 3 (.tmp 0) (.tmp 1))=some (undef,Z.own b (wO 6 fun s=>if s=i then x else f s) 1):=by
 have:=o.stI (P:=Pg) (t:=3) (v:=iV x) (i:=i) rfl vG rfl (by rw [zAR];exact hi);rw [vecL_set hi] at this;simpa [zM] using this
theorem zHP {b:Nat} {f:Nat->Int} (o:Own Z b (wO 6 f) 1):zB Pg Z 98 ⟨b,0,none⟩=some (.agg ⟨wO 6 f⟩):=o.ldN (k:=0) zCS xX (ds:=wO 6 f) rfl rfl (by rw [zAR];decide)
theorem yXI {b:Nat} {f g:Nat->Int} (o:Own Z b (wO 6 f) 1):zQ Pg (evL [.pointer (some ⟨b,0,none⟩),.agg ⟨wO 6 g⟩]) Z (.store 98 (.tmp 0) (.tmp 1))=some (undef,Z.own b (wO 6 g) 1) :=
 o.store (k:=0) (vs:=wO 6 g) rfl xX (by simp [wO];intro x _;rfl) (by rw [zAR,zAR];decide) (by simp [zAR,List.drop_eq_nil_of_le])
theorem plusL_get {a b:List Int} {i:Nat} (ha:a.length=6) (hb:b.length=6) (hi:i<6):(vB a b).getD i 0=a.getD i 0+b.getD i 0:=by
 unfold vB;rw [List.getD_eq_getElem?_getD,List.getD_eq_getElem?_getD,List.getD_eq_getElem?_getD,List.getElem?_zipWith,List.getElem?_eq_getElem (by omega:i<a.length),List.getElem?_eq_getElem (by omega:i<b.length)];rfl
def Bd (n:Int) (v:List Int):Prop:=∀ x∈v,0<=x/\x<=n
theorem Bd.get {n:Int} {v:List Int} (h:Bd n v) (hn:0<=n) (i:Nat):0<=v.getD i 0/\v.getD i 0<=n:=by
 rw [List.getD_eq_getElem?_getD];cases hx:v[i]? with
 | none=>exact ⟨Int.le_refl _,hn⟩
 | some x=>exact h x (List.mem_of_getElem? hx)
theorem plus_c {a b:List Int} (ha:a.length=6) (hb:b.length=6) (h1:Bd 1000000 a) (h2:Bd 1000000 b):zD Pg 102 [.agg ⟨six a⟩,.agg ⟨six b⟩] Z (.agg ⟨six (vB a b)⟩) Z:=by
 obtain ⟨τ0,hτ0⟩:∃ τ0,τ0=((Z.re.row (six a) 1).row (six b) 1).row (zH 0 0 0 0 0 0) 1:=⟨_,rfl⟩;have N0:New Z.re τ0:=by rw [hτ0];exact ((New.row _ _ _).row').row'
 have o1:Own τ0 Z.next (six a) 1:=by rw [hτ0];exact (zC Z.re (six a) 1).row.row
 have o2:Own τ0 (Z.next+1) (six b) 1:=by rw [hτ0];exact (zC (Z.re.row (six a) 1) (six b) 1).row
 have o3:Own τ0 (Z.next+2) (wO 6 fun _=>0) 1:=by rw [hτ0];exact zC ((Z.re.row (six a) 1).row (six b) 1) (zH 0 0 0 0 0 0) 1
 have l1:=zHP o2;rw [hτ0] at l1;refine (gplus_ra l1 (yNR (Inv:=fun k i τ=>New Z.re τ/\∃ j:Nat,i=j/\j+k=6/\Own τ Z.next (wO 6 fun s=>if s<j then a.getD s 0+b.getD s 0 else a.getD s 0) 1/\Own τ (Z.next+2) (wO 6 fun _=>0) 1)
  (Q0:=fun τ=>New Z.re τ/\Own τ Z.next (six (vB a b)) 1/\Own τ (Z.next+2) (wO 6 fun _=>0) 1) ?_ 6 0 _ ⟨by rw [<- hτ0];exact N0,0,rfl,rfl,by rw [<- hτ0];exact o1,by rw [<- hτ0];exact o3⟩) ?_).pure
 ·rintro k i τ ⟨hN,j,rfl,hk,w1,w2⟩;by_cases hj:j<6
  ·have hid:=six_idx (f:=fun i=>b.getD i 0) hj;have hl:=vec_ld w1 hj;rw [if_neg (by omega)] at hl;have b1:=h1.get (by decide) j;have b2:=h2.get (by decide) j;have st:=vec_st (x:=a.getD j 0+b.getD j 0) w1 hj;have hlt:=w2.lt;refine gplus_s1a hid hl st ⟨k-1,by omega,hN.own (by show Z.next<=Z.next;omega),j+1,by omega,by omega, ?_,w2.own (by omega)⟩ (by omega) (by omega) (by omega) (by omega);have e:(wO 6 fun s=>if s=j then a.getD j 0+b.getD j 0 else if s<j then a.getD s 0+b.getD s 0 else a.getD s 0)=wO 6 fun s=>if s<j+1 then a.getD s 0+b.getD s 0 else a.getD s 0:=by
    refine zDY fun s hs=>?_
    by_cases e1:s=j
    ·subst e1;rw [if_pos rfl,if_pos (by omega)]
    ·rw [if_neg e1];by_cases e2:s<j
     ·rw [if_pos e2,if_pos (by omega)]
     ·rw [if_neg e2,if_neg (by omega)]
   rw [<- e];exact w1.put
  ·have:j=6:=by omega
   subst this;refine gplus_s1b ⟨hN, ?_,w2⟩ (by omega);have e:(wO 6 fun s=>if s<6 then a.getD s 0+b.getD s 0 else a.getD s 0)=six (vB a b):=by
    refine zDY fun s hs=>?_
    rw [if_pos hs,plusL_get ha hb hs]
   rw [<- e];exact w1
 ·rintro τ ⟨hN,w1,w2⟩;exact yNQ (zHP w1) (yXI w2) (zHP w2.put) ⟨rfl,(hN.own (b:=Z.next+2) (n:=1) (cs:=six (vB a b)) (by show Z.next<=Z.next+2;omega)).lw⟩
theorem yDR {x:Int}:zD Pg 132 [iV x] Z (.bool false) Z:=(isNaN_rb ⟨rfl,Nat.le_refl _⟩ rfl).pure
theorem cmpI_c {x y:Int}:zD Pg 129 [iV x,iV y] Z (iV (if x<y then -1 else if y<x then 1 else 0)) Z:=by
 by_cases h1:x<y
 ·rw [if_pos h1];exact (cmpI_rd yDR yDR ⟨rfl,Nat.le_refl _⟩ h1).pure
 ·rw [if_neg h1];by_cases h2:y<x
  ·rw [if_pos h2];exact (cmpI_re yDR yDR ⟨rfl,Nat.le_refl _⟩ h1 h2).pure
  ·rw [if_neg h2];exact (cmpI_rf yDR yDR ⟨rfl,Nat.le_refl _⟩ h1 h2).pure
def zRE:List Int->List Int->Int
 | a::l,b::m=>if a<b then -1 else if b<a then 1 else zRE l m
 | _,_=>0
theorem zSO:∀ {a b:List Int},(0<zRE a b↔wS a b=true)
 | [],b=>by simp [zRE,wS]
 | a::l,[]=>by simp [zRE,wS]
 | a::l,b::m=>by
  unfold zRE wS;by_cases h1:a<b
  ·rw [if_pos h1,if_neg (by omega),decide_eq_false (by omega)];simp
  ·rw [if_neg h1];by_cases h2:b<a
   ·rw [if_pos h2,if_neg (by omega),decide_eq_true h2];simp
   ·rw [if_neg h2,if_pos (by omega)];exact zSO
theorem cmpL_drop {a b:List Int} {j:Nat} {x y:Int} (hx:a[j]?=some x) (hy:b[j]?=some y):zRE (a.drop j) (b.drop j)=if x<y then -1 else if y<x then 1 else zRE (a.drop (j+1)) (b.drop (j+1)):=by
 obtain ⟨h1,rfl⟩:=List.getElem?_eq_some_iff.1 hx;obtain ⟨h2,rfl⟩:=List.getElem?_eq_some_iff.1 hy;rw [List.drop_eq_getElem_cons h1,List.drop_eq_getElem_cons h2,zRE]
theorem compare_c {p q:Option Addr} {l c d:Nat} {a b:List Int} (h1:yG Z p l a) (h2:yG Z q l b) (hl:l<=1000):zD Pg 119 [.slice p l c,.slice q l d] Z (iV (zRE a b)) Z:=by
 have e1:=h1.len;have e2:=h2.len;have h1:=h1.re;have h2:=h2.re;refine (yVD (yBP (Inv:=fun k i τ=>τ=Z.re/\∃ j:Nat,i=j/\j+k=l/\zRE a b=zRE (a.drop j) (b.drop j)) (Qr:=fun x τ=>τ=Z.re/\x=zRE a b) (Q0:=fun τ=>τ=Z.re/\zRE a b=0) ?_ l 0 Z.re ⟨rfl,0,rfl,by omega,rfl⟩) ?_ ?_).pure
 ·rintro k i τ ⟨rfl,j,rfl,hk,he⟩;by_cases hj:j<l
  ·obtain ⟨a1,rfl,x,hx,l1⟩:=vF h1 hj;obtain ⟨a2,rfl,y,hy,l2⟩:=vF h2 hj;have hd:=cmpL_drop hx hy;have cc:=cmpI_c (Z:=Z.re) (x:=x) (y:=y);by_cases g1:x<y
   ·rw [if_pos g1] at cc hd;exact zUL l1 l2 cc ⟨rfl,by rw [he,hd]⟩ (by omega) (by omega) (by omega) (by omega) (by omega)
   ·rw [if_neg g1] at cc hd;by_cases g2:y<x
    ·rw [if_pos g2] at cc hd;exact zUL l1 l2 cc ⟨rfl,by rw [he,hd]⟩ (by omega) (by omega) (by omega) (by omega) (by omega)
    ·rw [if_neg g2] at cc hd;exact yOS l1 l2 cc ⟨k-1,by omega,rfl,j+1,by omega,by omega,by rw [he,hd]⟩ (by omega) (by omega) (by omega) (by omega) (by omega) (by omega)
  ·refine yOR ⟨rfl, ?_⟩ (by omega);rw [he,List.drop_eq_nil_of_le (by omega)];rfl
 ·rintro x τ ⟨rfl,rfl⟩;exact yBN ⟨rfl,Nat.le_refl _⟩
 ·rintro τ ⟨rfl,e⟩;exact yBO ⟨by rw [e],Nat.le_refl _⟩ (by omega)
theorem neq98 {a b:List Int} (ha:a.length=6) (hb:b.length=6) {o1 o2:Operand}:zBX Pg .neq 98 o1 o2 (.agg ⟨six a⟩) (.agg ⟨six b⟩)=some (.bool (!decide (a=b))):=by
 have e:∀ (f g:Nat->Int),zBX Pg .neq 98 o1 o2 (.agg ⟨wO 6 f⟩) (.agg ⟨wO 6 g⟩)=(yA Pg (do eqGuard .neq 98 o1 o2 (.agg ⟨wO 6 f⟩) (.agg ⟨wO 6 g⟩);binOp .neq 98 (.agg ⟨wO 6 f⟩) (.agg ⟨wO 6 g⟩))).filter (zV RD):=fun _ _=>by kernel_rfl
 have e1:∀ (f g:Nat->Int),yA Pg (eqGuard .neq 98 o1 o2 (.agg ⟨wO 6 f⟩) (.agg ⟨wO 6 g⟩))=some ():=fun _ _=>by kernel_rfl
 have e2:∀ x y:List Value,binOp .neq 98 (.agg ⟨x⟩) (.agg ⟨y⟩)=(do let r <- Op.equal 98 (.agg ⟨x⟩) (.agg ⟨y⟩);pure (.bool (!r))):=fun _ _=>rfl
 have hp:∀ (f:Nat->Int) {i:Nat},i<6->yA Pg (part 3 ⟨wO 6 f⟩ (i*1))=some (iV (f i)):=by
  intro f i hi;match i,hi with
  | 0,_=>show _=_;kernel_rfl
  | 1,_=>show _=_;kernel_rfl
  | 2,_=>show _=_;kernel_rfl
  | 3,_=>show _=_;kernel_rfl
  | 4,_=>show _=_;kernel_rfl
  | 5,_=>show _=_;kernel_rfl
 have h:=pv_arr (P:=Pg) (t:=98) (e:=3) (n:=6) (sz:=1) (d:=9999) (by kernel_rfl) (by kernel_rfl) (xs:=⟨six a⟩) (ys:=⟨six b⟩) (R:=fun i=>a.getD i 0 == b.getD i 0) (fun i hi=>⟨_,_,hp _ hi,hp _ hi,zHZ (d:=9998) (k:=.i64) (by kernel_rfl) _ _ _⟩);have e3:((List.range 6).all fun i=>a.getD i 0 == b.getD i 0)=decide (a=b):=by
  rw [Bool.eq_iff_iff,decide_eq_true_eq,zBK];refine ⟨fun h=>?_,fun h i hi=>by rw [h];simp⟩
  apply List.ext_getElem (by omega);intro i g1 g2;have:=h i (by omega);rw [beq_iff_eq,List.getD_eq_getElem?_getD,List.getD_eq_getElem?_getD,List.getElem?_eq_getElem g1,List.getElem?_eq_getElem g2] at this;exact this
 rw [e3] at h;have h:yA Pg (Op.equal 98 (.agg ⟨six a⟩) (.agg ⟨six b⟩))=some (decide (a=b)):=h;unfold six at h ⊢;rw [e,xE,e1];simp only [Option.bind_some];rw [e2,xE,h];rfl
theorem slice6 {b:Nat} {v:List Int} (o:Own Z b (six v) 1):vQ Pg Z 98 (.pointer (some ⟨b,0,none⟩)) none none none=some (.slice (some ⟨b,0,none⟩) 6 6):=by
 have hu:Pg.underlying 98=some (.array 6 3):=by kernel_rfl
 have ha:zUU Z ⟨b,0,none⟩ (6*1) 1=true:=by unfold zUU;simp only [o.get];rfl
 unfold vQ;simp only [hu,vG,ha,cond_true];rfl
theorem yKG {b:Nat} {v:List Int} (hv:v.length=6) (o:Own Z b (six v) 1):yG Z (some ⟨b,0,none⟩) 6 v:=by
 have e:six v=v.map yB:=by
  apply List.ext_getElem (by rw [six,zAR,List.length_map,hv]);intro i g1 g2;have g3:i<v.length:=by simpa using g2
  simp [six,wO,g3]
 refine ⟨?_,by simpa using hv,fun x hx=>?_⟩
 ·rw [zDN v .i64,<- e];exact ⟨rfl,o.rw⟩
 ·obtain ⟨x,_,rfl⟩:=List.mem_map.1 hx;exact zAX x
theorem more_c {a b:List Int} (ha:a.length=6) (hb:b.length=6):zD Pg 103 [.agg ⟨six a⟩,.agg ⟨six b⟩] Z (.bool (wS a b)) Z:=by
 obtain ⟨τ0,hτ0⟩:∃ τ0,τ0=(Z.re.row (six a) 1).row (six b) 1:=⟨_,rfl⟩;have o1:Own τ0 Z.next (six a) 1:=by rw [hτ0];exact (zC Z.re (six a) 1).row
 have o2:Own τ0 (Z.next+1) (six b) 1:=by rw [hτ0];exact zC (Z.re.row (six a) 1) (six b) 1
 have hne:=neq98 ha hb (o1:=.tmp 5) (o2:=.tmp 6);have l1:=zHP o1;have l2:=zHP o2;have hlow:Z.next<=τ0.low:=by rw [hτ0];exact Nat.le_refl _
 have s1:=slice6 o1;have s2:=slice6 o2;have cc:=compare_c (c:=6) (d:=6) (yKG ha o1) (yKG hb o2) (by omega);rw [hτ0] at l1 l2 hlow s1 s2 cc;by_cases e:a=b
 ·rw [decide_eq_true e] at hne;have:wS a b=false:=by rw [e];exact zIE b
  rw [this];exact (gmore_rc l1 l2 hne ⟨rfl,hlow⟩).pure
 ·rw [decide_eq_false e] at hne;by_cases h:0<zRE a b
  ·rw [zSO.1 h];exact (gmore_ra l1 l2 hne s1 s2 cc ⟨rfl,hlow⟩ h).pure
  ·have:wS a b=false:=by rw [<- Bool.not_eq_true];exact fun k=>h (zSO.2 k)
   rw [this];exact (gmore_rb l1 l2 hne s1 s2 cc ⟨rfl,hlow⟩ h).pure
theorem max_see {a b:Int} {Z:St}:xL Pg (evL [iV a,iV b]) Z (.call { callee:=.builtin .max,args:=⟨wU 2⟩,argTypes:=⟨[3,3]⟩ })=some (iV (max a b)):=by
 have e:yA Pg (Builtin.max_ ⟨[3,3]⟩ 0 ⟨[iV a,iV b]⟩)=some (iV (max a b)):=by
  rw [show max a b=if a<b then b else a by split <;> omega];simp only [Builtin.max_,List.foldlM,Builtin.max2];rfl
 have e2:xL Pg (evL [iV a,iV b]) Z (.call { callee:=.builtin .max,args:=⟨wU 2⟩,argTypes:=⟨[3,3]⟩ }) =
   match ((yA Pg (Builtin.max_ ⟨[3,3]⟩ 0 ⟨[iV a,iV b]⟩)).filter (zV RD)) with | some v=>some v | none=>xK Pg (evL [iV a,iV b]) Z (.call { callee:=.builtin .max,args:=⟨wU 2⟩,argTypes:=⟨[3,3]⟩ }):=rfl
 rw [e2,e];rfl
theorem latest_c {b c:Nat} {x y:Int} (h:Row Z ⟨b,0,none⟩ [iV x,iV y]):zD Pg 118 [.slice (some ⟨b,0,none⟩) 2 c] Z (iV (max x y)) Z:=by
 have key:∀ w:St,Row w ⟨b,0,none⟩ [iV x,iV y]->zD Pg 128 [.slice (some ⟨b,0,none⟩) 2 c] w (iV (max x y)) w:=fun w hw=>by
  refine zO.pure ?_
  have h0:=hw.le (le0 w);have l0:zB Pg w.re 3 ⟨b,0,none⟩=some (iV x):=by simpa [zM] using h0.load1 (t:=3) zS (k:=0) rfl
  have l1:zB Pg w.re 3 (zM ⟨b,0,none⟩ (Int.toNat ((1:Nat):Int)*1))=some (iV y):=h0.load1 (t:=3) zS (k:=1) rfl;refine smax_ra (P0:=fun n τ=>τ=w.re/\n=max x y) l0 (yQQ (Inv:=fun k n i τ=>∃ s:Nat,i=s/\s+k=2/\τ=w.re/\((s=1/\n=x)\/(s=2/\n=max x y))) ?_ 1 x 1 w.re ⟨1,rfl,rfl,rfl,.inl ⟨rfl,rfl⟩⟩) (fun n τ h=>yQP ⟨by rw [h.2],by rw [h.1];exact Nat.le_refl _⟩) (by omega) (by omega);rintro k n i τ ⟨s,rfl,hk,rfl,⟨rfl,rfl⟩ | ⟨rfl,rfl⟩⟩
  ·exact smax_s1a l1 max_see ⟨k-1,by omega,2,rfl,by omega,rfl,.inr ⟨rfl,rfl⟩⟩ (by omega) (by omega) (by omega)
  ·exact smax_s1b ⟨rfl,rfl⟩ (by omega)
 refine zO.pure ?_
 exact latest_ra (key _ (h.le (le0 Z))) ⟨rfl,Nat.le_refl _⟩
end
end Go.Proofs.YtgfiniccfpfplaaGreat
