
import Derived.Test.YtgfiniccfpfplaaGreatSA
import Derived.Test.YtgfiniccfpfplaaGreatSH
import Derived.Test.YtgfiniccfpfplaaGreatXL
import Derived.Test.YtgfiniccfpfplaaGreatRI
import Derived.Test.YtgfiniccfpfplaaGreatSK
namespace Go.Proofs.YtgfiniccfpfplaaGreat
open Go Go.Lay
open Tryz renaming prog → Pg
set_option linter.unusedVariables false
set_option linter.unusedSimpArgs false
set_option maxRecDepth 20000
section
variable {z:St} {w:Wk} {p q:Option Addr} {l m c d:Nat}
def yTS (w:Wk):Bool:=zHD w && (decide (xM w≠0) || (decide (w.duties.length≤5) && decide (w.drivers.length≤3) || decide (w.duties.length≤4) && decide (w.drivers.length≤4)))
theorem Few_c (h:WkP z 92 76 w p l q m):zE Pg 24 [.agg ⟨wkc w.days p l c q m d w.rest w.run w.hours⟩] z (.bool (yTS w)) z:=by
 have hln:=h.len.1
 have hm:=h.len.2
 have L1:=(le0 z).trans (Le.row z.re (wkc w.days p l c q m d w.rest w.run w.hours) 6)
 have k1:=Thin_c (c:=c) (d:=d) (h.le L1)
 unfold yTS
 cases b0:zHD w with
 | false =>
  rw [b0] at k1
  exact (Few_ri k1 ⟨rfl,Nat.le_refl _⟩).pure
 | true =>
 rw [b0] at k1
 obtain ⟨hsh,h15,h9⟩:=zUI b0
 have k2:=yGO (c:=c) (d:=d) (h.le L1) hsh
 by_cases hf:xM w=0
 rotate_left
 ·exact (Few_ra k1 k2 ⟨by simp [hf],Nat.le_refl _⟩ hf).pure
 by_cases g5:l≤5
 ·by_cases g3:m≤3
  ·exact (Few_rb k1 k2 ⟨by simp [hf,hln,hm,g5,g3],Nat.le_refl _⟩ hf (by omega) (by omega)).pure
  ·by_cases g4:l≤4
   ·by_cases g6:m≤4
    ·exact (Few_rc k1 k2 ⟨by simp [hf,hln,hm,g4,g6],Nat.le_refl _⟩ hf (by omega) (by omega) (by omega) (by omega)).pure
    ·exact (Few_rd k1 k2 ⟨by simp [hf,hln,hm,g3,g6],Nat.le_refl _⟩ hf (by omega) (by omega) (by omega) (by omega)).pure
   ·exact (Few_re k1 k2 ⟨by simp [hf,hln,hm,g3,g4],Nat.le_refl _⟩ hf (by omega) (by omega) (by omega)).pure
 ·exact (Few_rh k1 k2 ⟨by simp [hf,hln,hm,g5];omega,Nat.le_refl _⟩ hf (by omega) (by omega)).pure
theorem yAY (h:yTS w=true) (hf:xM w=0):zHD w=true∧(w.duties.length≤5∧w.drivers.length≤3∨w.duties.length≤4∧w.drivers.length≤4):=by
 unfold yTS at h
 simpa [hf] using h
def legB (w:Wk) (m:Nat) (bs:List Int):Bool:=decide (zEC w (zV bs) (zV (zCX w)) m=[])
def zIC (w:Wk) (m:Nat):Nat→List Int→List (List Int)
 | 0,bs=>if legB w m bs then [bs] else []
 | r+1,bs=>(List.range (m+1)).flatMap fun k:Nat=>zIC w m r (bs++[(k:Int)-1])
theorem zOK {α β:Type} {f:α→List β} {N:Nat}:∀ {xs:List α},(∀ x∈xs,(f x).length≤N)→(xs.flatMap f).length≤xs.length*N
 | [],_=>by simp
 | x::xs,h=>by
  have h1:=h x List.mem_cons_self
  have h2:=zOK (f:=f) (fun y hy=>h y (List.mem_cons_of_mem _ hy))
  rw [List.flatMap_cons,List.length_append,List.length_cons,Nat.add_mul,Nat.one_mul];omega
theorem zQN:∀ {r:Nat} {bs:List Int},(zIC w m r bs).length≤(m+1) ^ r
 | 0,bs=>by unfold zIC;split <;> simp
 | r+1,bs=>by
  unfold zIC
  have:=zOK (f:=fun k:Nat=>zIC w m r (bs++[(k:Int)-1])) (N:=(m+1) ^ r) (xs:=List.range (m+1)) (fun k _=>zQN)
  rw [List.length_range] at this
  rw [Nat.pow_succ,Nat.mul_comm];exact this
theorem zXC:∀ {r:Nat} {bs x:List Int},x∈zIC w m r bs↔∃ a,a.length=r∧x=bs++a∧(∀ y∈a, -1≤y∧y<(m:Int))∧legB w m x=true
 | 0,bs,x=>by
  unfold zIC
  constructor
  ·intro h
   split at h
   ·rename_i hl
    have:=List.mem_singleton.1 h
    subst this
    exact ⟨[],rfl,by simp,(fun y hy=>by cases hy),hl⟩
   ·cases h
  ·rintro ⟨a,h1,h2,h3,h4⟩
   have:=List.eq_nil_of_length_eq_zero h1
   subst this
   rw [List.append_nil] at h2
   subst h2
   rw [if_pos h4];simp
 | r+1,bs,x=>by
  unfold zIC
  rw [List.mem_flatMap]
  constructor
  ·rintro ⟨k,hk,h⟩
   obtain ⟨a,h1,h2,h3,h4⟩:=zXC.1 h
   have hk:=List.mem_range.1 hk
   refine ⟨((k:Int)-1)::a,by simp [h1],by rw [h2];simp,fun y hy=>?_,h4⟩
   rcases List.mem_cons.1 hy with rfl | hy
   ·omega
   ·exact h3 y hy
  ·rintro ⟨a,h1,h2,h3,h4⟩
   cases a with
   | nil=>simp at h1
   | cons y a =>
    have hy:=h3 y List.mem_cons_self
    refine ⟨(y+1).toNat,List.mem_range.2 (by omega),zXC.2 ⟨a,by simpa using h1, ?_,fun u hu=>h3 u (List.mem_cons_of_mem _ hu),h4⟩⟩
    rw [h2,show (((y+1).toNat:Nat):Int)-1=y by omega];simp
def zBL (σ:St) (G:Nat→Prop) (vs:List Value) (rs:List (List Int)):Prop:=vs.length=rs.length∧∀ (i:Nat) (r:List Int),rs[i]?=some r→∃ q c,vs[i]?=some (Value.slice q r.length c)∧yI σ q r.length r∧∀ b,AtP q b→G b
def zLZ (σ:St) (n0:Nat) (p:Option Addr) (l:Nat) (rs:List (List Int)):Prop:=∃ vs:List Value,SlV Pg σ 26 1 p l vs∧zBL σ (fun b=>n0≤b) vs rs
section
variable {σ σ':St} {G G':Nat→Prop} {vs us:List Value} {rs ts:List (List Int)}
theorem zBL.le (h:zBL σ G vs rs) (k:Le σ σ'):zBL σ' G vs rs:=⟨h.1,fun i r hi=>by
 obtain ⟨q,c,h1,h2,h3⟩:=h.2 i r hi
 exact ⟨q,c,h1,SlV.le h2 k,h3⟩⟩
theorem zBL.lt (h:zBL σ G vs rs):zBL σ (fun b=>G b∧b<σ.next) vs rs:=⟨h.1,fun i r hi=>by
 obtain ⟨q,c,h1,h2,h3⟩:=h.2 i r hi
 exact ⟨q,c,h1,h2,fun b hb=>⟨h3 b hb,by obtain ⟨a,rfl,rfl⟩:=hb;exact (show Row σ a _ from h2.1.2).lt⟩⟩⟩
theorem zBL.only {S:Nat→Prop} (h:zBL σ G vs rs) (k:Only S σ σ') (hS:∀ b,G b→¬ S b):zBL σ' G vs rs:=⟨h.1,fun i r hi=>by
 obtain ⟨q,c,h1,h2,h3⟩:=h.2 i r hi
 exact ⟨q,c,h1,k.slv' h2 (fun a e hs=>hS _ (h3 _ ⟨a,e,rfl⟩) hs),h3⟩⟩
theorem zBL.mono (h:zBL σ G vs rs) (k:∀ b,G b→G' b):zBL σ G' vs rs:=⟨h.1,fun i r hi=>by
 obtain ⟨q,c,h1,h2,h3⟩:=h.2 i r hi
 exact ⟨q,c,h1,h2,fun b hb=>k b (h3 b hb)⟩⟩
theorem zBL.append (h:zBL σ G vs rs) (k:zBL σ G us ts):zBL σ G (vs++us) (rs++ts):=⟨by simp [h.1,k.1],fun i r hi=>by
 by_cases hl:i<rs.length
 ·rw [List.getElem?_append_left hl] at hi
  rw [List.getElem?_append_left (by rw [h.1];exact hl)]
  exact h.2 i r hi
 ·rw [List.getElem?_append_right (by omega)] at hi
  rw [List.getElem?_append_right (by rw [h.1];omega),h.1]
  exact k.2 _ r hi⟩
theorem zLZ.le {n0:Nat} {p:Option Addr} {l:Nat} (h:zLZ σ n0 p l rs) (k:Le σ σ'):zLZ σ' n0 p l rs:=by
 obtain ⟨vs,h1,h2⟩:=h
 exact ⟨vs,SlV.le h1 k,h2.le k⟩
theorem zLZ.rowsI {n0:Nat} {p:Option Addr} {l:Nat} (h:zLZ σ n0 p l rs):zNQ σ p l rs:=by
 obtain ⟨vs,h1,h2,h3⟩:=h
 exact ⟨vs,h1,by have:=h1.2.1;omega,fun i r hi=>by obtain ⟨q,c,g1,g2,_⟩:=h3 i r hi;exact ⟨q,c,g1,g2⟩⟩
end
theorem yUP:AppT Pg 50 50 26 1:=zJT (by kernel_rfl)
theorem yYR {q:Option Addr} {l c:Nat}:zGY Pg 26 1 (.slice q l c):=.inl ⟨yV,rfl,rfl⟩
def RosC (w:Wk) (l m c d:Nat) (p q:Option Addr) (r:Nat):Prop:=∀ {z:St} {bs:List Int} {pb:Option Addr} {cb:Nat},WkP z 92 76 w p l q m→bs.length+r=l→yI z pb bs.length bs →
 ∃ p' l' c' z',zE Pg 26 [.agg ⟨wkc w.days p l c q m d w.rest w.run w.hours⟩,.slice pb bs.length cb] z (.slice p' l' c') z'∧New z z'∧zLZ z' z.next p' l' (zIC w m r bs)
theorem yPT {z:St} {f:FuncId} {args:List Value} {rs:List (List Int)} (h:zQ Pg f args z.re fun v s=>New z.re s∧∃ p' l' c',v=.slice p' l' c'∧zLZ s z.next p' l' rs):∃ p' l' c' z',zE Pg f args z (.slice p' l' c') z'∧New z z'∧zLZ z' z.next p' l' rs:=by
 obtain ⟨v,z',h1,h2,p',l',c',rfl,h3⟩:=zQ.new h (by
  rintro v s s' ⟨p',l',c',e,g⟩ hl
  exact ⟨p',l',c',e,g.le hl⟩) (by
  rintro v s hr ⟨p',l',c',rfl,vs,g1,g2,g3⟩
  cases p' with
  | some a=>exact Bool.noConfusion (show false=true from hr)
  | none =>
   have hl:l'=0:=g1.1.2
   have hv:vs=[]:=List.eq_nil_of_length_eq_zero (by have:=g1.2.1;omega)
   subst hv
   have hrs:rs=[]:=List.eq_nil_of_length_eq_zero g2.symm
   subst hrs
   exact ⟨none,l',c',rfl,[],zKM g1,rfl,fun i r hi=>by simp at hi⟩)
 exact ⟨p',l',c',z',h1,h2,h3⟩
theorem yCB (hs:Sane w l m):RosC w l m c d p q 0:=by
 intro z bs pb cb h hl hi
 obtain ⟨t1,ht1⟩:∃ t1,t1=z.re.row (wkc w.days p l c q m d w.rest w.run w.hours) 6:=⟨_,rfl⟩
 have M1:New z.re t1:=by rw [ht1];exact New.row _ _ _
 have L1:=(le0 z).trans M1.le
 have hbl:l=bs.length:=by omega
 subst hbl
 have hl12:=hs.l12
 have k1:=yGF (c:=c) (d:=d) (rc:=cb) (h.le L1) hs (SlV.le hi L1)
 unfold zIC legB
 refine yPT ?_
 by_cases hb:zEC w (zV bs) (zV (zCX w)) m=[]
 ·rw [decide_eq_true hb] at k1
  rw [if_pos (decide_eq_true hb)]
  obtain ⟨t2,ht2⟩:∃ t2,t2=t1.row [] 1:=⟨_,rfl⟩
  have M2:New t1 t2:=by rw [ht2];exact New.row _ _ _
  have hc:(vJ (bs.map yC)).all cellB=true:=by rw [zFF bs .i64];simp [List.all_eq_true];intro a _;rfl
  obtain ⟨p6,c6,s5,ap1,A6,O6,b6⟩:=Ax.append (P:=Pg) (k:=cb) (n0:=t1.next) zDS (Ax.lit (len:=0) (zC t1 [] 1) rfl ((yY 0).2 uK) (Nat.le_refl _)) (SlV.le hi (L1.trans (by rw [← ht2] at *;exact M2.le))).1 (by omega) hc (by simp)
  rw [Nat.zero_add] at ap1 A6
  have n1:t1.next=z.next+1:=by rw [ht1];rfl
  have N5:New t1 s5:=(New.row t1 [] 1).of_only O6 (by rintro b ⟨a,e,rfl⟩;cases e;exact Nat.le_refl _)
  have i6:yI s5 p6 bs.length bs:=Ax.slv (by simpa using A6) (by simp) (fun v hv=>by obtain ⟨x,_,rfl⟩:=List.mem_map.1 hv;exact zBQ x)
  have row6:Row (s5.row [.slice p6 bs.length c6] 1) ⟨s5.next,0,none⟩ [.slice p6 bs.length c6]:=xG _ _ _
  have nx:New z.re (s5.row [.slice p6 bs.length c6] 1)∧∃ p' l' c',Value.slice (some ⟨s5.next,0,none⟩) 1 1=.slice p' l' c'∧zLZ (s5.row [.slice p6 bs.length c6] 1) z.next p' l' [bs]:=⟨(M1.trans N5).row',_,_,_,rfl,[.slice p6 bs.length c6],⟨⟨rfl,row6⟩,rfl,fun v hv=>by rw [List.mem_singleton.1 hv];exact yYR⟩,rfl,fun i r hi'=>by
   match i,hi' with
   | 0,hi'=>cases hi';exact ⟨p6,c6,rfl,SlV.le i6 (Le.row _ _ _),fun b hb=>by have:=(A6.bd b hb).1;omega⟩⟩
  subst ht1
  exact yGE k1 ap1 nx rfl
 ·rw [decide_eq_false hb] at k1
  rw [if_neg (by rw [decide_eq_false hb];exact Bool.false_ne_true)]
  have nx:New z.re t1∧∃ p' l' c',Value.slice none 0 0=.slice p' l' c'∧zLZ t1 z.next p' l' []:=⟨M1,none,0,0,rfl,[],⟨SlP.nil _ _,rfl,fun v hv=>by cases hv⟩,rfl,fun i r hi=>by simp at hi⟩
  subst ht1
  exact yGD k1 nx rfl
theorem zBL.cells {σ:St} {G:Nat→Prop} {vs:List Value} {rs:List (List Int)} (h:zBL σ G vs rs):(vJ vs).all cellB=true:=by
 have:∀ v∈vs,∃ q l c,v=Value.slice q l c:=fun v hv=>by
  obtain ⟨i,hi,rfl⟩:=List.getElem_of_mem hv
  have hr:i<rs.length:=by rw [← h.1];exact hi
  obtain ⟨q,c,h1,_⟩:=h.2 i rs[i] (List.getElem?_eq_getElem hr)
  rw [List.getElem?_eq_getElem hi] at h1
  exact ⟨q,_,c,Option.some.inj h1⟩
 rw [vJ,List.all_flatMap,List.all_eq_true]
 intro v hv
 obtain ⟨q,l,c,rfl⟩:=this v hv
 rfl
theorem yCC (hs:Sane w l m) (hbig:(m+1) ^ l≤1073741824) {r:Nat} (ih:RosC w l m c d p q r):RosC w l m c d p q (r+1):=by
 intro z bs pb cb h hl hi
 obtain ⟨t1,ht1⟩:∃ t1,t1=z.re.row (wkc w.days p l c q m d w.rest w.run w.hours) 6:=⟨_,rfl⟩
 have n1:t1.next=z.next+1:=by rw [ht1];rfl
 have M1:New z.re t1:=by rw [ht1];exact New.row _ _ _
 have w1:Row t1 ⟨z.next,0,none⟩ (wkc w.days p l c q m d w.rest w.run w.hours):=by rw [ht1];exact xG z.re _ _
 have hl12:=hs.l12
 have hm6:=hs.m6
 have hpow:(m+1) ^ (r+1)≤1073741824:=Nat.le_trans (Nat.pow_le_pow_right (by omega) (by omega)) hbig
 refine yPT ?_
 let pref:Nat→List (List Int):=fun j=>(List.range j).flatMap fun k:Nat=>zIC w m r (bs++[(k:Int)-1])
 have hps:∀ j,pref (j+1)=pref j++zIC w m r (bs++[(j:Int)-1]):=fun j=>by
  show (List.range (j+1)).flatMap _=_
  rw [List.range_succ,List.flatMap_append];simp [pref]
 have hpl:∀ j,(pref j).length≤j*(m+1) ^ r:=fun j=>by
  have:=zOK (f:=fun k:Nat=>zIC w m r (bs++[(k:Int)-1])) (N:=(m+1) ^ r) (xs:=List.range j) (fun k _=>zQN)
  rw [List.length_range] at this
  exact this
 let Jn:Nat→Option Addr→Nat→Nat→St→Prop:=fun j p5 l5 c5 y=>∃ vs,New z.re y∧Row y ⟨z.next,0,none⟩ (wkc w.days p l c q m d w.rest w.run w.hours)∧Ax y (z.next+1) 1 p5 l5 c5 (vJ vs)∧vs.length=l5∧(∀ v∈vs,zGY Pg 26 1 v)∧zBL y (fun b=>z.next≤b∧b<y.next∧¬ AtP p5 b) vs (pref j)
 have ldw:∀ y,Row y ⟨z.next,0,none⟩ (wkc w.days p l c q m d w.rest w.run w.hours)→zB Pg y 25 ⟨z.next,0,none⟩=some (.agg ⟨wkc w.days p l c q m d w.rest w.run w.hours⟩):=fun y o=>o.ldN wH xI (k:=0) rfl rfl (nle rfl)
 have hL:zKS pb bs.length cb z.next none 0 0 (-1) t1 (fun p5 l5 c5 y=>Jn (m+1) p5 l5 c5 y):=by
  refine zUX (Inv:=fun k p5 l5 c5 i y=>∃ j:Nat,i=(j:Int)-1∧j+k=m+1∧Jn j p5 l5 c5 y) ?_ (m+1) none 0 0 (-1) t1 ⟨0,rfl,by omega,[],M1,w1,Ax.nil,rfl,(fun v hv=>by cases hv),rfl,fun i r hi=>by simp [pref] at hi⟩
  rintro k p5 l5 c5 i y ⟨j,rfl,hk,vs,J1,J2,J3,J4,J5,J6⟩
  have h1:zB Pg y 23 ⟨z.next,2,none⟩=some (.slice q m d):=J2.ld uN rfl
  by_cases hj:j<m+1
  rotate_left
  ·have:j=m+1:=by omega
   subst this
   exact yCG h1 ⟨vs,J1,J2,J3,J4,J5,J6⟩ (by omega)
  have h2:=ldw y J2
  have yn:z.next<y.next:=J2.lt
  have Ly:=(le0 z).trans J1.le
  have hy:=h.le Ly
  have pab:∀ a,p=some a→a.block<y.next:=xK hy.dty
  have qab:∀ a,q=some a→a.block<y.next:=by obtain ⟨vs,g,_⟩:=hy.drv;exact xK g
  obtain ⟨t2,ht2⟩:∃ t2,t2=y.row [] 1:=⟨_,rfl⟩
  have n2:t2.next=y.next+1:=by rw [ht2];rfl
  have M2:New y t2:=by rw [ht2];exact New.row _ _ _
  have hc:(vJ (bs.map yC)).all cellB=true:=by rw [zFF bs .i64];simp [List.all_eq_true];intro a _;rfl
  have hib:yI t2 pb bs.length bs:=SlV.le hi (Ly.trans M2.le)
  obtain ⟨p3,c3,s3,ap3,A3,O3,b3⟩:=Ax.append (P:=Pg) (k:=cb) (n0:=y.next) zDS (Ax.lit (len:=0) (by rw [ht2];exact zC y [] 1) rfl ((yY 0).2 uK) (Nat.le_refl _)) hib.1 (by omega) hc (by omega)
  rw [Nat.zero_add] at ap3 A3
  have N3:New y s3:=M2.of_only O3 (by rintro b ⟨a,e,rfl⟩;cases e;exact Nat.le_refl _)
  have nx3:=N3.nx
  obtain ⟨t4,ht4⟩:∃ t4,t4=s3.row [iV ((j:Int)-1)] 1:=⟨_,rfl⟩
  have n4:t4.next=s3.next+1:=by rw [ht4];rfl
  have M4:New s3 t4:=by rw [ht4];exact New.row _ _ _
  have r4:Row t4 ⟨s3.next,0,none⟩ [iV ((j:Int)-1)]:=by rw [ht4];exact xG _ _ _
  obtain ⟨p4,c4,s4,ap4,A4,O4,b4⟩:=Ax.append (P:=Pg) (k:=1) (m:=1) (n0:=y.next) zDS (A3.le M4.le) (r4.sl rfl) (by omega) rfl (by omega)
  have N4:New y s4:=(N3.trans M4).of_only O4 (fun b hb=>(A3.bd b hb).1)
  have nx4:=N4.nx
  have L4:=N4.le
  have i4:yI s4 p4 (bs++[(j:Int)-1]).length (bs++[(j:Int)-1]):=by
   have e1:(bs++[(j:Int)-1]).length=bs.length+1:=by simp
   rw [e1]
   exact Ax.slv (vs:=(bs++[(j:Int)-1]).map yC) (by rw [List.map_append,zCF];exact A4) (by simp) (fun v hv=>by obtain ⟨x,_,rfl⟩:=List.mem_map.1 hv;exact zBQ x)
  obtain ⟨p6,l6,c6,y5,k5,N5,us,u1,u2⟩:=ih (cb:=c4) (h.le (Ly.trans L4)) (by simp;omega) i4
  rw [show (bs++[(j:Int)-1]).length=bs.length+1 by simp] at k5
  have nx5:=N5.nx
  have ul:us.length=l6:=u1.2.1
  have hroom:l5+l6≤1073741824:=by
   have g1:=J6.1
   have g2:=hpl j
   have g3:=u2.1
   have g4:=zQN (w:=w) (m:=m) (r:=r) (bs:=bs++[(j:Int)-1])
   have g5:(j+1)*(m+1) ^ r≤(m+1)*(m+1) ^ r:=Nat.mul_le_mul_right _ (by omega)
   rw [Nat.add_mul,Nat.one_mul] at g5
   rw [Nat.pow_succ,Nat.mul_comm] at hpow
   omega
  obtain ⟨p7,c7,y6,ap7,A7,O7,b7⟩:=Ax.append (P:=Pg) (k:=c6) (n0:=z.next+1) yUP (J3.le (L4.trans N5.le)) u1.1 hroom u2.cells (by omega)
  have J5':=J1.trans (N4.trans N5)
  have N6:New z.re y6:=J5'.of_only O7 (fun b hb=>by have:=(J3.bd b hb).1;show z.next≤b;omega)
  have O7n:=O7.next
  have w6:Row y6 ⟨z.next,0,none⟩ (wkc w.days p l c q m d w.rest w.run w.hours):=O7.rw' ((J2.le L4).le N5.le) (fun hb=>by have hb:AtP p5 z.next:=hb;have:=(J3.bd _ hb).1;omega)
  have R6:zBL y6 (fun b=>z.next≤b∧b<y6.next∧¬ AtP p7 b) (vs++us) (pref (j+1)):=by
   rw [hps j]
   refine zBL.append (((J6.le (L4.trans N5.le)).only O7 (fun b hb=>hb.2.2)).mono fun b hb=>⟨hb.1,by omega,fun ha=>?_⟩) ((u2.lt.only O7 (fun b hb ha=>by have:=(J3.bd b ha).2;omega)).mono fun b hb=>⟨by omega,by omega,fun ha=>?_⟩)
   ·rcases b7 b ha with g | g
    ·exact hb.2.2 g
    ·omega
   ·rcases b7 b ha with g | g
    ·have:=(J3.bd b g).2;omega
    ·omega
  have ww3:=J2.le N3.le
  have ww2:=J2.le M2.le
  have ww4:=ww3.le M4.le
  have ww5:=J2.le L4
  have h7:zH t4.next [.slice p3 bs.length c3,.slice (some ⟨s3.next,0,none⟩) 1 1]:=(zD (yP fun a e=>(show a.block<t4.next by have:=(A3.bd a.block ⟨a,e,rfl⟩).2;omega)) (zD (yP fun a e=>by cases e;show s3.next<t4.next;omega) zG))
  have h8:zH s4.next [.agg ⟨wkc w.days p l c q m d w.rest w.run w.hours⟩,.slice p4 (bs.length+1) c4]:=(zD (zIA (fun a e=>by have:=pab a e;omega) (fun a e=>by have:=qab a e;omega)) (zD (yP fun a e=>(A4.bd a.block ⟨a,e,rfl⟩).2) zG))
  have h9:zH y5.next [.slice p5 l5 c5,.slice p6 l6 c6]:=(zD (yP fun a e=>(show a.block<y5.next by have:=(J3.bd a.block ⟨a,e,rfl⟩).2;omega)) (zD (yP (xK u1)) zG))
  have h10:=ldw t2 ww2
  have h11:=(⟨⟨show z.next<s3.next by omega,rfl⟩,ldw s3 ww3⟩:(z.next<s3.next∧zI RD (.agg ⟨wkc w.days p l c q m d w.rest w.run w.hours⟩)=true)∧_)
  have h12:=(⟨⟨show z.next<t4.next by omega,rfl⟩,ldw t4 ww4⟩:(z.next<t4.next∧zI RD (.agg ⟨wkc w.days p l c q m d w.rest w.run w.hours⟩)=true)∧_)
  have h13:=(⟨⟨show z.next<s4.next by omega,rfl⟩,ldw s4 ww5⟩:(z.next<s4.next∧zI RD (.agg ⟨wkc w.days p l c q m d w.rest w.run w.hours⟩)=true)∧_)
  have bb:∀ a,pb=some a→a.block<y.next:=fun a e=>by
   have h1:=xK hi a e
   have h2:=Ly.next
   omega
  have nx:∃ k',k' < k∧∃ j':Nat,(j:Int)-1+1=(j':Int)-1∧j'+k'=m+1∧Jn j' p7 (l5+l6) c7 y6:=⟨k-1,by omega,j+1,by omega,by omega,vs++us,N6,w6,by rw [zCF];exact A7,by rw [List.length_append];omega,(fun v hv=>by
   rcases List.mem_append.1 hv with hv | hv
   ·exact J5 v hv
   ·exact u1.2.2 v hv),R6⟩
  subst ht4 ht2
  exact yCH h1 h2 ap3 ap4 k5 ap7 h7 h8 h9 h10 h11 h12 h13 bb nx (by omega) ⟨by omega,by omega⟩ yn
 have k0:∀ p5 l5 c5 y,Jn (m+1) p5 l5 c5 y→zGU pb bs.length cb z.next p5 l5 c5 y (fun v s=>New z.re s∧∃ p' l' c',v=.slice p' l' c'∧zLZ s z.next p' l' (zIC w m (r+1) bs)):=by
  rintro p5 l5 c5 y ⟨vs,J1,J2,J3,J4,J5,J6⟩
  exact zUW ⟨J1,p5,l5,c5,rfl,vs,J3.slv J4 J5,J6.mono fun b hb=>hb.1⟩
 subst ht1
 exact yGC hL k0 (by omega)
theorem zUY (hs:Sane w l m) (hbig:(m+1) ^ l≤1073741824):∀ r,RosC w l m c d p q r
 | 0=>yCB hs
 | r+1=>yCC hs hbig (zUY hs hbig r)
end
end Go.Proofs.YtgfiniccfpfplaaGreat
