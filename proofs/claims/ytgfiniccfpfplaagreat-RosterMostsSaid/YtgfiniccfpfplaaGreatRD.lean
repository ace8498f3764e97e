
import Derived.Test.YtgfiniccfpfplaaGreatRC
import Derived.Test.YtgfiniccfpfplaaGreatXB
namespace Go.Proofs.YtgfiniccfpfplaaGreat
open Go Go.Lay
open Tryz renaming prog → Pg
set_option linter.unusedVariables false
set_option linter.unusedSimpArgs false
set_option maxRecDepth 20000
structure Sane (w:Wk) (l m:Nat):Prop where
 l12:l≤12
 m6:m≤6
 duty:∀ i,i<l→0≤(dty w i).day∧(dty w i).day≤6∧0≤(dty w i).on∧(dty w i).on≤1439∧(dty w i).on≤(dty w i).lo∧(dty w i).lo≤(dty w i).hi∧(dty w i).hi≤(dty w i).on+1440
 dr:∀ k,k<m→-10080≤(drv w k).off∧(drv w k).off≤1440∧0≤(drv w k).row∧(drv w k).row≤14∧0≤(drv w k).used∧(drv w k).used≤20000
 kn:∀ k,k<m→(drv w k).knows.length≤1000∧(drv w k).leave.length≤1000∧(drv w k).wish.length≤1000
 rest:0≤w.rest∧w.rest≤3000
 run:1≤w.run∧w.run≤14
 hours:0≤w.hours∧w.hours≤20000
def zQU (w:Wk) (ros tru:Nat→Int) (k j:Nat):Int:=(((List.range j).filter fun i=>decide (ros i=(k:Int))).map fun i=>tru i-(dty w i).on).sum
theorem sumK_s {w:Wk} {ros tru:Nat→Int} {k j:Nat}:zQU w ros tru k (j+1)=zQU w ros tru k j+if ros j=(k:Int) then tru j-(dty w j).on else 0:=by
 unfold zQU
 rw [List.range_succ,List.filter_append,List.map_append,List.sum_append]
 by_cases h:ros j=(k:Int) <;> simp [h]
theorem yAW {o:Option Nat} {i:Nat}:zJI o=(i:Int)↔o=some i:=by
 cases o with
 | none=>simp [zJI]
 | some j=>simp only [zJI,Option.some.injEq];omega
theorem zXA {n:Nat} {p q r:Option Addr} {l c m d j e:Nat} {x y z:Int} (h1:∀ a,p=some a→a.block<n) (h2:∀ a,q=some a→a.block<n) (h3:∀ a,r=some a→a.block<n):yT RD n (.agg ⟨zK p l c q m d r j e x y z⟩)=true:=by
 have e1:∀ a b:Nat,a<b→Nat.blt a b=true:=fun a b h=>by rw [Nat.blt_eq];exact h
 show List.all (zK p l c q m d r j e x y z) (yT (RD-1) n)=true
 rcases p with _ | p <;> rcases q with _ | q <;> rcases r with _ | r <;> simp [yT,RD] <;> simp_all
theorem zIA {n:Nat} {p q:Option Addr} {l c m d:Nat} {a x y z:Int} (h1:∀ a,p=some a→a.block<n) (h2:∀ a,q=some a→a.block<n):yT RD n (.agg ⟨wkc a p l c q m d x y z⟩)=true:=by
 have e1:∀ a b:Nat,a<b→Nat.blt a b=true:=fun a b h=>by rw [Nat.blt_eq];exact h
 show List.all (wkc a p l c q m d x y z) (yT (RD-1) n)=true
 rcases p with _ | p <;> rcases q with _ | q <;> simp [yT,RD] <;> simp_all
section
variable {σ:St} {w:Wk} {p q r t:Option Addr} {l m c d rc tc:Nat} {rs ts:List Int} {k i:Nat}
theorem yMQ (h:WkP σ 92 76 w p l q m) (hs:Sane w l m) (hr:yI σ r l rs) (ht:yI σ t l ts) (hts:∀ i,i<l→(dty w i).on≤zV ts i∧zV ts i≤(dty w i).on+1440) (hkm:k<m) {n:Int}:zE Pg 56 [.agg ⟨wkL w p l c q m d⟩,.slice r l rc,.slice t l tc,.int .u8 5,iV (k:Int),iV n] σ (.bool (xF w (zV rs) (zV ts) 5 k i)) σ:=by
 have hn:=h.len.1
 have hk0:=xG σ.re (wkL w p l c q m d) 6
 have h0:=(h.le (le0 σ)).le (Le.row _ (wkL w p l c q m d) 6)
 have hr0:=(hr.re).le (Le.row _ (wkL w p l c q m d) 6)
 have ht0:=(ht.re).le (Le.row _ (wkL w p l c q m d) 6)
 have hb:=hs.dr k hkm
 have hl12:=hs.l12
 have hm6:=hs.m6
 have ldD:zB Pg (σ.re.row (wkL w p l c q m d) 6) 22 ⟨σ.re.next,1,none⟩=some (.slice p l c):=hk0.ld wR rfl
 have ldH:zB Pg (σ.re.row (wkL w p l c q m d) 6) 3 ⟨σ.re.next,5,none⟩=some (iV w.hours):=hk0.ld zR rfl
 obtain ⟨a,rfl,p',l',c',r',n',d',s',j',e',_,_,_,_,hf⟩:=h0.vld yBJ uI hkm
 have ld:=hf 5 (iV (drv w k).used) rfl 3 zR
 have e5:xF w (zV rs) (zV ts) 5 k i=decide (w.hours<(drv w k).used+zQU w (zV rs) (zV ts) k l):=by
  unfold xF zQU
  rw [if_pos rfl,hn]
 rw [e5]
 refine (yMO ld (zYA (Inv:=fun k' i13 i14 τ=>τ=σ.re.row (wkL w p l c (some a) m d) 6∧∃ j:Nat,i14=j∧j+k'=l∧i13=(drv w k).used+zQU w (zV rs) (zV ts) k j∧0≤zQU w (zV rs) (zV ts) k j∧zQU w (zV rs) (zV ts) k j≤1440*j)
  (Q0:=fun i13 τ=>τ=σ.re.row (wkL w p l c (some a) m d) 6∧i13=(drv w k).used+zQU w (zV rs) (zV ts) k l) ?_ l _ 0 _ ⟨rfl,0,rfl,by omega,by simp [zQU],by simp [zQU],by simp [zQU]⟩) ?_ rfl (by omega)).pure
 ·rintro k' i13 i14 τ ⟨rfl,j,rfl,hk,rfl,h1,h2⟩
  by_cases hj:j<l
  ·obtain ⟨b,rfl,x,hx,l2⟩:=vR hr0 hj
   obtain ⟨y,hy,l4⟩:=h0.dld (i:=j) (k:=1) (n:=(dty w j).on) hj (by omega) rfl
   subst hy
   obtain ⟨z,rfl,u,hu,l3⟩:=vR ht0 hj
   have gx:zV rs j=x:=yL hx
   have gu:zV ts j=u:=yL hu
   have hb2:=hts j hj
   have hb3:=hs.duty j hj
   have es:=sumK_s (w:=w) (ros:=zV rs) (tru:=zV ts) (k:=k) (j:=j)
   by_cases e1:x=(k:Int)
   ·rw [if_pos (by rw [gx,e1]),gu] at es
    exact yHD ldD l2 l3 l4 ⟨k' - 1,by omega,rfl,j+1,by omega,by omega,by omega,by omega,by omega⟩ (by omega) (by omega) e1 (by omega) (by omega) (by omega) (by omega) (by omega)
   ·rw [if_neg (by rw [gx];exact e1)] at es
    exact yHC ldD l2 ⟨k' - 1,by omega,rfl,j+1,by omega,by omega,by omega,by omega,by omega⟩ (by omega) (by omega) e1 (by omega)
  ·have:j=l:=by omega
   subst this
   exact yHB ldD ⟨rfl,rfl⟩ (by omega)
 ·rintro i13 τ ⟨rfl,rfl⟩
  by_cases hh:w.hours<(drv w k).used+zQU w (zV rs) (zV ts) k l
  ·exact zXZ ldH ⟨by rw [decide_eq_true hh],Nat.le_refl _⟩ hh
  ·exact zXY ldH ⟨by rw [decide_eq_false hh],Nat.le_refl _⟩ hh
theorem ySN (h:WkP σ 92 76 w p l q m) (hs:Sane w l m) (hr:yI σ r l rs) (ht:yI σ t l ts) (hts:∀ i,i<l→(dty w i).on≤zV ts i∧zV ts i≤(dty w i).on+1440) (hkm:k<m) (hi:i<l) {q5:Nat} (hq:q5<5):zE Pg 56 [.agg ⟨wkL w p l c q m d⟩,.slice r l rc,.slice t l tc,.int .u8 (q5:Int),iV (k:Int),iV (i:Int)] σ (.bool (xF w (zV rs) (zV ts) q5 k i)) σ:=by
 have hn:=h.len.1
 have hmn:=h.len.2
 have hb:=hs.dr k hkm
 have hl12:=hs.l12
 have hm6:=hs.m6
 have hdi:=hs.duty i hi
 obtain ⟨D,hD⟩:∃ D:Nat,(dty w i).day=(D:Int):=⟨(dty w i).day.toNat,by omega⟩
 have eD:(dty w i).day.toNat=D:=by omega
 obtain ⟨ra,rfl,x,hx,_⟩:=vR hr hi
 have gx:zV rs i=x:=yL hx
 obtain ⟨pa,rfl,_⟩:=h.dty.some hi
 obtain ⟨vs,hv1,hv2,hv3⟩:=h.drv
 obtain ⟨qa,rfl,_⟩:=hv1.some hkm
 have hxk:w.drivers[k]?=some (drv w k):=by
  unfold drv
  rw [List.getD_eq_getElem?_getD,List.getElem?_eq_getElem (by omega)];rfl
 have hxi:w.duties[i]?=some (dty w i):=by
  unfold dty
  rw [List.getD_eq_getElem?_getD,List.getElem?_eq_getElem (by omega)];rfl
 obtain ⟨v,g1,p',l',c',r',n',d',s',j',e',rfl,hkn,hlv,hws⟩:=hv3 k _ hxk
 have ldx:∀ τ,Le σ τ→zB Pg τ 3 (zP ra (Int.toNat (i:Int)*1))=some (iV x):=by
  intro τ hτ
  obtain ⟨a,e,y,hy,ld⟩:=vR (SlV.le hr hτ) hi
  cases e
  rw [hx] at hy;cases hy
  exact ld
 have ldd:∀ τ,Le σ τ→zB Pg τ 92 (zP pa (Int.toNat (i:Int)*5))=some (.agg ⟨zF (dty w i).day (dty w i).on (dty w i).lo (dty w i).hi (dty w i).route⟩):=fun τ hτ=>(SlV.le h.dty hτ).at rfl (by rw [List.getElem?_map,hxi];rfl)
 have ldv:∀ τ,Le σ τ→zB Pg τ 76 (zP qa (Int.toNat (k:Int)*6))=some (.agg ⟨zK p' l' c' r' n' d' s' j' e' (drv w k).off (drv w k).row (drv w k).used⟩):=fun τ hτ=>(hv1.le hτ).at rfl g1
 have pab:pa.block<σ.next:=xK h.dty pa rfl
 have qab:qa.block<σ.next:=xK hv1 qa rfl
 by_cases e1:x=(k:Int)
 rotate_left
 ·have:xF w (zV rs) (zV ts) q5 k i=false:=by
   unfold xF
   rw [if_neg (by omega),gx,decide_eq_false e1,Bool.false_and]
  rw [this]
  exact (yMN (ldx _ ((le0 σ).trans (Le.row _ _ _))) ⟨rfl,Nat.le_refl _⟩ (by omega) (by omega) e1).pure
 have L0:Le σ (σ.re.row (wkL w (some pa) l c (some qa) m d) 6):=(le0 σ).trans (Le.row _ _ _)
 have L1:Le σ ((σ.re.row (wkL w (some pa) l c (some qa) m d) 6).row (zF 0 0 0 0 0) 5):=L0.trans (Le.row _ _ _)
 have L2:Le σ (((σ.re.row (wkL w (some pa) l c (some qa) m d) 6).row (zF 0 0 0 0 0) 5).row (zK none 0 0 none 0 0 none 0 0 0 0 0) 6):=L1.trans (Le.row _ _ _)
 obtain ⟨dd,hdd⟩:∃ dd,dd=zF (dty w i).day (dty w i).on (dty w i).lo (dty w i).hi (dty w i).route:=⟨_,rfl⟩
 obtain ⟨dv,hdv⟩:∃ dv,dv=zK p' l' c' r' n' d' s' j' e' (drv w k).off (drv w k).row (drv w k).used:=⟨_,rfl⟩
 have L3:Le σ ((((σ.re.row (wkL w (some pa) l c (some qa) m d) 6).row (zF 0 0 0 0 0) 5).row (zK none 0 0 none 0 0 none 0 0 0 0 0) 6).own (σ.re.next+1) (zF (dty w i).day (dty w i).on (dty w i).lo (dty w i).hi (dty w i).route) 5):=L2.own (by show σ.next≤σ.next+1;omega)
 obtain ⟨τ4,hτ4⟩:∃ τ4,τ4=((((σ.re.row (wkL w (some pa) l c (some qa) m d) 6).row (zF 0 0 0 0 0) 5).row (zK none 0 0 none 0 0 none 0 0 0 0 0) 6).own (σ.re.next+1) (zF (dty w i).day (dty w i).on (dty w i).lo (dty w i).hi (dty w i).route) 5).own (σ.re.next+2) (zK p' l' c' r' n' d' s' j' e' (drv w k).off (drv w k).row (drv w k).used) 6:=⟨_,rfl⟩
 have L4:Le σ τ4:=by rw [hτ4];exact L3.own (by show σ.next≤σ.next+2;omega)
 have rW0:=xG σ.re (wkL w (some pa) l c (some qa) m d) 6
 have rW1:=rW0.row (ds:=zF 0 0 0 0 0) (n:=5)
 have rW2:=rW1.row (ds:=zK none 0 0 none 0 0 none 0 0 0 0 0) (n:=6)
 have rW3:=rW2.own (b:=σ.re.next+1) (ds:=zF (dty w i).day (dty w i).on (dty w i).lo (dty w i).hi (dty w i).route) (n:=5) (by show σ.next≠σ.next+1;omega)
 have rW4:Row τ4 ⟨σ.re.next,0,none⟩ (wkL w (some pa) l c (some qa) m d):=by rw [hτ4];exact rW3.own (by show σ.next≠σ.next+2;omega)
 have oD:=(((zC (σ.re.row (wkL w (some pa) l c (some qa) m d) 6) (zF 0 0 0 0 0) 5).row (ds:=zK none 0 0 none 0 0 none 0 0 0 0 0) (m:=6)).put (ds:=zF (dty w i).day (dty w i).on (dty w i).lo (dty w i).hi (dty w i).route)).rw
 have rD:Row τ4 ⟨σ.re.next+1,0,none⟩ (zF (dty w i).day (dty w i).on (dty w i).lo (dty w i).hi (dty w i).route):=by rw [hτ4];exact oD.own (by show σ.next+1≠σ.next+2;omega)
 have rV:Row τ4 ⟨σ.re.next+2,0,none⟩ (zK p' l' c' r' n' d' s' j' e' (drv w k).off (drv w k).row (drv w k).used):=by
  rw [hτ4]
  exact (((zC ((σ.re.row (wkL w (some pa) l c (some qa) m d) 6).row (zF 0 0 0 0 0) 5) (zK none 0 0 none 0 0 none 0 0 0 0 0) 6).own (by show σ.next+2≠σ.next+1;omega)).put).rw
 have hW4:WkP τ4 92 76 w (some pa) l (some qa) m:=h.le L4
 have low4:σ.next≤τ4.low:=by rw [hτ4];exact ((((New.row σ.re _ _).row'.row'.own (by show σ.next≤σ.next+1;omega)).own (by show σ.next≤σ.next+2;omega))).lw
 have cf:=zVG (c:=c) (d:=d) (rc:=rc) (k:=k) (D:=D) hW4 (SlV.le hr L4) (by omega)
 have cu:=yWA (c:=c) (d:=d) (rc:=rc) (k:=k) (D:=D) hW4 (SlV.le hr L4) (by omega) hkm (by omega) (by omega) ⟨hb.2.2.1,by omega⟩
 have cv:=rFree_c (c:=c) (d:=d) (rc:=rc) (tc:=tc) (k:=k) (D:=D) hW4 (SlV.le hr L4) (SlV.le ht L4) (by omega) hkm (by omega) (by omega) (fun j hj=>by have:=hts j hj;have:=hs.duty j hj;omega)
 have hbr:∀ fb:Bool,fb=decide (xX w (zV rs) k D=some i)→xF w (zV rs) (zV ts) q5 k i=(match q5 with
   | 0=>!(drv w k).knows.contains (dty w i).route
   | 1=>(drv w k).leave.contains (dty w i).day
   | 2=>!fb
   | 3=>fb && decide (1440*(dty w i).day+(dty w i).on-xS w (zV rs) (zV ts) k D<w.rest)
   | _=>fb && decide (w.run<vP w (zV rs) k D)):=by
  intro fb hfb
  unfold xF
  rw [if_neg (by omega),gx,decide_eq_true e1,Bool.true_and,eD,hfb]
  match q5,hq with
  | 0,_=>rfl
  | 1,_=>rfl
  | 2,_=>rfl
  | 3,_=>rfl
  | 4,_=>rfl
 have hfr:-10080≤xS w (zV rs) (zV ts) k D∧xS w (zV rs) (zV ts) k D≤1000000:=by
  have key:∀ E:Nat,E≤D→-10080≤xS w (zV rs) (zV ts) k E∧xS w (zV rs) (zV ts) k E≤1000000:=by
   intro E
   induction E with
   | zero=>intro _;unfold xS;omega
   | succ E ih =>
    intro hE
    unfold xS
    cases hf:xX w (zV rs) k E with
    | none=>exact ih (by omega)
    | some j =>
     have:=(yAT hf).1
     have:=hts j (by omega)
     have:=hs.duty j (by omega)
     simp only;omega
  exact key D (Nat.le_refl _)
 have lw:zB Pg τ4 25 ⟨σ.re.next,0,none⟩=some (.agg ⟨wkL w (some pa) l c (some qa) m d⟩):=rW4.ldN (k:=0) wH xI (ds:=wkL w (some pa) l c (some qa) m d) rfl rfl (by simp [wkL])
 have lt0:zB Pg τ4 3 ⟨σ.re.next+1,0,none⟩=some (iV D):=by rw [← hD];exact rD.ld zR rfl
 have lt1:zB Pg τ4 3 ⟨σ.re.next+1,1,none⟩=some (iV (dty w i).on):=rD.ld zR rfl
 have lt4:zB Pg τ4 3 ⟨σ.re.next+1,4,none⟩=some (iV (dty w i).route):=rD.ld zR rfl
 have lre:zB Pg τ4 3 ⟨σ.re.next,3,none⟩=some (iV w.rest):=rW4.ld zR rfl
 have lru:zB Pg τ4 3 ⟨σ.re.next,4,none⟩=some (iV w.run):=rW4.ld zR rfl
 have lk0:zB Pg τ4 26 ⟨σ.re.next+2,0,none⟩=some (.slice p' l' c'):=rV.ld yV rfl
 have lk1:zB Pg τ4 26 ⟨σ.re.next+2,1,none⟩=some (.slice r' n' d'):=rV.ld yV rfl
 have hkl:=hs.kn k hkm
 have c0:=yWE (c:=c') (n:=(dty w i).route) (SlV.le hkn L4) (by have:=hkn.len;omega)
 have c1:=yWE (c:=d') (n:=(D:Int)) (SlV.le hlv L4) (by have:=hlv.len;omega)
 have nx4:τ4.next=σ.next+3:=by rw [hτ4];rfl
 have hday:0≤(D:Int)∧(D:Int)≤6:=by omega
 have bW:yT RD τ4.next (.agg ⟨wkL w (some pa) l c (some qa) m d⟩)=true:=zIA (fun a e=>by cases e;rw [nx4];omega) (fun a e=>by cases e;rw [nx4];omega)
 have bR:yT RD τ4.next (.slice (some ra) l rc)=true:=yP (xK (SlV.le hr L4))
 have bT:yT RD τ4.next (.slice t l tc)=true:=yP (xK (SlV.le ht L4))
 have b5:zH τ4.next [.agg ⟨wkL w (some pa) l c (some qa) m d⟩,.slice (some ra) l rc,.slice t l tc,iV (k:Int),iV (D:Int)]:=zD bW (zD bR (zD bT (zD (yE rfl) (zD (yE rfl) zG))))
 have b4:zH τ4.next [.agg ⟨wkL w (some pa) l c (some qa) m d⟩,.slice (some ra) l rc,iV (k:Int),iV (D:Int)]:=zD bW (zD bR (zD (yE rfl) (zD (yE rfl) zG)))
 have G:∀ fb:Bool,fb=decide (xX w (zV rs) k D=some i)→wP (some ra) l rc t l tc k σ.re.next (σ.re.next+1) (σ.re.next+2) fb q5 τ4 (fun b τ=>τ=τ4∧b=xF w (zV rs) (zV ts) q5 k i) (fun τ=>τ=τ4∧q5=4):=by
  intro fb hfb
  rw [hbr fb hfb]
  match q5,hq with
  | 0,_ =>
   simp only
   cases hc:(drv w k).knows.contains (dty w i).route with
   | true=>rw [hc] at c0;exact yHA lk0 lt4 c0 ⟨rfl,rfl⟩
   | false=>rw [hc] at c0;exact yGZ lk0 lt4 c0 ⟨rfl,rfl⟩
  | 1,_ =>
   simp only
   rw [hD]
   exact yGY lk1 lt0 c1 ⟨rfl,rfl⟩
  | 2,_ =>
   simp only
   cases fb with
   | true=>exact yGX ⟨rfl,rfl⟩
   | false=>exact yGW ⟨rfl,rfl⟩
  | 3,_ =>
   simp only
   cases fb with
   | true =>
    rw [hD,Bool.true_and]
    by_cases hlt:1440*(D:Int)+(dty w i).on-xS w (zV rs) (zV ts) k D<w.rest
    ·rw [decide_eq_true hlt]
     exact yGV lt0 lt1 lw cv lre b5 ⟨rfl,rfl⟩ (by omega) (by omega) (by omega) rfl (by omega) (by omega) (by omega) hlt (by rw [nx4];show σ.next+1<_;omega) (by rw [nx4];show σ.next<_;omega)
    ·rw [decide_eq_false hlt]
     exact yGU lt0 lt1 lw cv lre b5 ⟨rfl,rfl⟩ (by omega) (by omega) (by omega) rfl (by omega) (by omega) (by omega) hlt (by rw [nx4];show σ.next+1<_;omega) (by rw [nx4];show σ.next<_;omega)
   | false=>exact yGT ⟨rfl,rfl⟩
  | 4,_=>exact yGS ⟨rfl,rfl⟩
 have Kn:∀ fb:Bool,fb=decide (xX w (zV rs) k D=some i)→∀ τ,(τ=τ4∧q5=4)→zBC (some ra) l rc t l tc k σ.re.next (σ.re.next+1) (σ.re.next+2) fb q5 τ (fun v s=>v=.bool (xF w (zV rs) (zV ts) q5 k i)∧σ.next≤s.low):=by
  rintro fb hfb τ ⟨rfl,rfl⟩
  rw [hbr fb hfb]
  simp only
  cases fb with
  | true =>
   rw [Bool.true_and]
   by_cases hlt:w.run<vP w (zV rs) k D
   ·rw [decide_eq_true hlt]
    exact zXX lw lt0 cu lru b4 ⟨rfl,low4⟩ hlt (by rw [nx4];show σ.next<_;omega) (by rw [nx4];show σ.next+1<_;omega)
   ·rw [decide_eq_false hlt]
    exact zXW lw lt0 cu lru b4 ⟨rfl,low4⟩ hlt (by rw [nx4];show σ.next<_;omega) (by rw [nx4];show σ.next+1<_;omega)
  | false=>exact zXV ⟨rfl,low4⟩
 have lD1:∀ {τ},Row τ ⟨σ.re.next,0,none⟩ (wkL w (some pa) l c (some qa) m d)→zB Pg τ 22 ⟨σ.re.next,1,none⟩=some (.slice (some pa) l c):=fun h=>h.ld wR rfl
 have lD2:∀ {τ},Row τ ⟨σ.re.next,0,none⟩ (wkL w (some pa) l c (some qa) m d)→zB Pg τ 23 ⟨σ.re.next,2,none⟩=some (.slice (some qa) m d):=fun h=>h.ld uN rfl
 have hbel:zH (σ.next+3) [.pointer (some ⟨σ.re.next+2,0,none⟩),.agg ⟨zK p' l' c' r' n' d' s' j' e' (drv w k).off (drv w k).row (drv w k).used⟩] :=
  zD (zJ (by show σ.next+2<_;omega)) (zD (zXA (fun a e=>by have:=xK hkn a e;omega) (fun a e=>by have:=xK hlv a e;omega) (fun a e=>by have:=xK hws a e;omega)) zG)
 rw [hτ4] at cf G Kn
 by_cases hfb:xX w (zV rs) k D=some i
 ·have hz:=yAW.2 hfb
  rw [hz,← hD] at cf
  exact (yMM (ldx _ L0) (ldd _ L0) (ldv _ L0) hbel (lD1 rW1) (lD1 rW2) (ldd _ L1) (ldd _ L2) (lD2 rW1) (lD2 rW2) (lD2 rW3) (ldv _ L1) (ldv _ L2) (ldv _ L3) cf
   (G true (by simp [hfb])) (fun b τ h=>zNK ⟨by rw [h.2],by rw [h.1,← hτ4];exact low4⟩) (Kn true (by simp [hfb])) (by omega) (by omega) e1 (by omega) (by omega) rfl pab qab).pure
 ·have hz:zJI (xX w (zV rs) k D)≠(i:Int):=fun h=>hfb (yAW.1 h)
  rw [← hD] at cf
  exact (yML (ldx _ L0) (ldd _ L0) (ldv _ L0) hbel (lD1 rW1) (lD1 rW2) (ldd _ L1) (ldd _ L2) (lD2 rW1) (lD2 rW2) (lD2 rW3) (ldv _ L1) (ldv _ L2) (ldv _ L3) cf
   (G false (by simp [hfb])) (fun b τ h=>zNK ⟨by rw [h.2],by rw [h.1,← hτ4];exact low4⟩) (Kn false (by simp [hfb])) (by omega) (by omega) e1 (by omega) (by omega) hz pab qab).pure
end
end Go.Proofs.YtgfiniccfpfplaaGreat
