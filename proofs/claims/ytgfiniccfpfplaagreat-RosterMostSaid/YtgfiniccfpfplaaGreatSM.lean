
import Derived.Test.YtgfiniccfpfplaaGreatSL
import Derived.Test.YtgfiniccfpfplaaGreatSK
namespace Go.Proofs.YtgfiniccfpfplaaGreat
open Go Go.Lay
open Tryz renaming prog -> Pg
set_option linter.unusedVariables false
set_option linter.unusedSimpArgs false
set_option maxRecDepth 20000
abbrev yPV:=Option (List Int × List Int)
section
variable {G:GvK} {z y y':St} {F F' F2:Key->Option EndR} {X X' X2:Nat->Prop} {e e' e2:EndR} {o o' o2:yPV} {C C':zJR}
theorem GvR.self (W:GvW G z F X e) (ep:EndP z X e o) (bo:xO 6 C o):GvR G z F X e o C z F X e o:=⟨W,ep,bo,fun _ h=>h,fun _ h=>.inl h,.inr (.inr ⟨rfl,rfl,rfl,rfl⟩)⟩
theorem GvR.iff (h:GvR G z F X e o C y F' X' e' o') (k:∀ a v,C a v↔C' a v):GvR G z F X e o C' y F' X' e' o':=⟨h.w,h.ep,h.bo.iff k,h.x1,h.x2,h.lo⟩
theorem GvR.step {S:Nat->Prop} (ok:G.Ok) (h:GvR G z F X e o C y F' X' e' o') (k:Only S y y') (hS:∀ b,S b->G.n1<=b/\¬ X' b) (hl:y'.low<=y.low):GvR G z F X e o C y' F' X' e' o':=by
 refine ⟨h.w.only ok k hS,h.ep.only k fun b hb hs=>(hS b hs).2 hb,h.bo,h.x1,h.x2, ?_⟩
 rcases h.lo with g | g | g
 ·exact .inl (Nat.le_trans hl g)
 ·exact .inr (.inl (Nat.le_trans hl g))
 ·exact .inr (.inr g)
theorem GvR.new (ok:G.Ok) (h:GvR G z F X e o C y F' X' e' o') (k:New y y') (hl:y'.low<=y.low):GvR G z F X e o C y' F' X' e' o':=h.step (S:=fun _=>False) ok k.only (fun _ h=>h.elim) hl
theorem GvR.trans (h:GvR G z F X e o C y F' X' e' o') (k:GvR G y F' X' e' o' C' y' F2 X2 e2 o2) (hn:z.next<=y.next) (hl:y'.low<=y.low):GvR G z F X e o C' y' F2 X2 e2 o2:=by
 refine ⟨k.w,k.ep,k.bo,fun b hb=>k.x1 b (h.x1 b hb),fun b hb=>?_, ?_⟩
 ·rcases k.x2 b hb with g | g
  ·exact h.x2 b g
  ·exact .inr (Nat.le_trans hn g)
 ·rcases k.lo with g | g | ⟨rfl,rfl,rfl,rfl⟩
  ·exact .inl g
  ·exact .inr (.inl g)
  ·rcases h.lo with g | g | g
   ·exact .inl (Nat.le_trans hl g)
   ·exact .inr (.inl (Nat.le_trans hl g))
   ·exact .inr (.inr g)
end
def zOX (G:GvK) (z:St) (F:Key->Option EndR) (X:Nat->Prop) (e:EndR) (o:yPV) (C:zJR) (pl:Option Addr) (lc:Nat) (who:List Int) (sf:List (Nat × Nat)) (s:St):Prop:=∃ F' X' e' o',GvR G z F X e o C s F' X' e' o'/\Stk s G.n1 pl who.length lc (who.map yB) sf
abbrev zOW (G:GvK) (pl:Option Addr):Nat->Prop:=fun b=>b=G.K.bm\/b=G.Bo\/AtP pl b
def yPU (G:GvK) (rest:List Nat):Prop:=∀ {z:St} {F:Key->Option EndR} {X:Nat->Prop} {e:EndR} {o:yPV} {C:zJR} {who:List Int} {pl:Option Addr} {lc:Nat} {sf:List (Nat × Nat)} {st:Nat->Std},
 GvW G z F X e->EndP z X e o->xO 6 C o->(∀ a v,C a v->v.length=6)->Stk z G.n1 pl who.length lc (who.map yB) sf->(∀ b,AtP pl b->¬ X b)->(∃ pre,G.du=pre++rest/\pre.length=who.length)->(∀ k,k<G.K.m->StG (st k)) ->
 ∃ z',zD Pg 100 (.slice pl who.length lc::.agg ⟨stL st⟩::G.args) z (.tuple ⟨[]⟩) z'/\Only (zOW G pl) z z'/\zOX G z F X e o (fun c v=>C c v\/G.give rest who st c v) pl lc who sf z'
section
variable {G:GvK}
theorem give_nil (ok:G.Ok) (hb:zRO G.K G.r):yPU G []:=by
 intro z F X e o C who pl lc sf st W ep bo hC S hX hd hst;obtain ⟨pre,h1,h2⟩:=hd;have hw:who.length=G.du.length:=by rw [h1];simp [h2]
 obtain ⟨l1,l2,l3,l4,l5,l6,l7,l8⟩:=ok.lt;obtain ⟨z',c,k,F',X',e',o',r⟩:=yNU ok hb W ep bo hC S hX hw hst;exact ⟨z',c,k.mono (fun b _ h=>by rcases h with h | h;exact .inl h;exact .inr (.inl h)),F',X',e',o',r,S.only k (fun b hb h=>by have:=(S.bd b hb).1;omega)⟩
theorem yPI (ok:G.Ok) {m:Nat} (h:G.n1<=m):yU RD m (.func (.func 100) ⟨[]⟩ ⟨G.args⟩)=true:=by
 obtain ⟨l1,l2,l3,l4,l5,l6,l7,l8⟩:=ok.lt;show ((true && true) && (Nat.blt G.Bu m && (Nat.blt G.Bq m && (Nat.blt G.Bs m && (Nat.blt G.Bo m && (Nat.blt G.Bg m && (Nat.blt G.By m && true)))))))=true;rw [(xW _ _).2 (by omega:G.Bu<m),(xW _ _).2 (by omega:G.Bq<m),(xW _ _).2 (by omega:G.Bs<m),(xW _ _).2 (by omega:G.Bo<m),(xW _ _).2 (by omega:G.Bg<m),(xW _ _).2 (by omega:G.By<m)];rfl
theorem bel_may (ok:G.Ok) {m:Nat} (h:G.n1<=m):yU RD m (.func (.func 99) ⟨[.pointer (some ⟨G.K.Bp,0,none⟩)]⟩ ⟨[]⟩)=true:=by
 obtain ⟨l1,l2,l3,l4,l5,l6,l7,l8⟩:=ok.lt;show ((Nat.blt G.K.Bp m && true) && true)=true;rw [(xW _ _).2 (by omega:G.K.Bp<m)];rfl
theorem zZF (ok:G.Ok) {i:Nat} {rest:List Nat} (ih:yPU G rest) {z y:St} {F F':Key->Option EndR} {X X':Nat->Prop} {e e':EndR} {o o':yPV} {C:zJR} {who:List Int} {pl:Option Addr} {lc:Nat} {sf:List (Nat × Nat)} {st:Nat->Std} {x:Int}
  (R:GvR G z F X e o C y F' X' e' o') (hC:∀ a v,C a v->v.length=6) (S:Stk y G.n1 pl who.length lc (who.map yB) sf) (hX:∀ b,AtP pl b->¬ X b) (hz:∀ b,AtP pl b->b<z.next) (hzy:z.next<=y.next) (hd:∃ pre,G.du=pre++i::rest/\pre.length=who.length) (hst:∀ k,k<G.K.m->StG (st k)) :
  ∃ p' c' y4 y5,yN Pg 26 26 (.slice pl who.length lc) (.slice (some ⟨y.next,0,none⟩) 1 1) (y.row [yB x] 1)=some (.slice p' (who.length+1) c',y4)/\Only (AtP pl) y y4/\(∀ b,AtP p' b->AtP pl b\/y.next<=b)/\(∀ b,AtP p' b->b<y4.next)/\y4.low<=y.low /\
   zD Pg 100 (.slice p' (who.length+1) c'::.agg ⟨stL st⟩::G.args) y4 (.tuple ⟨[]⟩) y5/\Only (fun b=>b=G.K.bm\/b=G.Bo\/AtP p' b) y4 y5/\GvW G y4 F' X' e'/\y5.low<=y.low /\
   zOX G z F X e o (fun c v=>C c v\/G.give rest (who++[x]) st c v) pl lc who sf y5:=by
 obtain ⟨pre,hd1,hd2⟩:=hd;have hlen:who.length+1<=1073741824:=by
  have h1:=zDO (w:=G.K.w) (D:=G.D) (j:=G.K.l);have h2:=ok.ok.sn.l12;have h3:(yC G.K.w G.D G.K.l).length=pre.length+(rest.length+1):=by
   show G.du.length=_;rw [hd1];simp
  omega
 have hxp:∀ b,AtP pl b->¬ X' b:=fun b hb hx=>by
  rcases R.x2 b hx with h | h
  ·exact hX b hb h
  ·have:=hz b hb;omega
 have hny:=R.w.nz;obtain ⟨p',c',sf',y4,g1,g2,g3,g4,g5,g6⟩:=S.push (v:=yB x) zHF rfl hlen hny;have hS4:∀ b,AtP pl b->G.n1<=b/\¬ X' b:=fun b hb=>⟨(S.bd b hb).1,hxp b hb⟩
 have R4:=R.step ok g4 hS4 g5;have exs:who.map yB++[yB x]=(who++[x]).map yB:=by simp
 rw [exs] at g2;have el:(who++[x]).length=who.length+1:=by simp
 have n4:=g4.next;rw [<- el] at g2;have hX4:∀ b,AtP p' b->¬ X' b:=fun b hb hx=>by
  rcases g6 b hb with h | h
  ·exact hxp b h hx
  ·have:=(R.w.w.xb b hx).1;omega
 obtain ⟨y5,k5,o5,F5,X5,e5,o5',r5,s5⟩:=ih R4.w R4.ep R4.bo hC g2 hX4 ⟨pre++[i],by rw [hd1];simp,by rw [el];simp [hd2]⟩ hst;have hl5:=zET k5;have s5':Stk y5 G.n1 pl who.length lc (who.map yB) sf:=Kid.pop (by rw [<- exs];exact g3) s5;rw [el] at k5 g2;exact ⟨p',c',y4,y5,g1,g4,g6,fun b hb=>(g2.bd b hb).2,g5,k5,o5,R4.w,by omega,F5,X5,e5,o5',R4.trans r5 (by omega) (by omega),s5'⟩
theorem give_cons (ok:G.Ok) (hb:zRO G.K G.r) {i:Nat} {rest:List Nat} (ih:yPU G rest):yPU G (i::rest):=by
 intro z F X e o C who pl lc sf st W ep bo hC S hX hd hst;suffices hmain:zO Pg 100 (.slice pl who.length lc::.agg ⟨stL st⟩::G.args) z.re fun v s=>Only (zOW G pl) z.re s/\(s.low<z.next\/zV RD v=false\/(v=.tuple ⟨[]⟩/\zOX G z F X e o (fun c v=>C c v\/G.give (i::rest) who st c v) pl lc who sf z))/\(v=.tuple ⟨[]⟩/\zOX G z F X e o (fun c v=>C c v\/G.give (i::rest) who st c v) pl lc who sf s) by
  obtain ⟨v,s,h1,h2,rfl,h3⟩:=mut6 (Q:=fun v s=>v=.tuple ⟨[]⟩/\zOX G z F X e o (fun c v=>C c v\/G.give (i::rest) who st c v) pl lc who sf s) hmain (by
   rintro v s m hm ⟨h1,F',X',e',o',h2,h3⟩;exact ⟨h1,F',X',e',o',h2.low hm,h3.le ⟨Nat.le_refl _,fun _ _=>rfl⟩⟩)
  exact ⟨s,h1,h2,h3⟩
 have zr:z.re.next=z.next:=rfl;obtain ⟨l1,l2,l3,l4,l5,l6,l7,l8⟩:=ok.lt;have hnz:=W.nz;have hAt:∀ b,AtP pl b->G.n1<=b/\b<z.next:=fun b hb=>S.bd b hb
 have hm6:=ok.ok.sn.m6;have hwm:=ok.ok.wk.len.2;have hwl:=ok.ok.wk.len.1;obtain ⟨pre,hd1,hd2⟩:=hd;have hlt:who.length<G.du.length:=by rw [hd1];simp;omega
 have hgi:G.du[who.length]?=some i:=by rw [hd1,<- hd2];simp
 have himem:i∈yC G.K.w G.D G.K.l:=List.mem_of_getElem? hgi;obtain ⟨hil,hiD⟩:=zBS.1 himem;have hdt:=ok.ok.sn.duty i hil;have hdo:DtOk (dty G.K.w i):=⟨⟨hdt.1,hdt.2.1⟩,⟨hdt.2.2.1,hdt.2.2.2.1⟩⟩;obtain ⟨τ1,hτ1⟩:∃ τ1,τ1=z.re.row (stL st) 4:=⟨_,rfl⟩;have N1:New z.re τ1:=by rw [hτ1];exact New.row _ _ _
 have nx1:τ1.next=z.next+1:=by rw [hτ1];rfl
 have oN1:Own τ1 z.next (stL st) 4:=by rw [hτ1];exact zC _ _ _
 have L1:Le z τ1:=(le0 z).trans N1.le;have R1:GvR G z F X e o C τ1 F X e o:=⟨W.le L1,ep.le L1,bo,fun _ h=>h,fun _ h=>.inl h,.inr (.inr ⟨rfl,rfl,rfl,rfl⟩)⟩;have S1:=S.le L1;let Cj:Nat->zJR:=fun j c v=>C c v\/((G.K.leaves=true/\G.give rest (who++[-1]) st c v)\/∃ k,k<j/\zGA G.K.w k i (st k)=true/\G.give rest (who++[(k:Int)]) (zWO G.K.w st k i) c v)
 have hCj:∀ j a v,Cj j a v->v.length=6:=by
  rintro j a v (h | ⟨_,h⟩ | ⟨k,_,_,h⟩)
  ·exact hC a v h
  ·exact zSZ.len ok.ok.wfl h
  ·exact zSZ.len ok.ok.wfl h
 let J:Nat->St->Prop:=fun j y=>Only (zOW G pl) z.re y/\τ1.next<=y.next/\zOX G z F X e o (Cj j) pl lc who sf y/\Own y z.next (stL st) 4
 let P0:St->Prop:=fun s=>Only (zOW G pl) z.re s/\(s.low<z.next\/zV RD (.tuple ⟨[]⟩)=false\/((.tuple ⟨[]⟩:Value)=.tuple ⟨[]⟩/\zOX G z F X e o (fun c v=>C c v\/G.give (i::rest) who st c v) pl lc who sf z))/\((.tuple ⟨[]⟩:Value)=.tuple ⟨[]⟩/\zOX G z F X e o (fun c v=>C c v\/G.give (i::rest) who st c v) pl lc who sf s)
 have hdone:∀ y,J G.K.m y->P0 y:=by
  rintro y ⟨a1,a2,⟨F',X',e',o',r,s⟩,a3⟩;have r':GvR G z F X e o (fun c v=>C c v\/G.give (i::rest) who st c v) y F' X' e' o':=r.iff fun a v=>by
   show Cj G.K.m a v↔_;rw [show G.give (i::rest) who st a v↔_ from Give_cons,hwm]
  refine ⟨a1, ?_,rfl,F',X',e',o',r',s⟩
  have f0:=ok.f0;rcases r'.lo with g | g | ⟨rfl,rfl,rfl,rfl⟩
  ·exact .inl (by omega)
  ·exact .inl (by omega)
  ·exact .inr (.inr ⟨rfl,F',X',e',o',GvR.self W ep r'.bo,S⟩)
 have lg:∀ u,Row u ⟨G.Bg,0,none⟩ [.func (.func 100) ⟨[]⟩ ⟨G.args⟩]->zB Pg u 144 ⟨G.Bg,0,none⟩=some (.func (.func 100) ⟨[]⟩ ⟨G.args⟩):=fun u o=>o.ld agg144 rfl
 have ly:∀ u,Row u ⟨G.By,0,none⟩ [.func (.func 99) ⟨[.pointer (some ⟨G.K.Bp,0,none⟩)]⟩ ⟨[]⟩]->zB Pg u 143 ⟨G.By,0,none⟩=some (.func (.func 99) ⟨[.pointer (some ⟨G.K.Bp,0,none⟩)]⟩ ⟨[]⟩):=fun u o=>o.ld agg143 rfl
 have lq:∀ u,Row u ⟨G.Bq,0,none⟩ [.pointer (some ⟨G.K.Bp,0,none⟩)]->zB Pg u 125 ⟨G.Bq,0,none⟩=some (.pointer (some ⟨G.K.Bp,0,none⟩)):=fun u o=>o.ld uG rfl
 have lu:∀ u,Row u ⟨G.Bu,0,none⟩ [.slice G.pu G.du.length G.cu]->zB Pg u 26 ⟨G.Bu,0,none⟩=some (.slice G.pu G.du.length G.cu):=fun u o=>o.ld yS rfl
 have lsl:∀ u:St,xL Pg (evL [.slice pl who.length lc]) u (.call { callee:=.builtin .len,args:=⟨wU 1⟩,argTypes:=⟨[26]⟩ })=some (iV (who.length:Int)):=fun u=>rfl
 have gg:zN RD (.func (.func 100) ⟨[]⟩ ⟨G.args⟩)=true:=rfl;have gy:zN RD (.func (.func 99) ⟨[.pointer (some ⟨G.K.Bp,0,none⟩)]⟩ ⟨[]⟩)=true:=rfl;have bw:∀ a,pl=some a->a.block<z.next:=fun a e=>(hAt a.block ⟨a,e,rfl⟩).2
 have eas:∀ (y:St) (p':Option Addr) (y4 y5:St),Only (zOW G pl) z.re y->z.next<y.next->Only (AtP pl) y y4->(∀ b,AtP p' b->AtP pl b\/y.next<=b)->Only (fun b=>b=G.K.bm\/b=G.Bo\/AtP p' b) y4 y5->Only (zOW G pl) z.re y5:=fun y p' y4 y5 h1 h0 h2 h3 h4=>(h1.trans' h2 (fun b _ h=>.inl (.inr (.inr h)))).trans' h4 (fun b _ h=>by
  have hy:=h1.next;rcases h with h | h | h
  ·exact .inl (.inl h)
  ·exact .inl (.inr (.inl h))
  ·rcases h3 b h with g | g
   ·exact .inl (.inr (.inr g))
   ·exact .inr (by omega))
 have hownS:∀ (y:St) (p':Option Addr) (y4 y5:St),z.next<y.next->Only (AtP pl) y y4->(∀ b,AtP p' b->AtP pl b\/y.next<=b)->Only (fun b=>b=G.K.bm\/b=G.Bo\/AtP p' b) y4 y5->Own y z.next (stL st) 4->Own y4 z.next (stL st) 4/\Own y5 z.next (stL st) 4:=fun y p' y4 y5 h1 h2 h3 h4 o=>by
  have o4:=h2.own' o (fun h=>by have:=(hAt _ h).2;omega);refine ⟨o4,h4.own' o4 ?_⟩
  rintro (h | h | h)
  ·omega
  ·omega
  ·rcases h3 _ h with g | g
   ·have:=(hAt _ g).2;omega
   ·omega
 have hloop:∀ y0,J 0 y0->zRG pl who.length lc ⟨G.Bu,0,none⟩ ⟨G.Bg,0,none⟩ ⟨G.By,0,none⟩ z.next G.K.m 0 y0 P0:=by
  intro y0 hJ0;refine yPG (Inv:=fun k i' y=>∃ j:Nat,i'=j/\j+k=G.K.m/\J j y) ?_ G.K.m 0 y0 ⟨0,rfl,by omega,hJ0⟩;rintro k i' y ⟨j,rfl,hk,hJ⟩;obtain ⟨a1,a2,⟨F',X',e',o',r,s⟩,a3⟩:=hJ;by_cases hj:j<G.K.m;rotate_left
  ·have:j=G.K.m:=by omega
   subst this;exact best1_s1c (hdone y ⟨a1,a2,⟨F',X',e',o',r,s⟩,a3⟩) (by omega)
  have hj6:j<6:=by omega
  have W':=r.w;have yn:=a1.next;obtain ⟨s',cm,hs'⟩:=may_c (k:=j) (i:=i) (s:=st j) W'.w.pr (ok.ok.wk.le W'.w.fl) ok.ok.sh hj hil (hst j hj).ok hdo (by omega);obtain ⟨qa,hqa,_⟩:=W'.du.some hlt;have h1:=ly y W'.oy;have h2:=lu y W'.ou;rw [hqa] at h2;have h3:zB Pg y 3 (zM qa (Int.toNat ((who.length:Nat):Int)*1))=some (iV (i:Int)):=W'.du.at hqa (by simp [zPI,hgi]);have h4:=yGD a3 hj6;have hqb:qa.block<y.next:=(W'.w.xb _ (W'.ux _ ⟨qa,hqa,rfl⟩)).1;have h6:zJ y.next [.func (.func 99) ⟨[.pointer (some ⟨G.K.Bp,0,none⟩)]⟩ ⟨[]⟩,iV (j:Int),iV (i:Int),zOA (st j)]:=(zE (bel_may ok (by omega)) (zE rfl (zE rfl (zE (yJ rfl) zI))));obtain ⟨y1,hy1⟩:∃ y1,y1=y.row (zK 0 0 0 0) 4:=⟨_,rfl⟩;have ny1:y1.next=y.next+1:=by rw [hy1];rfl
  have M1:New y y1:=by rw [hy1];exact New.row _ _ _
  have W1:=W'.le M1.le;have h7:zJ y1.next [.pointer (some ⟨y.next,0,none⟩),zOA s']:=(zE (zP (show y.next<y1.next by omega)) (zE (yJ rfl) zI));have h8:=(⟨⟨show G.By<y.next by omega,gy⟩,h1⟩:(G.By<y.next/\_)/\_);have h9:=(⟨⟨show G.By<y1.next by omega,gy⟩,ly y1 W1.oy⟩:(G.By<y1.next/\_)/\_);have h10:=(⟨⟨show G.Bu<y.next by omega,rfl⟩,h2⟩:(G.Bu<y.next/\zN RD (.slice (some qa) G.du.length G.cu)=true)/\_);have h11:=(⟨⟨show G.Bu<y1.next by omega,rfl⟩,by rw [<- hqa];exact lu y1 W1.ou⟩:(G.Bu<y1.next/\zN RD (.slice (some qa) G.du.length G.cu)=true)/\zB Pg y1 26 ⟨G.Bu,0,none⟩=some (.slice (some qa) G.du.length G.cu));have bwy:∀ n,y.next<=n->zJ n [.slice pl who.length lc]:=fun n hn=>zE (xH fun a e=>by have:=bw a e;omega) zI
  have h12:(zJ y.next [.slice pl who.length lc]/\zN RD (iV ((who.length:Nat):Int))=true)/\Callee.builtin .len=Callee.builtin .len/\xL Pg (evL [.slice pl who.length lc]) y (.call { callee:=.builtin .len,args:=⟨wU 1⟩,argTypes:=⟨[26]⟩ })=some (iV (who.length:Int)):=⟨⟨bwy _ (Nat.le_refl _),rfl⟩,rfl,lsl y⟩;have h13:(zJ y1.next [.slice pl who.length lc]/\zN RD (iV ((who.length:Nat):Int))=true)/\Callee.builtin .len=Callee.builtin .len/\xL Pg (evL [.slice pl who.length lc]) y1 (.call { callee:=.builtin .len,args:=⟨wU 1⟩,argTypes:=⟨[26]⟩ })=some (iV (who.length:Int)):=⟨⟨bwy _ (by omega),rfl⟩,rfl,lsl y1⟩;have h14:=(⟨⟨hqb,rfl⟩,h3⟩:(qa.block<y.next/\zN RD (iV (i:Int))=true)/\_);have h15:((zM qa (Int.toNat ((who.length:Nat):Int)*1)).block<y1.next/\zN RD (iV (i:Int))=true)/\zB Pg y1 3 (zM qa (Int.toNat ((who.length:Nat):Int)*1))=some (iV (i:Int)):=⟨⟨show qa.block<y1.next by omega,rfl⟩,W1.du.at hqa (by simp [zPI,hgi])⟩;have h16:=(⟨⟨show z.next<y.next by omega,rfl⟩,h4⟩:(z.next<y.next/\zN RD (zOA (st j))=true)/\_);have h17:=(⟨⟨show z.next<y1.next by omega,rfl⟩,yGD (a3.le M1.le) hj6⟩:(z.next<y1.next/\zN RD (zOA (st j))=true)/\_);obtain ⟨y2,hy2⟩:∃ y2,y2=y1.own y.next (zFX s') 4:=⟨_,rfl⟩;have ny2:y2.next=y.next+1:=by rw [hy2];exact ny1
  have M2:New y y2:=by rw [hy2];exact M1.own (Nat.le_refl _)
  have lo2:y2.low<=y.low:=by rw [hy2,hy1];simp [St.own];omega
  have oS2:Own y2 y.next (zFX s') 4:=by rw [hy2,hy1];exact (zC _ _ _).put
  have R2:=r.new ok M2 lo2;have s2:=s.le M2.le;have a32:=a3.le M2.le;have k2:Only (zOW G pl) z.re y2:=a1.trans' M2.only (T:=fun _=>False) (fun b _ h=>h.elim);have u1:(j:Int)<((G.K.m:Nat):Int):=by omega
  have u2:Ix ((who.length:Nat):Int) G.du.length:=⟨by omega,by omega⟩;have u3:Ix (j:Int) 6:=⟨by omega,by omega⟩;have u4:I6 ((j:Int)+1):=⟨by omega,by omega⟩;have b5:G.By<y.next:=by omega
  have b0:G.Bu<y.next:=by omega
  have bB:z.next<y.next:=by omega
  have bwy':∀ a,pl=some a->a.block<y.next:=fun a e=>by have:=bw a e;omega
  cases hmb:zGA G.K.w j i (st j) with
  | false =>
   rw [hmb] at cm;have nx:∃ k',k' < k/\∃ j':Nat,(j:Int)+1=j'/\j'+k'=G.K.m/\J j' y2:=⟨k-1,by omega,j+1,by omega,by omega,k2,by omega,⟨F',X',e',o',R2.iff fun a v=>by
    show Cj j a v↔Cj (j+1) a v;constructor
    ·rintro (h | h | ⟨q,h1,h2⟩)
     ·exact .inl h
     ·exact .inr (.inl h)
     ·exact .inr (.inr ⟨q,by omega,h2⟩)
    ·rintro (h | h | ⟨q,h1,h2,h3⟩)
     ·exact .inl h
     ·exact .inr (.inl h)
     ·by_cases hq:q=j
      ·subst hq;rw [hmb] at h2;cases h2
      ·exact .inr (.inr ⟨q,by omega,h2,h3⟩),s2⟩,a32⟩
   subst hy2 hy1;exact best1_s1b h1 h2 h3 h4 cm h6 h7 h8 h9 h10 h11 h12 h13 h14 h15 h16 h17 bwy' nx u1 u2 u3 u4 b5 b0 hqb bB
  | true =>
   rw [hmb] at cm;have es':=hs' hmb;have h18:=vZ a32;obtain ⟨y3,hy3⟩:∃ y3,y3=y2.row zFU 4:=⟨_,rfl⟩;have ny3:y3.next=y.next+2:=by rw [hy3];show y2.next+1=_;omega
   have M3:New y2 y3:=by rw [hy3];exact New.row _ _ _
   have o3:Own y3 (y.next+1) zFU 4:=by rw [hy3,<- ny2];exact zC _ _ _
   have h19:=zVK (show Own y3 (y.next+1) (stL fun _=>zVA) 4 from o3) st;obtain ⟨y4,hy4⟩:∃ y4,y4=y3.own (y.next+1) (stL st) 4:=⟨_,rfl⟩;have ny4:y4.next=y.next+2:=by rw [hy4];exact ny3
   have M4:New y2 y4:=by rw [hy4];exact M3.own (by omega)
   have o4:Own y4 (y.next+1) (stL st) 4:=by rw [hy4];exact o3.put
   have h20:zB Pg y4 107 ⟨y.next,0,none⟩=some (zOA s'):=(oS2.le M4.le).rw.ldN vN xB (k:=0) (ds:=zFX s') rfl rfl (nle rfl);have h21:=yQN o4 hj6 s';obtain ⟨y5,hy5⟩:∃ y5,y5=y4.own (y.next+1) (stL (upd st j s')) 4:=⟨_,rfl⟩;have ny5:y5.next=y.next+2:=by rw [hy5];exact ny4
   have M5:New y2 y5:=by rw [hy5];exact M4.own (by omega)
   have o5:Own y5 (y.next+1) (stL (upd st j s')) 4:=by rw [hy5];exact o4.put
   have lo5:y5.low<=y2.low:=by rw [hy5,hy4,hy3];simp [St.own];omega
   rw [<- hy4] at h19;rw [<- hy5] at h21;have R5:=R2.new ok M5 lo5;have s5:=s2.le M5.le;have W5:=R5.w;have h22:=lg y5 W5.og;have k5:Only (zOW G pl) z.re y5:=k2.trans' M5.only (T:=fun _=>False) (fun b _ h=>h.elim);have hst':∀ q,q<G.K.m->StG (upd st j s' q):=fun q hq=>by
    unfold upd;by_cases e1:q=j
    ·subst e1;rw [if_pos rfl,es'];have hmb2:=hmb;unfold zGA at hmb2;have hu:=of_decide_eq_true (Bool.and_eq_true_iff.1 hmb2).2;exact (hst q hq).take ⟨hdt.1,hdt.2.1⟩ ⟨hdt.2.2.1,hdt.2.2.2.1⟩ (by omega) (by have:=ok.ok.sn.hours;omega)
    ·rw [if_neg e1];exact hst q hq
   obtain ⟨p',c',y6,y7,g1,g2,g3,g4,g5,g6,g7,g8,g9,g10⟩:=zZF (x:=(j:Int)) ok ih R5 (hCj j) s5 hX (fun b hb=>(hAt b hb).2) (by omega) ⟨pre,hd1,hd2⟩ hst';have n6:=g2.next;have o6:Own y6 (y.next+1) (stL (upd st j s')) 4:=g2.own' o5 (fun h=>by have:=(hAt _ h).2;omega);have W6:=g8;have h24:=vZ o6;have M5r:Le y5 (y5.row [iV (j:Int)] 1):=Le.row _ _ _;have h26:zJ y5.next [.pointer (some ⟨G.Bg,0,none⟩)]:=(zE (zP (show G.Bg<y5.next by omega)) zI);have h27:zJ (y5.row [iV (j:Int)] 1).next [.slice pl who.length lc,.slice (some ⟨y5.next,0,none⟩) 1 1]:=(zE (xH fun a e=>(show a.block<y5.next+1 by have:=bw a e;omega)) (zE (xH fun a e=>by cases e;show y5.next<y5.next+1;omega) zI));have h28:zJ y6.next [.pointer (some ⟨y.next+1,0,none⟩)]:=(zE (zP (show y.next+1<y6.next by omega)) zI);have h29:zJ y6.next [.func (.func 100) ⟨[]⟩ ⟨G.args⟩,.slice p' (who.length+1) c',.agg ⟨stL (upd st j s')⟩]:=(zE (yPI ok (by omega)) (zE (xH fun a e=>g4 a.block ⟨a,e,rfl⟩) (zE (yJ rfl) zI)));have h30:=(⟨⟨show G.Bg<y5.next by omega,gg⟩,h22⟩:(G.Bg<y5.next/\_)/\_);have h31:=(⟨⟨show G.Bg<(y5.row [iV (j:Int)] 1).next by show G.Bg<y5.next+1;omega,gg⟩,lg _ (W5.og.le M5r)⟩:(G.Bg<(y5.row [iV (j:Int)] 1).next/\_)/\_);have h32:=(⟨⟨show G.Bg<y6.next by omega,gg⟩,lg y6 W6.og⟩:(G.Bg<y6.next/\_)/\_);have h33:=(⟨⟨show y.next+1<y5.next by omega,rfl⟩,vZ o5⟩:(y.next+1<y5.next/\zN RD (.agg ⟨stL (upd st j s')⟩)=true)/\_);have h34:=(⟨⟨show y.next+1<(y5.row [iV (j:Int)] 1).next by show y.next+1<y5.next+1;omega,rfl⟩,vZ (o5.le M5r)⟩:(y.next+1<(y5.row [iV (j:Int)] 1).next/\zN RD (.agg ⟨stL (upd st j s')⟩)=true)/\_);have h35:=(⟨⟨show y.next+1<y6.next by omega,rfl⟩,h24⟩:(y.next+1<y6.next/\zN RD (.agg ⟨stL (upd st j s')⟩)=true)/\_);have nx:∃ k',k' < k/\∃ j':Nat,(j:Int)+1=j'/\j'+k'=G.K.m/\J j' y7:=by
    obtain ⟨F7,X7,e7,o7,r7,s7⟩:=g10;have g7n:=g7.next;refine ⟨k-1,by omega,j+1,by omega,by omega,eas y5 p' y6 y7 k5 (by omega) g2 g3 g7,by omega,⟨F7,X7,e7,o7,r7.iff fun a v=>?_,s7⟩,(hownS y5 p' y6 y7 (by omega) g2 g3 g7 ((a32).le M5.le)).2⟩
    show (Cj j a v\/_)↔Cj (j+1) a v;have etk:zWO G.K.w st j i=upd st j s':=by rw [es'];rfl
    constructor
    ·rintro ((h | h | ⟨q,h1,h2⟩) | h)
     ·exact .inl h
     ·exact .inr (.inl h)
     ·exact .inr (.inr ⟨q,by omega,h2⟩)
     ·exact .inr (.inr ⟨j,by omega,hmb,by rw [etk];exact h⟩)
    ·rintro (h | h | ⟨q,h1,h2,h3⟩)
     ·exact .inl (.inl h)
     ·exact .inl (.inr (.inl h))
     ·by_cases hq:q=j
      ·subst hq;rw [etk] at h3;exact .inr h3
      ·exact .inl (.inr (.inr ⟨q,by omega,h2,h3⟩))
   subst hy3 hy2 hy1;exact best1_s1a h1 h2 h3 h4 cm h6 h7 h8 h9 h10 h11 h12 h13 h14 h15 h16 h17 h18 h19 h20 h21 h22 g1 h24 g6 h26 h27 h28 h29 h30 h31 h32 h33 h34 h35 bwy' nx u1 u2 u3 u4 b5 b0 hqb bB
 have l32:∀ u,Row u ⟨G.K.Bp,0,none⟩ G.K.row->zB Pg u 32 (zM ⟨G.K.Bp,0,none⟩ 2)=some (.slice G.K.q G.K.m G.K.d):=fun u o=>o.load1 uV rfl
 have W1:=R1.w;have h1:=lu τ1 W1.ou;have h2:=lq τ1 W1.oq;have h3:zB Pg τ1 4 (zM ⟨G.K.Bp,0,none⟩ 6)=some (.bool G.K.leaves):=W1.w.pr.load1 agg4 rfl;have u1:¬ ((who.length:Nat):Int)=((G.du.length:Nat):Int):=by omega
 have bg:G.Bg<z.re.next:=by show G.Bg<z.next;omega
 have k0:∀ s,P0 s->zJE pl who.length lc ⟨G.Bu,0,none⟩ ⟨G.Bg,0,none⟩ ⟨G.By,0,none⟩ z.re.next G.K.m s (fun v s=>Only (zOW G pl) z.re s/\(s.low<z.next\/zV RD v=false\/(v=.tuple ⟨[]⟩/\zOX G z F X e o (fun c v=>C c v\/G.give (i::rest) who st c v) pl lc who sf z))/\(v=.tuple ⟨[]⟩/\zOX G z F X e o (fun c v=>C c v\/G.give (i::rest) who st c v) pl lc who sf s)):=fun s h=>yPF h
 cases hlv:G.K.leaves with
 | false =>
  rw [hlv] at h3;have hJ0:J 0 τ1:=⟨N1.only,Nat.le_refl _,⟨F,X,e,o,R1.iff fun a v=>by
   show C a v↔Cj 0 a v;constructor
   ·exact fun h=>.inl h
   ·rintro (h | ⟨h,_⟩ | ⟨q,h,_⟩)
    ·exact h
    ·rw [hlv] at h;cases h
    ·omega,S1⟩,oN1⟩
  have hL:=hloop τ1 hJ0;have h4:=l32 τ1 W1.w.pr;subst hτ1;exact best1_rf h1 h2 h3 h4 hL k0 u1
 | true =>
  rw [hlv] at h3;obtain ⟨p',c',y4,y5,g1,g2,g3,g4,g5,g6,g7,g8,g9,g10⟩:=zZF (x:=-1) ok ih R1 hC S1 hX (fun b hb=>(hAt b hb).2) (by omega) ⟨pre,hd1,hd2⟩ hst;have n4:=g2.next;have n5:=g7.next;have g2':Only (AtP pl) τ1 y4:=g2;obtain ⟨o4,o5⟩:=hownS τ1 p' y4 y5 (by omega) g2 g3 g7 oN1;have M1r:Le τ1 (τ1.row [iV (-1)] 1):=Le.row _ _ _;obtain ⟨F5,X5,e5,o5',r5,s5⟩:=g10;have h4:=lg τ1 W1.og;have h6:=vZ o4;have h8:zJ y4.next [.pointer (some ⟨z.re.next,0,none⟩)]:=(zE (zP (show z.next<y4.next by omega)) zI);have h9:zJ y4.next [.func (.func 100) ⟨[]⟩ ⟨G.args⟩,.slice p' (who.length+1) c',.agg ⟨stL st⟩]:=(zE (yPI ok (by omega)) (zE (xH fun a e=>g4 a.block ⟨a,e,rfl⟩) (zE (yJ rfl) zI)));have h10:=(⟨⟨show G.Bg<τ1.next by omega,gg⟩,h4⟩:(G.Bg<τ1.next/\_)/\_);have h11:=(⟨⟨show G.Bg<(τ1.row [iV (-1)] 1).next by show G.Bg<τ1.next+1;omega,gg⟩,lg _ (W1.og.le M1r)⟩:(G.Bg<(τ1.row [iV (-1)] 1).next/\_)/\_);have h12:=(⟨⟨show G.Bg<y4.next by omega,gg⟩,lg y4 g8.og⟩:(G.Bg<y4.next/\_)/\_);have h13:=vZ oN1;have h14:=vZ (oN1.le M1r);have h15:=(⟨⟨show z.next<y4.next by omega,rfl⟩,h6⟩:(z.next<y4.next/\zN RD (.agg ⟨stL st⟩)=true)/\_);have h16:=lq y5 r5.w.oq;have h17:=l32 y5 r5.w.w.pr;have hJ0:J 0 y5:=⟨eas τ1 p' y4 y5 N1.only (by omega) g2 g3 g7,by omega,⟨F5,X5,e5,o5',r5.iff fun a v=>by
   show _↔Cj 0 a v;constructor
   ·rintro (h | h)
    ·exact .inl h
    ·exact .inr (.inl ⟨hlv,h⟩)
   ·rintro (h | ⟨_,h⟩ | ⟨q,h,_⟩)
    ·exact .inl h
    ·exact .inr h
    ·omega,s5⟩,o5⟩
  have hL:=hloop y5 hJ0;subst hτ1;exact best1_re h1 h2 h3 h4 g1 h6 g6 h8 h9 h10 h11 h12 h13 h14 h15 h16 h17 bw hL k0 u1 bg
theorem give_c (ok:G.Ok) (hb:zRO G.K G.r):∀ rest:List Nat,yPU G rest
 | []=>give_nil ok hb
 | i::rest=>give_cons ok hb (give_c ok hb rest)
end
end Go.Proofs.YtgfiniccfpfplaaGreat
