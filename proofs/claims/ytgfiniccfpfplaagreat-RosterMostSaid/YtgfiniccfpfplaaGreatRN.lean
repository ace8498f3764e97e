import Derived.Test.YtgfiniccfpfplaaGreatRL
import Derived.Test.YtgfiniccfpfplaaGreatXI

namespace Go.Proofs.YtgfiniccfpfplaaGreat
open Go Go.Lay
set_option linter.unusedVariables false
set_option linter.unusedSimpArgs false
set_option maxRecDepth 20000
theorem appT_bch:AppT Tryz.prog 36 36 45 3:=zRI (by kernel_rfl)
theorem elOk_bch (b:Bch):zIS Tryz.prog 45 3 (yPJ b):=.inr ⟨agg45,yGH,_,rfl,rfl⟩
structure J (Z:St) (wl:List Value) (rv tv:Value) (X:Nat->Prop) (f:Nat->Std) (A:List Bch) (τ:St):Prop where
 new:New Z.re τ
 wk:Row τ ⟨Z.next,0,none⟩ wl
 ro:Row τ ⟨Z.next+1,0,none⟩ [rv]
 tr:Row τ ⟨Z.next+2,0,none⟩ [tv]
 nw:Own τ (Z.next+4) (stL f) 4
 out:∃ po co,Own τ (Z.next+3) [.slice po A.length co] 1/\Gr Tryz.prog τ (Z.next+5) 45 3 po A.length co (A.map yPJ)/\∀ b,AtP po b->¬ X b
section
variable {Z τ τ':St} {wl:List Value} {rv tv:Value} {X:Nat->Prop} {f:Nat->Std} {A:List Bch}
theorem J.le (h:J Z wl rv tv X f A τ) (k:Le τ τ') (n:New Z.re τ'):J Z wl rv tv X f A τ':=by
 obtain ⟨po,co,h1,h2,h3⟩:=h.out;exact ⟨n,h.wk.le k,h.ro.le k,h.tr.le k,h.nw.le k,po,co,h1.le k,h2.le k,h3⟩
theorem J.mono {Y:Nat->Prop} (h:J Z wl rv tv X f A τ) (k:∀ b,b<τ.next->Z.next+5<=b->Y b->X b):J Z wl rv tv Y f A τ:=by
 obtain ⟨po,co,h1,h2,h3⟩:=h.out;exact ⟨h.new,h.wk,h.ro,h.tr,h.nw,po,co,h1,h2,fun b hb hy=>h3 b hb (k b (h2.bd hb).2 (h2.bd hb).1 hy)⟩
theorem J.push (h:J Z wl rv tv X f A τ) (k:Le τ τ') (n:New Z.re τ') (b:Bch) (hA:A.length<=1000) (hX3:¬ X (Z.next+3)) (hX:∀ x,X x->x<τ.next) :
    ∃ po co,zB Tryz.prog τ' 36 ⟨Z.next+3,0,none⟩=some (.slice po A.length co)/\∃ p' c' τ2,yN Tryz.prog 36 36 (.slice po A.length co) (.slice (some ⟨τ'.next,0,none⟩) 1 1) (τ'.row (rcd b.kind b.drv b.dut) 3)=some (.slice p' (A++[b]).length c',τ2) /\
      zQ Tryz.prog (evL [.pointer (some ⟨Z.next+3,0,none⟩),.slice p' (A++[b]).length c']) τ2 (.store 36 (.tmp 0) (.tmp 1))=some (undef,τ2.own (Z.next+3) [.slice p' (A++[b]).length c'] 1) /\
      J Z wl rv tv X f (A++[b]) (τ2.own (Z.next+3) [.slice p' (A++[b]).length c'] 1)/\Only (fun x=>¬ X x) τ' (τ2.own (Z.next+3) [.slice p' (A++[b]).length c'] 1):=by
  obtain ⟨po,co,o,hg,hf⟩:=h.out;have hnx:Z.next+5<=τ.next:=by have:=h.nw.lt;omega
  obtain ⟨p',c',τ2,g1,g2,g3,g4⟩:=yNP (yPJ b) appT_bch hg k (elOk_bch b) (by omega) hnx;have el:(A++[b]).length=A.length+1:=by simp
  rw [<- el] at g1;have g2':Gr Tryz.prog τ2 (Z.next+5) 45 3 p' (A++[b]).length c' ((A++[b]).map yPJ):=by rw [el,List.map_append];exact g2
  have hpo:∀ x,AtP po x->Z.next+5<=x:=fun x hx=>(hg.bd hx).1
  have O1:Only (AtP po) τ' τ2:=(Only.row τ' _ _).trans' g3 (fun b _ hb=>.inl hb);have o':Own τ' (Z.next+3) [.slice po A.length co] 1:=o.le k;have o2:Own τ2 (Z.next+3) [.slice po A.length co] 1:=O1.own' o' (fun hx=>by have:=hpo _ hx;omega);have hp':∀ x,AtP p' x->Z.next+5<=x:=fun x hx=>(g2'.bd hx).1
  have nkeep:∀ {a:Addr} {cs:List Value},Row τ a cs->a.block<Z.next+3->Row (τ2.own (Z.next+3) [.slice p' (A++[b]).length c'] 1) a cs:=fun hr hlt=>(O1.rw' (hr.le k) (fun hx=>by have:=hpo _ hx;omega)).own (by omega)
  have O2:Only (fun x=>¬ X x) τ' (τ2.own (Z.next+3) [.slice p' (A++[b]).length c'] 1):=by
    refine (O1.mono (T:=fun x=>¬ X x) (fun x _ hx=>hf x hx)).trans' (Only.own (S:=(·=Z.next+3)) (.inr rfl)) ?_
    rintro x _ rfl;exact .inl hX3
  refine ⟨po,co,o'.ld (k:=0) rfl yPP rfl,p',c',τ2,g1,o2.store (k:=0) (vs:=[.slice p' (A++[b]).length c']) rfl yQS rfl (by simp) rfl,⟨?_,nkeep h.wk (by show Z.next<_;omega),nkeep h.ro (by show Z.next+1<_;omega),nkeep h.tr (by show Z.next+2<_;omega), ?_,p',c',o2.put, ?_, ?_⟩,O2⟩
  · exact (n.of_only O1 (fun x hx=>by have:=hpo x hx;show Z.next<=x;omega)).own (by show Z.next<=Z.next+3;omega)
  · exact (O1.own' (h.nw.le k) (fun hx=>by have:=hpo _ hx;omega)).own (by omega)
  · exact g2'.only (Only.own (S:=(·=Z.next+3)) (.inr rfl)) (fun x hx e=>by have:=hp' x hx;omega)
  · intro x hx hXx;rcases g4 x hx with h1 | h1
    · exact hf x h1 hXx
    · have:=hX x hXx;have:=k.next;omega
theorem J.take (h:J Z wl rv tv X f A τ) {i:Nat} (hi:i<6) (s:Std) (hX4:¬ X (Z.next+4)) :
    zQ Tryz.prog (evL [.pointer (some ⟨Z.next+4,0+Int.toNat (i:Int)*4,none⟩),zOA s]) τ (.store 107 (.tmp 0) (.tmp 1))=some (undef,τ.own (Z.next+4) (stL (upd f i s)) 4) /\
      J Z wl rv tv X (upd f i s) A (τ.own (Z.next+4) (stL (upd f i s)) 4)/\Only (fun x=>¬ X x) τ (τ.own (Z.next+4) (stL (upd f i s)) 4):=by
  obtain ⟨po,co,o,hg,hf⟩:=h.out;refine ⟨yQN h.nw hi s,⟨h.new.own (by show Z.next<=Z.next+4;omega),h.wk.own (by show Z.next≠_;omega),h.ro.own (by show Z.next+1≠_;omega),h.tr.own (by show Z.next+2≠_;omega),h.nw.put,po,co,o.own (by omega), ?_,hf⟩, ?_⟩
  · exact hg.only (Only.own (S:=(·=Z.next+4)) (.inr rfl)) (fun x hx e=>by have:=(hg.bd hx).1;omega)
  · exact (Only.own (S:=(·=Z.next+4)) (.inr rfl)).mono (fun x _ e=>by rw [e];exact hX4)
end
end Go.Proofs.YtgfiniccfpfplaaGreat

namespace Go.Proofs.YtgfiniccfpfplaaGreat
open Go Go.Lay
set_option linter.unusedVariables false
set_option linter.unusedSimpArgs false
set_option maxRecDepth 20000
def zOS (w:Wk) (k i:Nat) (s:Std) (j:Nat):List Bch:=(List.range j).filterMap fun n=>if holds w n (drv w k) (dty w i) s then none else some ⟨n,k,i⟩
theorem cellQ_s {w:Wk} {k i:Nat} {s:Std} {j:Nat}:zOS w k i s (j+1)=zOS w k i s j++(if holds w j (drv w k) (dty w i) s then [] else [⟨j,k,i⟩]):=by
 unfold zOS;rw [List.range_succ,List.filterMap_append];simp only [List.filterMap_cons,List.filterMap_nil];split <;> simp_all
theorem cellQ_len {w:Wk} {k i:Nat} {s:Std} {j:Nat}:(zOS w k i s j).length<=j:=by
 unfold zOS;have:=List.length_filterMap_le (fun n=>if holds w n (drv w k) (dty w i) s=true then none else some (⟨n,k,i⟩:Bch)) (List.range j);simpa using this
abbrev yCS:List Value:=[.int .u8 0,.func (.func 92) ⟨[]⟩ ⟨[]⟩,.int .u8 1,.func (.func 93) ⟨[]⟩ ⟨[]⟩,.int .u8 2,.func (.func 94) ⟨[]⟩ ⟨[]⟩,.int .u8 3,.func (.func 95) ⟨[]⟩ ⟨[]⟩,.int .u8 4,.func (.func 96) ⟨[]⟩ ⟨[]⟩]
section
variable {Z τ:St} {w:Wk} {p q:Option Addr} {l m c d:Nat} {rv tv:Value} {X:Nat->Prop} {f:Nat->Std} {A:List Bch}
theorem zVO {b j:Nat} (h:Row τ ⟨b,0,none⟩ yCS) (hj:j<5):zB Tryz.prog τ 118 (zM ⟨b,0,none⟩ (Int.toNat (j:Int)*2))=some (.agg ⟨[.int .u8 (j:Int),.func (.func (92+j)) ⟨[]⟩ ⟨[]⟩]⟩):=by
 rw [Int.toNat_natCast];match j,hj with
 | 0,_=>exact h.loadN (k:=0) zPQ zCW rfl rfl (by simp)
 | 1,_=>exact h.loadN (k:=2) zPQ zCW rfl rfl (by simp)
 | 2,_=>exact h.loadN (k:=4) zPQ zCW rfl rfl (by simp)
 | 3,_=>exact h.loadN (k:=6) zPQ zCW rfl rfl (by simp)
 | 4,_=>exact h.loadN (k:=8) zPQ zCW rfl rfl (by simp)
theorem ask_loop {lo B3 bq k i:Nat} (h:WkP Z 85 88 w p l q m) (hsh:zAQ w) (hm:m<=6) (hk:k<m) (hi:i<l) (hs:StOk (f k)) (hx:DtOk (dty w i)) (hA:A.length<=500)
  (hJ:J Z (wkc w.days p l c q m d w.rest w.run w.hours) rv tv X f A τ) (hB:Row τ ⟨B3,0,none⟩ (zF (dty w i).day (dty w i).on (dty w i).lo (dty w i).hi (dty w i).route)) (hq:Row τ ⟨bq,0,none⟩ yCS)
  (hXB:X B3) (hXq:X bq) (hX3:¬ X (Z.next+3)) (hX:∀ x,X x->x<τ.next) :
  zSS lo Z.next (Z.next+2) (Z.next+3) (Z.next+4) (i:Int) B3 (k:Int) (some ⟨bq,0,none⟩) 5 5 0 τ (fun z=>J Z (wkc w.days p l c q m d w.rest w.run w.hours) rv tv X f (A++zOS w k i (f k) 5) z/\Only (fun x=>¬ X x) τ z):=by
 refine yIU (Inv:=fun k' i35 z=>∃ j:Nat,i35=j/\j+k'=5/\J Z (wkc w.days p l c q m d w.rest w.run w.hours) rv tv X f (A++zOS w k i (f k) j) z/\Only (fun x=>¬ X x) τ z) ?_ 5 0 τ ⟨0,rfl,rfl,by simpa [zOS] using hJ,Only.refl _ _⟩;rintro k' i35 z ⟨j,rfl,hk',hJz,O⟩;by_cases hj:j<5;rotate_left
 ·have:j=5:=by omega
  subst this;exact yVX ⟨hJz,O⟩ (by omega)
 have hqz:Row z ⟨bq,0,none⟩ yCS:=O.rw' hq (fun hh=>hh hXq);have hBz:=O.rw' hB (fun hh=>hh hXB);obtain ⟨z1,hz1⟩:∃ z1,z1=(z.row [.int .u8 0,.nilFunc] 2).own z.next [.int .u8 (j:Int),.func (.func (92+j)) ⟨[]⟩ ⟨[]⟩] 2:=⟨_,rfl⟩;have L1:Le z z1:=by rw [hz1];exact (Le.row z [.int .u8 0,.nilFunc] 2).own (Nat.le_refl _)
 have N1:New Z.re z1:=by rw [hz1];exact hJz.new.row'.own hJz.new.le.next
 have O1:Only (fun x=>¬ X x) z z1:=by
  have:New z z1:=by rw [hz1];exact (New.row z [.int .u8 0,.nilFunc] 2).own (Nat.le_refl _)
  exact this.only
 have J1:=hJz.le L1 N1;have LS:Le Z z1:=(le0 Z).trans N1.le;have lw:zB Tryz.prog z1 34 ⟨Z.next,0,none⟩=some (.agg ⟨wkc w.days p l c q m d w.rest w.run w.hours⟩):=J1.wk.ldN (k:=0) xM yT (ds:=wkc w.days p l c q m d w.rest w.run w.hours) rfl rfl (by simp);have lb:zB Tryz.prog z1 85 ⟨B3,0,none⟩=some (zBT (dty w i)):=(hBz.le L1).ldN (k:=0) zOU vX (ds:=zF (dty w i).day (dty w i).on (dty w i).lo (dty w i).hi (dty w i).route) rfl rfl (by simp);have ls:=yGD J1.nw (i:=k) (by omega);have ca:=ask_c (c:=c) (d:=d) (h.le LS) hsh hk hs hx hj;have es:=cellQ_s (w:=w) (k:=k) (i:=i) (s:=f k) (j:=j);have hcl:=cellQ_len (w:=w) (k:=k) (i:=i) (s:=f k) (j:=j);cases hb:holds w j (drv w k) (dty w i) (f k) with
 | true =>
  rw [hb] at ca es;rw [if_pos rfl,List.append_nil] at es;rw [hz1] at lw lb ls ca J1 O1;refine yVZ (zVO hqz hj) lw lb ls ca ⟨k' - 1,by omega,j+1,by omega,by omega, ?_,O.trans' O1 (fun b _ hb=>.inl hb)⟩ (by omega) (by omega) (by omega) (by omega);rw [es];exact J1
 | false =>
  rw [hb] at ca es;rw [if_neg (by simp)] at es;obtain ⟨po,co,g1,p',c',z2,g2,g3,g4,g5⟩:=hJz.push L1 N1 ⟨j,k,i⟩ (by rw [List.length_append];omega) hX3 (fun x hx=>Nat.lt_of_lt_of_le (hX x hx) O.next);rw [hz1] at lw lb ls ca g1 g2 O1 g5;refine yVY (zVO hqz hj) lw lb ls ca g1 g2 g3 ⟨k' - 1,by omega,j+1,by omega,by omega, ?_,(O.trans' O1 (fun b _ hb=>.inl hb)).trans' g5 (fun b _ hb=>.inl hb)⟩ (by omega) (by omega) (by omega) (by omega);rw [es,<- List.append_assoc];exact g4
end
end Go.Proofs.YtgfiniccfpfplaaGreat
