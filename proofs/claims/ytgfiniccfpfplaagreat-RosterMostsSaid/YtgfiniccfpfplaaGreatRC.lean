
import Derived.Test.YtgfiniccfpfplaaGreatRB
namespace Go.Proofs.YtgfiniccfpfplaaGreat
open Go Go.Lay
set_option linter.unusedVariables false
set_option linter.unusedSimpArgs false
set_option maxRecDepth 20000
def zV (rs:List Int) (i:Nat):Int:=rs.getD i 0
def zJI:Option Nat→Int
 | some i=>(i:Int)
 | none=>-1
section
variable {w:Wk} {ros tru:Nat→Int} {k D i:Nat}
theorem yNW (hi:i<w.duties.length) (hh:his w ros k D i=true) (hb:∀ j,j<i→his w ros k D j=false):xX w ros k D=some i:=by
 rw [yAU hi hh]
 unfold onL
 apply List.filter_eq_nil_iff.2
 intro j hj h
 rw [hb j (List.mem_range.1 hj)] at h;cases h
theorem yNX (hb:∀ j,j<w.duties.length→his w ros k D j=false):xX w ros k D=none:=by
 unfold xX onL
 rw [List.filter_eq_nil_iff.2]
 ·rfl
 ·intro j hj h
  rw [hb j (List.mem_range.1 hj)] at h;cases h
def inR (w:Wk) (ros:Nat→Int) (k:Nat):Nat→Int
 | 0=>(drv w k).row
 | j+1=>vP w ros k j
theorem yIF:∀ {j:Nat},vP w ros k j=if zCN w ros k j then 1+inR w ros k j else 0
 | 0=>rfl
 | j+1=>rfl
end
section
variable {σ:St} {w:Wk} {p q r t:Option Addr} {l m c d rc tc:Nat} {rs ts:List Int} {k D:Nat}
abbrev wkL (w:Wk) (p:Option Addr) (l c:Nat) (q:Option Addr) (m d:Nat):List Value:=wkc w.days p l c q m d w.rest w.run w.hours
theorem zVG (h:WkP σ 92 76 w p l q m) (hr:yI σ r l rs) (hl:l≤100000):zE Tryz.prog 61 [.agg ⟨wkL w p l c q m d⟩,.slice r l rc,iV (k:Int),iV (D:Int)] σ (iV (zJI (xX w (zV rs) k D))) σ:=by
 have hn:=h.len.1
 have hk0:=xG σ.re (wkL w p l c q m d) 6
 have h0:=(h.le (le0 σ)).le (Le.row _ (wkL w p l c q m d) 6)
 have hr0:=(hr.re).le (Le.row _ (wkL w p l c q m d) 6)
 have ldD:zB Tryz.prog (σ.re.row (wkL w p l c q m d) 6) 22 ⟨σ.re.next,1,none⟩=some (.slice p l c):=hk0.ld wR rfl
 refine (ySF (yCR (Inv:=fun k' i τ=>τ=σ.re.row (wkL w p l c q m d) 6∧∃ j:Nat,i=j∧j+k'=l∧∀ i,i<j→his w (zV rs) k D i=false) (Qr:=fun x τ=>τ=σ.re.row (wkL w p l c q m d) 6∧∃ j:Nat,x=j∧xX w (zV rs) k D=some j)
  (Q0:=fun τ=>τ=σ.re.row (wkL w p l c q m d) 6∧xX w (zV rs) k D=none) ?_ l 0 _ ⟨rfl,0,rfl,by omega,fun i h=>by omega⟩) ?_ ?_).pure
 ·rintro k' i τ ⟨rfl,j,rfl,hk,he⟩
  by_cases hj:j<l
  ·obtain ⟨a,rfl,x,hx,l2⟩:=vR hr0 hj
   obtain ⟨b,hb,l3⟩:=h0.dld (i:=j) (k:=0) (n:=(dty w j).day) hj (by omega) rfl
   subst hb
   have gx:zV rs j=x:=yL hx
   by_cases e1:x=(k:Int)
   ·by_cases e2:(dty w j).day=(D:Int)
    ·exact yLU ldD l2 l3 ⟨rfl,j,rfl,yNW (by omega) (by unfold his;simp [gx,e1,e2]) he⟩
    ·refine yLT ldD l2 l3 ⟨k' - 1,by omega,rfl,j+1,by omega,by omega, ?_⟩
     intro i hi
     by_cases e3:i=j
     ·subst e3;unfold his;simp [e2]
     ·exact he i (by omega)
   ·refine yLS ldD l2 ⟨k' - 1,by omega,rfl,j+1,by omega,by omega, ?_⟩
    intro i hi
    by_cases e3:i=j
    ·subst e3;unfold his;simp [gx,e1]
    ·exact he i (by omega)
  ·exact yLR ldD ⟨rfl,yNX fun i hi=>he i (by omega)⟩
 ·rintro x τ ⟨rfl,j,rfl,e⟩
  exact yCP ⟨by rw [e];rfl,Nat.le_refl _⟩
 ·rintro τ ⟨rfl,e⟩
  exact yCQ ⟨by rw [e];rfl,Nat.le_refl _⟩
theorem yAV {o:Option Nat}:0≤zJI o↔o.isSome=true:=by cases o <;> simp [zJI]
theorem yWA (h:WkP σ 92 76 w p l q m) (hr:yI σ r l rs) (hl:l≤100000) (hkm:k<m) (hm:m≤100000) (hD:D≤100000) (hrow:0≤(drv w k).row∧(drv w k).row≤100000):zE Tryz.prog 82 [.agg ⟨wkL w p l c q m d⟩,.slice r l rc,iV (k:Int),iV (D:Int)] σ (iV (vP w (zV rs) k D)) σ:=by
 have hk0:=xG σ.re (wkL w p l c q m d) 6
 have h0:=(h.le (le0 σ)).le (Le.row _ (wkL w p l c q m d) 6)
 have hr0:=(hr.re).le (Le.row _ (wkL w p l c q m d) 6)
 have ldW:zB Tryz.prog (σ.re.row (wkL w p l c q m d) 6) 25 ⟨σ.re.next,0,none⟩=some (.agg ⟨wkL w p l c q m d⟩):=hk0.ldN (k:=0) wH xI (ds:=wkL w p l c q m d) rfl rfl (by simp [wkL])
 have ldV:zB Tryz.prog (σ.re.row (wkL w p l c q m d) 6) 23 ⟨σ.re.next,2,none⟩=some (.slice q m d):=hk0.ld uN rfl
 refine (ySB (yCO (Inv:=fun k' i3 i9 τ=>τ=σ.re.row (wkL w p l c q m d) 6∧∃ j:Nat,k'=j∧j≤D+1∧i3=(j:Int)-1∧i9=(D:Int)+1-j∧vP w (zV rs) k D+(if j=D+1 then 1 else 0)*(inR w (zV rs) k (D+1)-vP w (zV rs) k D)=i9+inR w (zV rs) k j)
  (Q0:=fun i3 i9 τ=>τ=σ.re.row (wkL w p l c q m d) 6∧((i3=-1∧vP w (zV rs) k D=i9+(drv w k).row∧0≤i9∧i9≤200000)∨(0≤i3∧vP w (zV rs) k D=i9))) ?_ (D+1) D 0 _ ⟨rfl,D+1,rfl,Nat.le_refl _,by omega,by omega, ?_⟩) ?_).pure
 ·rintro j i3 i9 τ ⟨rfl,_,rfl,hj,rfl,rfl,he⟩
  cases j with
  | zero =>
   refine yLL ⟨rfl,.inl ⟨by omega, ?_,by omega,by omega⟩⟩
   rw [if_neg (by omega)] at he
   unfold inR at he
   simp only [Int.zero_mul,Int.add_zero] at he
   exact he
  | succ j =>
   have e1:((j+1:Nat):Int)-1=(j:Int):=by omega
   rw [e1]
   have cf:=zVG (c:=c) (d:=d) (rc:=rc) (k:=k) (D:=j) h0 hr0 hl
   have he':vP w (zV rs) k D=(D:Int)+1-((j+1:Nat):Int)+vP w (zV rs) k j:=by
    have e2:inR w (zV rs) k (j+1)=vP w (zV rs) k j:=rfl
    rw [e2] at he
    by_cases e3:j+1=D+1
    ·have:j=D:=by omega
     subst this;omega
    ·rw [if_neg e3] at he
     simp only [Int.zero_mul,Int.add_zero] at he
     exact he
   by_cases hw:zCN w (zV rs) k j=true
   ·have e4:vP w (zV rs) k j=1+inR w (zV rs) k j:=by rw [yIF,if_pos hw]
    refine yLN ldW cf ⟨j,by omega,rfl,j,rfl,by omega,by omega,by omega, ?_⟩ (by omega) (yAV.2 hw)
    rw [if_neg (by omega)]
    simp only [Int.zero_mul,Int.add_zero]
    omega
   ·have e4:vP w (zV rs) k j=0:=by rw [yIF,if_neg hw]
    refine yLM ldW cf ⟨rfl,.inr ⟨by omega,by omega⟩⟩ (by omega) (fun h=>hw (yAV.1 h))
 ·rw [if_pos rfl]
  have e2:inR w (zV rs) k (D+1)=vP w (zV rs) k D:=rfl
  rw [e2]
  simp
 ·rintro i3 i9 τ ⟨rfl,⟨h1,h2,h3,h4⟩ | ⟨h1,h2⟩⟩
  ·obtain ⟨a,rfl,p',l',c',r',n',d',s',j',e',_,_,_,_,hf⟩:=h0.vld yBJ uI hkm
   have ld:=hf 4 (iV (drv w k).row) rfl 3 zR
   refine yCN ldV ld ⟨by rw [h2],Nat.le_refl _⟩ (by omega) (by omega) (by omega)
  ·exact yCM ⟨by rw [h2],Nat.le_refl _⟩ (by omega)
theorem rFree_c (h:WkP σ 92 76 w p l q m) (hr:yI σ r l rs) (ht:yI σ t l ts) (hl:l≤100000) (hkm:k<m) (hm:m≤100000) (hD:D≤100000) (hts:∀ i,i<l→-1000000≤zV ts i∧zV ts i≤1000000):zE Tryz.prog 81 [.agg ⟨wkL w p l c q m d⟩,.slice r l rc,.slice t l tc,iV (k:Int),iV (D:Int)] σ (iV (xS w (zV rs) (zV ts) k D)) σ:=by
 have hn:=h.len.1
 have hk0:=xG σ.re (wkL w p l c q m d) 6
 have h0:=(h.le (le0 σ)).le (Le.row _ (wkL w p l c q m d) 6)
 have hr0:=(hr.re).le (Le.row _ (wkL w p l c q m d) 6)
 have ht0:=(ht.re).le (Le.row _ (wkL w p l c q m d) 6)
 have ldW:zB Tryz.prog (σ.re.row (wkL w p l c q m d) 6) 25 ⟨σ.re.next,0,none⟩=some (.agg ⟨wkL w p l c q m d⟩):=hk0.ldN (k:=0) wH xI (ds:=wkL w p l c q m d) rfl rfl (by simp [wkL])
 have ldV:zB Tryz.prog (σ.re.row (wkL w p l c q m d) 6) 23 ⟨σ.re.next,2,none⟩=some (.slice q m d):=hk0.ld uN rfl
 refine (yWF (yGL (Inv:=fun k' i τ=>τ=σ.re.row (wkL w p l c q m d) 6∧∃ j:Nat,k'=j∧j≤D∧i=(j:Int)-1∧xS w (zV rs) (zV ts) k D=xS w (zV rs) (zV ts) k j)
  (Qr:=fun x τ=>τ=σ.re.row (wkL w p l c q m d) 6∧x=xS w (zV rs) (zV ts) k D)
  (Q0:=fun τ=>τ=σ.re.row (wkL w p l c q m d) 6∧xS w (zV rs) (zV ts) k D=(drv w k).off) ?_ D (D-1) _ ⟨rfl,D,rfl,Nat.le_refl _,rfl,rfl⟩) ?_ ?_ (by omega)).pure
 ·rintro j i τ ⟨rfl,_,rfl,hj,rfl,he⟩
  cases j with
  | zero=>exact ySC ⟨rfl,he⟩
  | succ j =>
   have e1:((j+1:Nat):Int)-1=(j:Int):=by omega
   rw [e1]
   have cf:=zVG (c:=c) (d:=d) (rc:=rc) (k:=k) (D:=j) h0 hr0 hl
   cases hf:xX w (zV rs) k j with
   | some i =>
    rw [hf,show zJI (some i)=(i:Int) from rfl] at cf
    have hi:=(yAT hf).1
    obtain ⟨a,rfl,x,hx,l2⟩:=vR ht0 (show i<l by omega)
    have gx:zV ts i=x:=yL hx
    have hb:=hts i (by omega)
    refine ySE ldW cf l2 ⟨rfl, ?_⟩ (by omega) (by omega) (by omega) (by omega) (by omega)
    rw [he]
    unfold xS
    rw [hf,← gx]
   | none =>
    rw [hf,show zJI none=-1 from rfl] at cf
    refine ySD ldW cf ⟨j,by omega,rfl,j,rfl,by omega,by omega, ?_⟩ (by omega) (by omega) (by omega)
    rw [he]
    show (match xX w (zV rs) k j with | some i=>1440*(j:Int)+zV ts i | none=>xS w (zV rs) (zV ts) k j)=_
    rw [hf]
 ·rintro x τ ⟨rfl,rfl⟩
  exact yGJ ⟨rfl,Nat.le_refl _⟩
 ·rintro τ ⟨rfl,e⟩
  obtain ⟨a,rfl,p',l',c',r',n',d',s',j',e',_,_,_,_,hf⟩:=h0.vld yBJ uI hkm
  have ld:=hf 3 (iV (drv w k).off) rfl 3 zR
  refine yGK ldV ld ⟨by rw [e],Nat.le_refl _⟩ (by omega)
end
end Go.Proofs.YtgfiniccfpfplaaGreat
