
import Derived.Test.YtgfiniccfpfplaaGreatRB
namespace Go.Proofs.YtgfiniccfpfplaaGreat
open Go Go.Lay
set_option linter.unusedVariables false
set_option linter.unusedSimpArgs false
set_option maxRecDepth 20000
def zR (rs:List Int) (i:Nat):Int:=rs.getD i 0
def zGR:Option Nat→Int
 | some i=>(i:Int)
 | none=>-1
section
variable {w:Wk} {ros tru:Nat→Int} {k D i:Nat}
theorem yQI (hi:i<w.duties.length) (hh:his w ros k D i=true) (hb:∀ j,j<i→his w ros k D j=false):yN w ros k D=some i:=by
 rw [yCI hi hh]
 unfold onL
 apply List.filter_eq_nil_iff.2
 intro j hj h
 rw [hb j (List.mem_range.1 hj)] at h;cases h
theorem yQJ (hb:∀ j,j<w.duties.length→his w ros k D j=false):yN w ros k D=none:=by
 unfold yN onL
 rw [List.filter_eq_nil_iff.2]
 ·rfl
 ·intro j hj h
  rw [hb j (List.mem_range.1 hj)] at h;cases h
def inR (w:Wk) (ros:Nat→Int) (k:Nat):Nat→Int
 | 0=>(drv w k).row
 | j+1=>uA w ros k j
theorem yKF:∀ {j:Nat},uA w ros k j=if zDB w ros k j then 1+inR w ros k j else 0
 | 0=>rfl
 | j+1=>rfl
end
section
variable {σ:St} {w:Wk} {p q r t:Option Addr} {l m c d rc tc:Nat} {rs ts:List Int} {k D:Nat}
abbrev wkL (w:Wk) (p:Option Addr) (l c:Nat) (q:Option Addr) (m d:Nat):List Value:=wkc w.days p l c q m d w.rest w.run w.hours
theorem zQJ (h:WkP σ 92 76 w p l q m) (hr:yG σ r l rs) (hl:l≤100000):zE Tryz.prog 61 [.agg ⟨wkL w p l c q m d⟩,.slice r l rc,iV (k:Int),iV (D:Int)] σ (iV (zGR (yN w (zR rs) k D))) σ:=by
 have hn:=h.len.1
 have hk0:=xE σ.re (wkL w p l c q m d) 6
 have h0:=(h.le (le0 σ)).le (Le.row _ (wkL w p l c q m d) 6)
 have hr0:=(hr.re).le (Le.row _ (wkL w p l c q m d) 6)
 have ldD:zB Tryz.prog (σ.re.row (wkL w p l c q m d) 6) 22 ⟨σ.re.next,1,none⟩=some (.slice p l c):=hk0.ld wS rfl
 refine (yUR (yEH (Inv:=fun k' i τ=>τ=σ.re.row (wkL w p l c q m d) 6∧∃ j:Nat,i=j∧j+k'=l∧∀ i,i<j→his w (zR rs) k D i=false) (Qr:=fun x τ=>τ=σ.re.row (wkL w p l c q m d) 6∧∃ j:Nat,x=j∧yN w (zR rs) k D=some j)
  (Q0:=fun τ=>τ=σ.re.row (wkL w p l c q m d) 6∧yN w (zR rs) k D=none) ?_ l 0 _ ⟨rfl,0,rfl,by omega,fun i h=>by omega⟩) ?_ ?_).pure
 ·rintro k' i τ ⟨rfl,j,rfl,hk,he⟩
  by_cases hj:j<l
  ·obtain ⟨a,rfl,x,hx,l2⟩:=vW hr0 hj
   obtain ⟨b,hb,l3⟩:=h0.dld (i:=j) (k:=0) (n:=(dty w j).day) hj (by omega) rfl
   subst hb
   have gx:zR rs j=x:=yM hx
   by_cases e1:x=(k:Int)
   ·by_cases e2:(dty w j).day=(D:Int)
    ·exact yOA ldD l2 l3 ⟨rfl,j,rfl,yQI (by omega) (by unfold his;simp [gx,e1,e2]) he⟩
    ·refine yNZ ldD l2 l3 ⟨k' - 1,by omega,rfl,j+1,by omega,by omega, ?_⟩
     intro i hi
     by_cases e3:i=j
     ·subst e3;unfold his;simp [e2]
     ·exact he i (by omega)
   ·refine yNY ldD l2 ⟨k' - 1,by omega,rfl,j+1,by omega,by omega, ?_⟩
    intro i hi
    by_cases e3:i=j
    ·subst e3;unfold his;simp [gx,e1]
    ·exact he i (by omega)
  ·exact yNX ldD ⟨rfl,yQJ fun i hi=>he i (by omega)⟩
 ·rintro x τ ⟨rfl,j,rfl,e⟩
  exact yEF ⟨by rw [e];rfl,Nat.le_refl _⟩
 ·rintro τ ⟨rfl,e⟩
  exact yEG ⟨by rw [e];rfl,Nat.le_refl _⟩
theorem yCJ {o:Option Nat}:0≤zGR o↔o.isSome=true:=by cases o <;> simp [zGR]
theorem yYR (h:WkP σ 92 76 w p l q m) (hr:yG σ r l rs) (hl:l≤100000) (hkm:k<m) (hm:m≤100000) (hD:D≤100000) (hrow:0≤(drv w k).row∧(drv w k).row≤100000):zE Tryz.prog 82 [.agg ⟨wkL w p l c q m d⟩,.slice r l rc,iV (k:Int),iV (D:Int)] σ (iV (uA w (zR rs) k D)) σ:=by
 have hk0:=xE σ.re (wkL w p l c q m d) 6
 have h0:=(h.le (le0 σ)).le (Le.row _ (wkL w p l c q m d) 6)
 have hr0:=(hr.re).le (Le.row _ (wkL w p l c q m d) 6)
 have ldW:zB Tryz.prog (σ.re.row (wkL w p l c q m d) 6) 25 ⟨σ.re.next,0,none⟩=some (.agg ⟨wkL w p l c q m d⟩):=hk0.ldN (k:=0) wK xN (ds:=wkL w p l c q m d) rfl rfl (by simp [wkL])
 have ldV:zB Tryz.prog (σ.re.row (wkL w p l c q m d) 6) 23 ⟨σ.re.next,2,none⟩=some (.slice q m d):=hk0.ld uQ rfl
 refine (yUN (yEE (Inv:=fun k' i3 i9 τ=>τ=σ.re.row (wkL w p l c q m d) 6∧∃ j:Nat,k'=j∧j≤D+1∧i3=(j:Int)-1∧i9=(D:Int)+1-j∧uA w (zR rs) k D+(if j=D+1 then 1 else 0)*(inR w (zR rs) k (D+1)-uA w (zR rs) k D)=i9+inR w (zR rs) k j)
  (Q0:=fun i3 i9 τ=>τ=σ.re.row (wkL w p l c q m d) 6∧((i3=-1∧uA w (zR rs) k D=i9+(drv w k).row∧0≤i9∧i9≤200000)∨(0≤i3∧uA w (zR rs) k D=i9))) ?_ (D+1) D 0 _ ⟨rfl,D+1,rfl,Nat.le_refl _,by omega,by omega, ?_⟩) ?_).pure
 ·rintro j i3 i9 τ ⟨rfl,_,rfl,hj,rfl,rfl,he⟩
  cases j with
  | zero =>
   refine yNQ ⟨rfl,.inl ⟨by omega, ?_,by omega,by omega⟩⟩
   rw [if_neg (by omega)] at he
   unfold inR at he
   simp only [Int.zero_mul,Int.add_zero] at he
   exact he
  | succ j =>
   have e1:((j+1:Nat):Int)-1=(j:Int):=by omega
   rw [e1]
   have cf:=zQJ (c:=c) (d:=d) (rc:=rc) (k:=k) (D:=j) h0 hr0 hl
   have he':uA w (zR rs) k D=(D:Int)+1-((j+1:Nat):Int)+uA w (zR rs) k j:=by
    have e2:inR w (zR rs) k (j+1)=uA w (zR rs) k j:=rfl
    rw [e2] at he
    by_cases e3:j+1=D+1
    ·have:j=D:=by omega
     subst this;omega
    ·rw [if_neg e3] at he
     simp only [Int.zero_mul,Int.add_zero] at he
     exact he
   by_cases hw:zDB w (zR rs) k j=true
   ·have e4:uA w (zR rs) k j=1+inR w (zR rs) k j:=by rw [yKF,if_pos hw]
    refine yNS ldW cf ⟨j,by omega,rfl,j,rfl,by omega,by omega,by omega, ?_⟩ (by omega) (yCJ.2 hw)
    rw [if_neg (by omega)]
    simp only [Int.zero_mul,Int.add_zero]
    omega
   ·have e4:uA w (zR rs) k j=0:=by rw [yKF,if_neg hw]
    refine yNR ldW cf ⟨rfl,.inr ⟨by omega,by omega⟩⟩ (by omega) (fun h=>hw (yCJ.1 h))
 ·rw [if_pos rfl]
  have e2:inR w (zR rs) k (D+1)=uA w (zR rs) k D:=rfl
  rw [e2]
  simp
 ·rintro i3 i9 τ ⟨rfl,⟨h1,h2,h3,h4⟩ | ⟨h1,h2⟩⟩
  ·obtain ⟨a,rfl,p',l',c',r',n',d',s',j',e',_,_,_,_,hf⟩:=h0.vld yCV uU hkm
   have ld:=hf 4 (iV (drv w k).row) rfl 3 zT
   refine yED ldV ld ⟨by rw [h2],Nat.le_refl _⟩ (by omega) (by omega) (by omega)
  ·exact yEC ⟨by rw [h2],Nat.le_refl _⟩ (by omega)
theorem rFree_c (h:WkP σ 92 76 w p l q m) (hr:yG σ r l rs) (ht:yG σ t l ts) (hl:l≤100000) (hkm:k<m) (hm:m≤100000) (hD:D≤100000) (hts:∀ i,i<l→-1000000≤zR ts i∧zR ts i≤1000000):zE Tryz.prog 81 [.agg ⟨wkL w p l c q m d⟩,.slice r l rc,.slice t l tc,iV (k:Int),iV (D:Int)] σ (iV (xW w (zR rs) (zR ts) k D)) σ:=by
 have hn:=h.len.1
 have hk0:=xE σ.re (wkL w p l c q m d) 6
 have h0:=(h.le (le0 σ)).le (Le.row _ (wkL w p l c q m d) 6)
 have hr0:=(hr.re).le (Le.row _ (wkL w p l c q m d) 6)
 have ht0:=(ht.re).le (Le.row _ (wkL w p l c q m d) 6)
 have ldW:zB Tryz.prog (σ.re.row (wkL w p l c q m d) 6) 25 ⟨σ.re.next,0,none⟩=some (.agg ⟨wkL w p l c q m d⟩):=hk0.ldN (k:=0) wK xN (ds:=wkL w p l c q m d) rfl rfl (by simp [wkL])
 have ldV:zB Tryz.prog (σ.re.row (wkL w p l c q m d) 6) 23 ⟨σ.re.next,2,none⟩=some (.slice q m d):=hk0.ld uQ rfl
 refine (yYW (yIL (Inv:=fun k' i τ=>τ=σ.re.row (wkL w p l c q m d) 6∧∃ j:Nat,k'=j∧j≤D∧i=(j:Int)-1∧xW w (zR rs) (zR ts) k D=xW w (zR rs) (zR ts) k j)
  (Qr:=fun x τ=>τ=σ.re.row (wkL w p l c q m d) 6∧x=xW w (zR rs) (zR ts) k D)
  (Q0:=fun τ=>τ=σ.re.row (wkL w p l c q m d) 6∧xW w (zR rs) (zR ts) k D=(drv w k).off) ?_ D (D-1) _ ⟨rfl,D,rfl,Nat.le_refl _,rfl,rfl⟩) ?_ ?_ (by omega)).pure
 ·rintro j i τ ⟨rfl,_,rfl,hj,rfl,he⟩
  cases j with
  | zero=>exact yUO ⟨rfl,he⟩
  | succ j =>
   have e1:((j+1:Nat):Int)-1=(j:Int):=by omega
   rw [e1]
   have cf:=zQJ (c:=c) (d:=d) (rc:=rc) (k:=k) (D:=j) h0 hr0 hl
   cases hf:yN w (zR rs) k j with
   | some i =>
    rw [hf,show zGR (some i)=(i:Int) from rfl] at cf
    have hi:=(zSG hf).1
    obtain ⟨a,rfl,x,hx,l2⟩:=vW ht0 (show i<l by omega)
    have gx:zR ts i=x:=yM hx
    have hb:=hts i (by omega)
    refine yUQ ldW cf l2 ⟨rfl, ?_⟩ (by omega) (by omega) (by omega) (by omega) (by omega)
    rw [he]
    unfold xW
    rw [hf,← gx]
   | none =>
    rw [hf,show zGR none=-1 from rfl] at cf
    refine yUP ldW cf ⟨j,by omega,rfl,j,rfl,by omega,by omega, ?_⟩ (by omega) (by omega) (by omega)
    rw [he]
    show (match yN w (zR rs) k j with | some i=>1440*(j:Int)+zR ts i | none=>xW w (zR rs) (zR ts) k j)=_
    rw [hf]
 ·rintro x τ ⟨rfl,rfl⟩
  exact yIJ ⟨rfl,Nat.le_refl _⟩
 ·rintro τ ⟨rfl,e⟩
  obtain ⟨a,rfl,p',l',c',r',n',d',s',j',e',_,_,_,_,hf⟩:=h0.vld yCV uU hkm
  have ld:=hf 3 (iV (drv w k).off) rfl 3 zT
  refine yIK ldV ld ⟨by rw [e],Nat.le_refl _⟩ (by omega)
end
end Go.Proofs.YtgfiniccfpfplaaGreat
