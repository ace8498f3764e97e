
import Derived.Test.YtgfiniccfpfplaaGreatSQ
import Derived.Test.YtgfiniccfpfplaaGreatPF
namespace Go.Proofs.YtgfiniccfpfplaaGreat
open Go Go.Lay
open Tryz renaming prog → Pg
set_option linter.unusedVariables false
set_option linter.unusedSimpArgs false
set_option maxRecDepth 20000
section
variable {σ z:St} {w:Wk} {p q:Option Addr} {l m c d:Nat}
theorem yPI {a b:List Int} {j:Nat} {x y:Int} (hx:a[j]?=some x) (hy:b[j]?=some y):xF (a.drop j) (b.drop j)=if x=y then xF (a.drop (j+1)) (b.drop (j+1)) else decide (y<x):=by
 obtain ⟨h1,rfl⟩:=List.getElem?_eq_some_iff.1 hx
 obtain ⟨h2,rfl⟩:=List.getElem?_eq_some_iff.1 hy
 rw [List.drop_eq_getElem_cons h1,List.drop_eq_getElem_cons h2];rfl
theorem rMore_c {a b:List Int} (h1:yG σ p l a) (h2:yG σ q l b) (hl:l≤1000):zE Pg 29 [.slice p l c,.slice q l d] σ (.bool (xF a b)) σ:=by
 have e1:=h1.len
 have e2:=h2.len
 have g1:=h1.re
 have g2:=h2.re
 refine (yYO (yHX (Inv:=fun k i τ=>τ=σ.re∧∃ j:Nat,i=j∧j+k=l∧xF a b=xF (a.drop j) (b.drop j)) (Qr:=fun x τ=>τ=σ.re∧x=xF a b) (Q0:=fun τ=>τ=σ.re∧xF a b=false) ?_ l 0 σ.re ⟨rfl,0,rfl,by omega,by simp⟩) ?_ ?_).pure
 ·rintro k i τ ⟨rfl,j,rfl,hk,hm⟩
  by_cases hj:j<l
  rotate_left
  ·refine yUG ⟨rfl, ?_⟩ (by omega)
   rw [hm,List.drop_of_length_le (by omega)];rfl
  obtain ⟨pa,rfl,_⟩:=g1.some hj
  obtain ⟨qa,rfl,_⟩:=g2.some hj
  have hx:a[j]?=some a[j]:=List.getElem?_eq_getElem (by omega)
  have hy:b[j]?=some b[j]:=List.getElem?_eq_getElem (by omega)
  rw [yPI hx hy] at hm
  generalize a[j]=x at hx hm
  generalize b[j]=y at hy hm
  have l1:zB Pg σ.re 3 (zP pa (Int.toNat (j:Int)*1))=some (iV x):=g1.at rfl (by simp [hx])
  have l2:zB Pg σ.re 3 (zP qa (Int.toNat (j:Int)*1))=some (iV y):=g2.at rfl (by simp [hy])
  by_cases e:x=y
  ·rw [if_pos e] at hm
   exact yUH l1 l2 ⟨k-1,by omega,rfl,j+1,by omega,by omega,hm⟩ (by omega) ⟨by omega,by omega⟩ ⟨by omega,by omega⟩ e ⟨by omega,by omega⟩
  ·rw [if_neg e] at hm
   by_cases g:y<x
   ·exact yUJ l1 l2 ⟨rfl,by rw [hm,decide_eq_true g]⟩ (by omega) ⟨by omega,by omega⟩ ⟨by omega,by omega⟩ e g
   ·exact yUI l1 l2 ⟨rfl,by rw [hm,decide_eq_false g]⟩ (by omega) ⟨by omega,by omega⟩ ⟨by omega,by omega⟩ e g
 ·rintro x τ ⟨rfl,rfl⟩
  exact yHV ⟨rfl,Nat.le_refl _⟩
 ·rintro τ ⟨rfl,e⟩
  exact yHW ⟨by rw [e],Nat.le_refl _⟩
theorem wk_wish (h:WkP σ 92 76 w p l q m) {i:Nat} (hi:i<m):∃ a,q=some a∧∃ r n d,zB Pg σ 26 (zP a (Int.toNat (i:Int)*6+2))=some (.slice r n d)∧yG σ r n (drv w i).wish:=by
 obtain ⟨vs,h1,h2,h3⟩:=h.drv
 have hwm:=h.len.2
 have hx:w.drivers[i]?=some (drv w i):=by
  unfold drv
  rw [List.getD_eq_getElem?_getD,List.getElem?_eq_getElem (by omega:i<w.drivers.length)];rfl
 obtain ⟨v,g1,p',l',c',q',m',d',r,n,e,rfl,g3,g4,g5⟩:=h3 i _ hx
 obtain ⟨a,rfl,hr⟩:=h1.some hi
 refine ⟨a,rfl,r,n,e, ?_,g5⟩
 have hn:∀ y∈vs,y.cells.toList.length=6:=fun y hy=>(h1.2.2 y hy).len
 have:=zSF (n:=6) (k:=2) (v:=.slice r n e) (by omega) rfl hn g1
 rw [Int.toNat_natCast]
 exact hr.load1 yV this
def yW (w:Wk) (ros:Nat→Int) (m:Nat):List Int:=(List.range m).map fun k=>gr w ros k
theorem yAS {r:Option Addr} {rc n:Nat} {rs:List Int} (h:WkP z 92 76 w p l q m) (hs:Sane w l m) (hw:yFX w n) (hr:yG z r l rs):∃ p' c' z',zE Pg 28 [.agg ⟨wkc w.days p l c q m d w.rest w.run w.hours⟩,.slice r l rc] z (.slice p' m c') z'∧New z z'∧yG z' p' m (yW w (zR rs) m)∧∀ b,AtP p' b→z.next≤b:=by
 have hwm:=h.len.2
 have hl12:=hs.l12
 have hm6:=hs.m6
 obtain ⟨t1,ht1⟩:∃ t1,t1=z.re.row (wkc w.days p l c q m d w.rest w.run w.hours) 6:=⟨_,rfl⟩
 have n1:t1.next=z.next+1:=by rw [ht1];rfl
 have M1:New z.re t1:=by rw [ht1];exact New.row _ _ _
 have w1:Row t1 ⟨z.next,0,none⟩ (wkc w.days p l c q m d w.rest w.run w.hours):=by rw [ht1];exact xE z.re _ _
 refine zQ.newSl ?_
 let Jn:Nat→Option Addr→Nat→Nat→St→Prop:=fun j p5 l5 c5 y=>New z.re y∧Row y ⟨z.next,0,none⟩ (wkc w.days p l c q m d w.rest w.run w.hours)∧Ax y (z.next+1) 1 p5 l5 c5 ((yW w (zR rs) j).map yD)∧l5=j
 have hL:zOU r l rc z.next none 0 0 0 t1 (fun p5 l5 c5 y=>Jn m p5 l5 c5 y):=by
  refine zZD (Inv:=fun k p5 l5 c5 i y=>∃ j:Nat,i=(j:Int)∧j+k=m∧Jn j p5 l5 c5 y) ?_ m none 0 0 0 t1 ⟨0,rfl,by omega,M1,w1,Ax.nil,rfl⟩
  rintro k p5 l5 c5 i y ⟨j,rfl,hk,J1,J2,J3,rfl⟩
  have h1:zB Pg y 23 ⟨z.next,2,none⟩=some (.slice q m d):=J2.ld uQ rfl
  by_cases hj:l5<m
  rotate_left
  ·have:l5=m:=by omega
   subst this
   exact yIH h1 ⟨J1,J2,J3,rfl⟩ (by omega)
  have Ly:=(le0 z).trans J1.le
  have hy:=h.le Ly
  have hry:=SlV.le hr Ly
  obtain ⟨a,rfl,q2,n2,d2,ld2,iw⟩:=wk_wish hy hj
  have ew:=iw.len
  have hwk:=hw l5 (by omega)
  have hwl:=(hs.kn l5 hj).2.2
  let f:Int→Bool:=fun D=>(yN w (zR rs) l5 D.toNat).isNone
  refine yII h1 (P2:=fun x τ=>τ=y∧x=gr w (zR rs) l5) (zZC (Inv:=fun k7 i7 i8 τ=>τ=y∧∃ s:Nat,i8=s∧s+k7=n2∧i7=((((drv w l5).wish.take s).filter f).length:Nat)∧(((drv w l5).wish.take s).filter f).length≤s) ?_ n2 0 0 y ⟨rfl,0,rfl,by omega,rfl,by simp⟩) ?_ (by omega)
  ·rintro k7 i7 i8 τ ⟨rfl,s,rfl,hk7,rfl,hle⟩
   by_cases hsn:s<n2
   rotate_left
   ·refine yIE h1 ld2 ⟨rfl, ?_⟩ ⟨by omega,by omega⟩ (by omega)
    rw [List.take_of_length_le (by omega)];rfl
   obtain ⟨b,rfl,_⟩:=iw.some hsn
   have hsw:s<(drv w l5).wish.length:=by omega
   have hgs:(drv w l5).wish[s]?=some (drv w l5).wish[s]:=List.getElem?_eq_getElem hsw
   generalize (drv w l5).wish[s]=D at hgs
   have hDm:=hwk.2 D (List.mem_of_getElem? hgs)
   have h3:zB Pg τ 25 ⟨z.next,0,none⟩=some (.agg ⟨wkc w.days p l c (some a) m d w.rest w.run w.hours⟩):=J2.ldN wK xN (k:=0) rfl rfl (nle rfl)
   have h4:zB Pg τ 3 (zP b (Int.toNat (s:Int)*1))=some (iV D):=iw.at rfl (by simp [hgs])
   have h5:=zQJ (k:=l5) (D:=D.toNat) (c:=c) (d:=d) (rc:=rc) hy hry (by omega)
   rw [show ((D.toNat:Nat):Int)=D by omega] at h5
   have etk:(((drv w l5).wish.take (s+1)).filter f)=(((drv w l5).wish.take s).filter f)++(if f D then [D] else []):=by
    rw [List.take_add_one,hgs,List.filter_append]
    show _++[D].filter f=_
    rw [List.filter_cons,List.filter_nil]
   by_cases hf:f D=true
   ·rw [if_pos hf] at etk
    have hlen:(((drv w l5).wish.take (s+1)).filter f).length=(((drv w l5).wish.take s).filter f).length+1:=by rw [etk];simp
    have hneg:zGR (yN w (zR rs) l5 D.toNat)<0:=by
     cases hfo:yN w (zR rs) l5 D.toNat with
     | none=>decide
     | some i=>rw [show f D=(yN w (zR rs) l5 D.toNat).isNone from rfl,hfo] at hf;cases hf
    exact yIG h1 ld2 h3 h4 h5 ⟨k7-1,by omega,rfl,s+1,by omega,by omega,by rw [hlen];omega,by omega⟩ ⟨by omega,by omega⟩ (by omega) ⟨by omega,by omega⟩ hneg ⟨by omega,by omega⟩ ⟨by omega,by omega⟩
   ·rw [if_neg hf,List.append_nil] at etk
    have hneg:¬ zGR (yN w (zR rs) l5 D.toNat)<0:=by
     cases hfo:yN w (zR rs) l5 D.toNat with
     | none=>rw [show f D=(yN w (zR rs) l5 D.toNat).isNone from rfl,hfo] at hf;exact absurd rfl hf
     | some i=>show ¬ (i:Int)<0;omega
    exact yIF h1 ld2 h3 h4 h5 ⟨k7-1,by omega,rfl,s+1,by omega,by omega,by rw [etk],by rw [etk];omega⟩ ⟨by omega,by omega⟩ (by omega) ⟨by omega,by omega⟩ hneg ⟨by omega,by omega⟩
  ·rintro x τ ⟨rfl,rfl⟩
   obtain ⟨t3,ht3⟩:∃ t3,t3=τ.row [iV (gr w (zR rs) l5)] 1:=⟨_,rfl⟩
   have M3:New τ t3:=by rw [ht3];exact New.row _ _ _
   have r3:Row t3 ⟨τ.next,0,none⟩ [iV (gr w (zR rs) l5)]:=by rw [ht3];exact xE _ _ _
   have nx3:=M3.nx
   have yn:=J2.lt
   obtain ⟨p4,c4,s4,ap4,A4,O4,b4⟩:=Ax.append (P:=Pg) (k:=1) (m:=1) (n0:=z.next+1) zBZ (J3.le M3.le) (r3.sl rfl) (by omega) rfl (by have yn:z.next<τ.next:=yn;omega)
   have N4:New z.re s4:=(J1.trans M3).of_only O4 (fun b hb=>by have:=(J3.bd b hb).1;show z.next≤b;omega)
   have w4:=O4.rw' (J2.le M3.le) (fun hb=>by have hb:AtP p5 z.next:=hb;have:=(J3.bd _ hb).1;omega)
   have nx:∃ k',k' < k∧∃ j':Nat,(l5:Int)+1=(j':Int)∧j'+k'=m∧Jn j' p4 (l5+1) c4 s4:=⟨k-1,by omega,l5+1,by omega,by omega,N4,w4,by
    have e:yW w (zR rs) (l5+1)=yW w (zR rs) l5++[gr w (zR rs) l5]:=by unfold yW;rw [List.range_succ,List.map_append];rfl
    rw [e,List.map_append];exact A4,rfl⟩
   subst ht3
   exact zZA ap4 nx ⟨by omega,by omega⟩
 subst ht1
 refine yNW hL ?_
 rintro p5 l5 c5 y ⟨J1,J2,J3,rfl⟩
 exact zZB ⟨J1,p5,c5,rfl,Ax.slv (by rw [zBY _ .i64];exact J3) (by simp [yW]) (fun v hv=>by obtain ⟨x,_,rfl⟩:=List.mem_map.1 hv;exact zAS x),fun b hb=>by have:=(J3.bd b hb).1;omega⟩
end
end Go.Proofs.YtgfiniccfpfplaaGreat
