
import Derived.Test.YtgfiniccfpfplaaGreatSO
import Derived.Test.YtgfiniccfpfplaaGreatRI
import Derived.Test.YtgfiniccfpfplaaGreatRG
namespace Go.Proofs.YtgfiniccfpfplaaGreat
open Go Go.Lay
set_option linter.unusedVariables false
set_option linter.unusedSimpArgs false
set_option maxRecDepth 20000
section
variable {z:St} {w:Wk} {p q:Option Addr} {l m c d:Nat}
structure MostL (w:Wk) (rs:List Int):Prop where
 ros:Ros w (zV rs)
 legal:zEM w (zV rs) (late w)
 most:∀ ros',Ros w ros'→zEM w ros' (late w)→zAJ w ros'≤zAJ w (zV rs)
def MostV (w:Wk) (l:Nat) (v:Value) (s:St):Prop :=
 (xM w≠0∧v=.tuple ⟨[.slice none 0 0,iV 0,iV (xM w)]⟩) ∨
 (xM w=0∧∃ rs pr cr,v=.tuple ⟨[.slice pr l cr,iV (zAJ w (zV rs)),iV 0]⟩∧yI s pr l rs∧MostL w rs)
theorem yTZ (D:Nat) (a:List Int) (h:a.length≤12):Bd 12 (zGD D a):=by
 intro x hx
 have:=List.length_filter_le (fun r:Int=>decide (r≠-1)) a
 unfold zGD zGZ at hx
 simp only [List.mem_cons,List.not_mem_nil,or_false] at hx
 rcases hx with rfl | rfl | rfl | rfl | rfl | rfl <;> omega
theorem Most_c (h:WkP z 85 88 w p l q m) (hsh:zLY w):∃ v z',zE Tryz.prog 37 [.agg ⟨wkc w.days p l c q m d w.rest w.run w.hours⟩] z v z'∧New z z'∧MostV w l v z':=by
 have hln:=h.len
 suffices hmain:zQ Tryz.prog 37 [.agg ⟨wkc w.days p l c q m d w.rest w.run w.hours⟩] z.re fun v s=>New z.re s∧MostV w l v s by
  obtain ⟨v,s,h1,h2,h3⟩:=zQ.new hmain (by
   rintro v s s' (h | ⟨h0,rs,pr,cr,h1,h2,h3⟩) hl
   ·exact .inl h
   ·exact .inr ⟨h0,rs,pr,cr,h1,SlV.le h2 hl,h3⟩) (by
   rintro v s hr (h | ⟨h0,rs,pr,cr,rfl,h2,h3⟩)
   ·exact .inl h
   ·cases pr with
    | some a=>exact Bool.noConfusion (show false=true from hr)
    | none=>exact .inr ⟨h0,rs,none,cr,rfl,zKM h2,h3⟩)
  exact ⟨v,s,h1,h2,h3⟩
 obtain ⟨t1,ht1⟩:∃ t1,t1=z.re.row (wkc w.days p l c q m d w.rest w.run w.hours) 6:=⟨_,rfl⟩
 have M1:New z.re t1:=by rw [ht1];exact New.row _ _ _
 have h1:=h.le ((le0 z).trans M1.le)
 have k1:=yKC (c:=c) (d:=d) h1 hsh
 by_cases hf:xM w=0
 rotate_left
 ·subst ht1
  exact Most_ra k1 ⟨New.row _ _ _,.inl ⟨hf,rfl⟩⟩ hf
 have hs:=Sane.of hf hsh hln.1 hln.2
 obtain ⟨n,hn,hn1,hn7,hv⟩:=yQU hf
 obtain ⟨v,can,o,rs,p2,c2,z2,k2,N2,I2,f2,v6,vb,bo,ho⟩:=run_c (c:=c) (d:=d) (leaves:=true) (fw:=65) (fc:=[]) (wf:=zGD) h1 hsh hs hn hn7 hv.toDays
  (fun z' hz D pw lw cw who hi hlw=>Most1_c hi (by omega)) (fun D a=>rfl) yTZ (fun k hk=>rfl) rfl
 have hst:∀ k,k<w.drivers.length→st0 w m k=before (drv w k):=fun k hk=>by unfold st0;rw [if_pos (by omega)]
 have br:=most_r hv hst bo
 rw [zIN] at k2
 cases o with
 | none=>exact br.elim
 | some r =>
  obtain ⟨who,u⟩:=r
  obtain ⟨hc,hvu,hmp⟩:can=true∧v=u∧(xA w n 0).map (zV rs)=who:=ho
  subst hvu
  obtain ⟨b1,b2⟩:=br
  obtain ⟨r1,r2,r3,r4⟩:=b2 _ hmp
  have hv0:v.getD 0 0=zAJ w (zV rs):=by rw [r3];rfl
  have M3:New z2 ((z2.row (zL 0 0 0 0 0 0) 1).own z2.next (zL (v.getD 0 0) (v.getD 1 0) (v.getD 2 0) (v.getD 3 0) (v.getD 4 0) (v.getD 5 0)) 1):=(New.row _ _ _).own (Nat.le_refl _)
  have nx:New z.re ((z2.row (zL 0 0 0 0 0 0) 1).own z2.next (zL (v.getD 0 0) (v.getD 1 0) (v.getD 2 0) (v.getD 3 0) (v.getD 4 0) (v.getD 5 0)) 1)∧MostV w l (.tuple ⟨[.slice p2 l c2,iV (v.getD 0 0),iV 0]⟩) ((z2.row (zL 0 0 0 0 0 0) 1).own z2.next (zL (v.getD 0 0) (v.getD 1 0) (v.getD 2 0) (v.getD 3 0) (v.getD 4 0) (v.getD 5 0)) 1):=⟨(M1.trans N2).trans M3,.inr ⟨hf,rs,p2,c2,by rw [hv0],SlV.le I2 M3.le,⟨r1,r2,r4⟩⟩⟩
  subst ht1
  exact Most_rb k1 k2 nx hf
end
end Go.Proofs.YtgfiniccfpfplaaGreat
