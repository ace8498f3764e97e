
import Derived.Test.YtgfiniccfpfplaaGreatSO
import Derived.Test.YtgfiniccfpfplaaGreatRI
import Derived.Test.YtgfiniccfpfplaaGreatRG
namespace Go.Proofs.YtgfiniccfpfplaaGreat
open Go Go.Lay
set_option linter.unusedVariables false
set_option linter.unusedSimpArgs false
set_option maxRecDepth 20000
section
variable {z:St} {w:Wk} {p q:Option Addr} {l m c d:Nat}
theorem slice6h {σ:St} {b m:Nat} {v:List Int} (hm:m≤6) (o:Own σ b (six v) 1):∃ c,zAK Tryz.prog σ 98 (.pointer (some ⟨b,0,none⟩)) none (some (iV (m:Int))) none=some (.slice (some ⟨b,0,none⟩) m c):=by
 have hu:Tryz.prog.underlying 98=some (.array 6 3):=by kernel_rfl
 have ha:zTZ σ ⟨b,0,none⟩ (6*1) 1=true:=by unfold zTZ;simp only [o.get];rfl
 unfold zAK
 simp only [hu,zAC,ha,cond_true]
 match m,hm with
 | 0,_=>exact ⟨_,rfl⟩
 | 1,_=>exact ⟨_,rfl⟩
 | 2,_=>exact ⟨_,rfl⟩
 | 3,_=>exact ⟨_,rfl⟩
 | 4,_=>exact ⟨_,rfl⟩
 | 5,_=>exact ⟨_,rfl⟩
 | 6,_=>exact ⟨_,rfl⟩
theorem nil_neB {a:Addr} {l c:Nat}:zYD Tryz.prog .eql 26 (.tmp 3) (.const (.slice none 0 0)) (.slice (some a) l c) (.slice none 0 0)=some (.bool false):=by kernel_rfl
theorem clone_i {σ:St} {rs:List Int} {a:Addr} (h:yG σ (some a) l rs) (hl:l≤1073741824):∃ p' c' σ',zE Tryz.prog 60 [.slice (some a) l c] σ (.slice p' l c') σ'∧New σ σ'∧yG σ' p' l rs∧∀ b,AtP p' b→σ.next≤b:=by
 have hc:(vI (rs.map yD)).all cellB=true:=by rw [zBY rs .i64];simp [List.all_eq_true];intro a _;rfl
 have N1:New σ.re (σ.re.row [] 1):=New.row _ _ _
 obtain ⟨p6,c6,s5,ap1,A6,O6,b6⟩:=Ax.append (P:=Tryz.prog) (k:=c) (n0:=σ.re.next) zBZ (Ax.lit (len:=0) (zC σ.re [] 1) rfl ((yX 0).2 uH) (Nat.le_refl _)) (SlV.le h ((le0 σ).trans N1.le)).1 (by omega) hc N1.nx
 rw [Nat.zero_add] at ap1 A6
 have N5:New σ.re s5:=N1.of_only O6 (by rintro b ⟨a,e,rfl⟩;cases e;exact Nat.le_refl _)
 exact zQ.newSl (clone_rb nil_neB ap1 ⟨N5,p6,c6,rfl,Ax.slv (by simpa using A6) (by simpa using h.2.1) h.2.2,fun b hb=>(A6.bd b hb).1⟩)
theorem yYC {σ:St} {b m:Nat} {v:List Int} (hv:v.length=6) (hm:m≤6) (o:Own σ b (six v) 1):yG σ (some ⟨b,0,none⟩) m (v.take m):=by
 have e:six v=v.map yD:=by
  apply List.ext_getElem (by rw [six,zDC,List.length_map,hv])
  intro i g1 g2
  have g3:i<v.length:=by simpa using g2
  simp [six,vR,g3]
 refine ⟨?_,by simp;omega,fun x hx=>?_⟩
 ·rw [zBY _ .i64]
  refine ⟨by simp;omega, ?_⟩
  have h1:=o.rw.part (k:=0) (m:=m) (by rw [e,List.length_map,hv];omega)
  rw [e,List.drop_zero,← List.map_take] at h1
  simpa [zP] using h1
 ·obtain ⟨x,_,rfl⟩:=List.mem_map.1 hx
  exact zAS x
structure BestL (w:Wk) (rs gs:List Int):Prop where
 ros:Ros w (zR rs)
 legal:zHS w (zR rs) (late w)
 full:zKO w (zR rs)
 gs:gs=(grV w (zR rs)).take w.drivers.length
 best:∀ ros',Ros w ros'→zHS w ros' (late w)→zKO w ros'→xF (grV w ros') (grV w (zR rs))=false
def BestV (w:Wk) (l m:Nat) (v:Value) (s:St):Prop :=
 (xP w≠0∧v=.tuple ⟨[.slice none 0 0,.slice none 0 0,iV (xP w)]⟩) ∨
 (xP w=0∧(∀ ros,Ros w ros→zHS w ros (late w)→¬ zKO w ros)∧v=.tuple ⟨[.slice none 0 0,.slice none 0 0,iV 9]⟩) ∨
 (xP w=0∧∃ rs gs pr cr pg cg,v=.tuple ⟨[.slice pr l cr,.slice pg m cg,iV 0]⟩∧yG s pr l rs∧yG s pg m gs∧BestL w rs gs)
theorem freeV_bd (D:Nat) (a:List Int):Bd 12 (zAX w D a):=by
 intro x hx
 unfold zAX at hx
 obtain ⟨k,_,rfl⟩:=List.mem_map.1 hx
 split <;> omega
theorem Best_c (h:WkP z 85 88 w p l q m) (hsh:zKT w):∃ v z',zE Tryz.prog 25 [.agg ⟨wkc w.days p l c q m d w.rest w.run w.hours⟩] z v z'∧New z z'∧BestV w l m v z':=by
 have hln:=h.len
 suffices hmain:zQ Tryz.prog 25 [.agg ⟨wkc w.days p l c q m d w.rest w.run w.hours⟩] z.re fun v s=>New z.re s∧BestV w l m v s by
  obtain ⟨v,s,h1,h2,h3⟩:=zQ.new hmain (by
   rintro v s s' (h | h | ⟨h0,rs,gs,pr,cr,pg,cg,h1,h2,h3,h4⟩) hl
   ·exact .inl h
   ·exact .inr (.inl h)
   ·exact .inr (.inr ⟨h0,rs,gs,pr,cr,pg,cg,h1,SlV.le h2 hl,SlV.le h3 hl,h4⟩)) (by
   rintro v s hr (h | h | ⟨h0,rs,gs,pr,cr,pg,cg,rfl,h2,h3,h4⟩)
   ·exact .inl h
   ·exact .inr (.inl h)
   ·cases pr with
    | some a=>exact Bool.noConfusion (show false=true from hr)
    | none=>cases pg with
     | some a=>exact Bool.noConfusion (show false=true from hr)
     | none=>exact .inr (.inr ⟨h0,rs,gs,none,cr,none,cg,rfl,zHX h2,zHX h3,h4⟩))
  exact ⟨v,s,h1,h2,h3⟩
 obtain ⟨t1,ht1⟩:∃ t1,t1=z.re.row (wkc w.days p l c q m d w.rest w.run w.hours) 6:=⟨_,rfl⟩
 have n1:t1.next=z.next+1:=by rw [ht1];rfl
 have M1:New z.re t1:=by rw [ht1];exact New.row _ _ _
 have w1:Row t1 ⟨z.next,0,none⟩ (wkc w.days p l c q m d w.rest w.run w.hours):=by rw [ht1];exact xE z.re _ _
 have h1:=h.le ((le0 z).trans M1.le)
 have k1:=yME (c:=c) (d:=d) h1 hsh
 by_cases hf:xP w=0
 rotate_left
 ·subst ht1
  exact Best_ra k1 ⟨New.row _ _ _,.inl ⟨hf,rfl⟩⟩ hf
 have hs:=Sane.of hf hsh hln.1 hln.2
 obtain ⟨n,hn,hn1,hn7,hv⟩:=yTD hf
 have hw:=yAE hf hn
 obtain ⟨v,can,o,rs,p2,c2,z2,k2,N2,I2,f2,v6,vb,bo,ho⟩:=run_c (c:=c) (d:=d) (leaves:=false) (fw:=57) (fc:=[.pointer (some ⟨z.next,0,none⟩)]) (wf:=zAX w) h1 hsh hs hn hn7 hv.toDays
  (fun z' hz D pw lw cw who hi hlw=>Best1_c (w1.le hz) (h1.le hz) hs.m6 hsh hi (by omega)) (fun D a=>yWC) (fun D a _=>freeV_bd D a)
  (fun k hk=>by
   show (true && (Nat.blt z.next k && true))=true
   rw [(wO _ _).2 (by omega:z.next<k)];rfl) rfl
 have hst:∀ k,k<w.drivers.length→st0 w m k=before (drv w k):=fun k hk=>by unfold st0;rw [if_pos (by omega)]
 have br:=best_r hv hw hst bo
 rw [zDT] at k2
 cases o with
 | none =>
  have ho:can=false:=ho
  rw [ho] at k2
  subst ht1
  exact Best_rc k1 k2 ⟨((New.row _ _ _).trans N2).trans ((New.row _ _ _).own (Nat.le_refl _)),.inr (.inl ⟨hf,br,rfl⟩)⟩ hf
 | some r =>
  obtain ⟨who,u⟩:=r
  obtain ⟨hc,hvu,hmp⟩:can=true∧v=u∧(xG w n 0).map (zR rs)=who:=ho
  rw [hc] at k2
  subst hvu
  obtain ⟨b1,b2⟩:=br
  obtain ⟨r1,r2,r3,r4,r5⟩:=b2 _ hmp
  obtain ⟨t3,ht3⟩:∃ t3,t3=(z2.row (zL 0 0 0 0 0 0) 1).own z2.next (zL (v.getD 0 0) (v.getD 1 0) (v.getD 2 0) (v.getD 3 0) (v.getD 4 0) (v.getD 5 0)) 1:=⟨_,rfl⟩
  have M3:New z2 t3:=by rw [ht3];exact (New.row _ _ _).own (Nat.le_refl _)
  have o3:Own t3 z2.next (six v) 1:=by rw [ht3,zDT];exact (zC _ _ _).put
  have h3:zB Tryz.prog t3 32 ⟨z.next,2,none⟩=some (.slice q m d):=((w1.le N2.le).le M3.le).ld zDK rfl
  obtain ⟨c4,h4⟩:=slice6h hs.m6 o3
  obtain ⟨p5,c5,z5,k5,N5,I5,f5⟩:=clone_i (c:=c4) (yYC v6 hs.m6 o3) (by have:=hs.m6;omega)
  have nx:New z.re z5∧BestV w l m (.tuple ⟨[.slice p2 l c2,.slice p5 m c5,iV 0]⟩) z5:=⟨((M1.trans N2).trans M3).trans N5,.inr (.inr ⟨hf,rs,_,p2,c2,p5,c5,rfl,SlV.le (SlV.le I2 M3.le) N5.le,I5,⟨r1,r2,r3,by rw [r4,hln.2],fun ros' g1 g2 g3=>by rw [← r4];exact r5 ros' g1 g2 g3⟩⟩)⟩
  subst ht3 ht1
  exact Best_rb k1 k2 h3 h4 k5 nx hf
end
end Go.Proofs.YtgfiniccfpfplaaGreat
