
import Derived.Test.YtgfiniccfpfplaaGreatSO
import Derived.Test.YtgfiniccfpfplaaGreatUA
import Derived.Test.YtgfiniccfpfplaaGreatRG
namespace Go.Proofs.YtgfiniccfpfplaaGreat
open Go Go.Lay
open Tryz renaming prog -> Pg
set_option linter.unusedVariables false
set_option linter.unusedSimpArgs false
set_option maxRecDepth 20000
section
variable {z:St} {w:Wk} {p q:Option Addr} {l m c d:Nat}
theorem slice6h {Z:St} {b m:Nat} {v:List Int} (hm:m<=6) (o:Own Z b (six v) 1):∃ c,vQ Pg Z 98 (.pointer (some ⟨b,0,none⟩)) none (some (iV (m:Int))) none=some (.slice (some ⟨b,0,none⟩) m c):=by
 have hu:Pg.underlying 98=some (.array 6 3):=by kernel_rfl
 have ha:zUU Z ⟨b,0,none⟩ (6*1) 1=true:=by unfold zUU;simp only [o.get];rfl
 unfold vQ;simp only [hu,vG,ha,cond_true];match m,hm with
 | 0,_=>exact ⟨_,rfl⟩
 | 1,_=>exact ⟨_,rfl⟩
 | 2,_=>exact ⟨_,rfl⟩
 | 3,_=>exact ⟨_,rfl⟩
 | 4,_=>exact ⟨_,rfl⟩
 | 5,_=>exact ⟨_,rfl⟩
 | 6,_=>exact ⟨_,rfl⟩
theorem nil_neB {a:Addr} {l c:Nat}:zBX Pg .eql 26 (.tmp 3) (.const (.slice none 0 0)) (.slice (some a) l c) (.slice none 0 0)=some (.bool false):=by kernel_rfl
theorem clone_i {Z:St} {rs:List Int} {a:Addr} (h:yG Z (some a) l rs) (hl:l<=1073741824):∃ p' c' Z',zD Pg 60 [.slice (some a) l c] Z (.slice p' l c') Z'/\New Z Z'/\yG Z' p' l rs/\∀ b,AtP p' b->Z.next<=b:=by
 have hc:(vA (rs.map yB)).all cellB=true:=by rw [zDN rs .i64];simp [List.all_eq_true];intro a _;rfl
 have N1:New Z.re (Z.re.row [] 1):=New.row _ _ _;obtain ⟨p6,c6,s5,ap1,A6,O6,b6⟩:=Ax.append (P:=Pg) (k:=c) (n0:=Z.re.next) zHF (Ax.lit (len:=0) (zC Z.re [] 1) rfl ((xC 0).2 vU) (Nat.le_refl _)) (SlV.le h ((le0 Z).trans N1.le)).1 (by omega) hc N1.nx;rw [Nat.zero_add] at ap1 A6;have N5:New Z.re s5:=N1.of_only O6 (by rintro b ⟨a,e,rfl⟩;cases e;exact Nat.le_refl _);exact zO.newSl (clone_rb nil_neB ap1 ⟨N5,p6,c6,rfl,Ax.slv (by simpa using A6) (by simpa using h.2.1) h.2.2,fun b hb=>(A6.bd b hb).1⟩)
theorem six_take {Z:St} {b m:Nat} {v:List Int} (hv:v.length=6) (hm:m<=6) (o:Own Z b (six v) 1):yG Z (some ⟨b,0,none⟩) m (v.take m):=by
 have e:six v=v.map yB:=by
  apply List.ext_getElem (by rw [six,zAR,List.length_map,hv]);intro i g1 g2;have g3:i<v.length:=by simpa using g2
  simp [six,wO,g3]
 refine ⟨?_,by simp;omega,fun x hx=>?_⟩
 ·rw [zDN _ .i64];refine ⟨by simp;omega, ?_⟩
  have h1:=o.rw.part (k:=0) (m:=m) (by rw [e,List.length_map,hv];omega);rw [e,List.drop_zero,<- List.map_take] at h1;simpa [zM] using h1
 ·obtain ⟨x,_,rfl⟩:=List.mem_map.1 hx;exact zAX x
structure BestL (w:Wk) (rs gs:List Int):Prop where
 ros:Ros w (zZ rs)
 legal:uP w (zZ rs) (late w)
 full:yBU w (zZ rs)
 gs:gs=(grV w (zZ rs)).take w.drivers.length
 best:∀ ros',Ros w ros'->uP w ros' (late w)->yBU w ros'->wS (grV w ros') (grV w (zZ rs))=false
structure MostL (w:Wk) (rs:List Int):Prop where
 ros:Ros w (zZ rs)
 legal:uP w (zZ rs) (late w)
 most:∀ ros',Ros w ros'->uP w ros' (late w)->xS w ros'<=xS w (zZ rs)
def BestV (w:Wk) (l m:Nat) (v:Value) (s:St):Prop :=
 (yY w≠0/\v=.tuple ⟨[.slice none 0 0,.slice none 0 0,iV (yY w)]⟩) \/
 (yY w=0/\(∀ ros,Ros w ros->uP w ros (late w)->¬ yBU w ros)/\v=.tuple ⟨[.slice none 0 0,.slice none 0 0,iV 9]⟩) \/
 (yY w=0/\∃ rs gs pr cr pg cg,v=.tuple ⟨[.slice pr l cr,.slice pg m cg,iV 0]⟩/\yG s pr l rs/\yG s pg m gs/\BestL w rs gs)
def BestW (n0:Nat) (w:Wk) (l m:Nat) (v:Value) (s:St):Prop :=
 (yY w≠0/\v=.tuple ⟨[.slice none 0 0,.slice none 0 0,iV (yY w)]⟩) \/
 (yY w=0/\(∀ ros,Ros w ros->uP w ros (late w)->¬ yBU w ros)/\v=.tuple ⟨[.slice none 0 0,.slice none 0 0,iV 9]⟩) \/
 (yY w=0/\∃ rs gs pr cr pg cg,v=.tuple ⟨[.slice pr l cr,.slice pg m cg,iV 0]⟩/\yG s pr l rs/\yG s pg m gs/\BestL w rs gs/\∀ b,AtP pr b->n0<=b)
def MostV (w:Wk) (l:Nat) (v:Value) (s:St):Prop :=
 (yY w≠0/\v=.tuple ⟨[.slice none 0 0,iV 0,iV (yY w)]⟩) \/
 (yY w=0/\∃ rs pr cr,v=.tuple ⟨[.slice pr l cr,iV (xS w (zZ rs)),iV 0]⟩/\yG s pr l rs/\MostL w rs)
theorem freeV_bd (D:Nat) (a:List Int):Bd 12 (uB w D a):=by
 intro x hx;unfold uB at hx;obtain ⟨k,_,rfl⟩:=List.mem_map.1 hx;split <;> omega
theorem countV_bd (D:Nat) (a:List Int) (h:a.length<=12):Bd 12 (zES D a):=by
 intro x hx;have:=List.length_filter_le (fun r:Int=>decide (r≠-1)) a;unfold zES zGD at hx;simp only [List.mem_cons,List.not_mem_nil,or_false] at hx;rcases hx with rfl | rfl | rfl | rfl | rfl | rfl <;> omega
theorem Best_w (h:WkP z 85 88 w p l q m) (hsh:zAQ w):∃ v z',zD Pg 25 [.agg ⟨wkc w.days p l c q m d w.rest w.run w.hours⟩] z v z'/\New z z'/\BestW z.next w l m v z':=by
 have hln:=h.len;suffices hmain:zO Pg 25 [.agg ⟨wkc w.days p l c q m d w.rest w.run w.hours⟩] z.re fun v s=>New z.re s/\BestW z.next w l m v s by
  obtain ⟨v,s,h1,h2,h3⟩:=zO.new hmain (by
   rintro v s s' (h | h | ⟨h0,rs,gs,pr,cr,pg,cg,h1,h2,h3,h4⟩) hl
   ·exact .inl h
   ·exact .inr (.inl h)
   ·exact .inr (.inr ⟨h0,rs,gs,pr,cr,pg,cg,h1,SlV.le h2 hl,SlV.le h3 hl,h4⟩)) (by
   rintro v s hr (h | h | ⟨h0,rs,gs,pr,cr,pg,cg,rfl,h2,h3,h4⟩)
   ·exact .inl h
   ·exact .inr (.inl h)
   ·cases pr with
    | some a=>exact Bool.noConfusion (show false=true from hr)
    | none=>cases pg with
     | some a=>exact Bool.noConfusion (show false=true from hr)
     | none=>exact .inr (.inr ⟨h0,rs,gs,none,cr,none,cg,rfl,zGI h2,zGI h3,h4⟩))
  exact ⟨v,s,h1,h2,h3⟩
 obtain ⟨t1,ht1⟩:∃ t1,t1=z.re.row (wkc w.days p l c q m d w.rest w.run w.hours) 6:=⟨_,rfl⟩;have n1:t1.next=z.next+1:=by rw [ht1];rfl
 have M1:New z.re t1:=by rw [ht1];exact New.row _ _ _
 have w1:Row t1 ⟨z.next,0,none⟩ (wkc w.days p l c q m d w.rest w.run w.hours):=by rw [ht1];exact xP z.re _ _
 have h1:=h.le ((le0 z).trans M1.le);have k1:=zLQ (c:=c) (d:=d) h1 hsh;by_cases hf:yY w=0;rotate_left
 ·subst ht1;exact Best_ra k1 ⟨New.row _ _ _,.inl ⟨hf,rfl⟩⟩ hf
 have hs:=Sane.of hf hsh hln.1 hln.2;obtain ⟨n,hn,hn1,hn7,hv⟩:=yIH hf;have hw:=wishes_of hf hn;obtain ⟨v,can,o,rs,p2,c2,z2,k2,N2,I2,f2,v6,vb,bo,ho⟩:=run_c (c:=c) (d:=d) (leaves:=false) (fw:=57) (fc:=[.pointer (some ⟨z.next,0,none⟩)]) (wf:=uB w) h1 hsh hs hn hn7 hv.toDays
  (fun z' hz D pw lw cw who hi hlw=>Best1_c (w1.le hz) (h1.le hz) hs.m6 hsh hi (by omega)) (fun D a=>freeV_len) (fun D a _=>freeV_bd D a)
  (fun k hk=>by
   show (true && (Nat.blt z.next k && true))=true;rw [(xW _ _).2 (by omega:z.next<k)];rfl) rfl
 have hst:∀ k,k<w.drivers.length->st0 w m k=before (drv w k):=fun k hk=>by unfold st0;rw [if_pos (by omega)]
 have br:=best_r hv hw hst bo;rw [uZ] at k2;cases o with
 | none =>
  have ho:can=false:=ho;rw [ho] at k2;subst ht1;exact Best_rc k1 k2 ⟨((New.row _ _ _).trans N2).trans ((New.row _ _ _).own (Nat.le_refl _)),.inr (.inl ⟨hf,br,rfl⟩)⟩ hf
 | some r =>
  obtain ⟨who,u⟩:=r;obtain ⟨hc,hvu,hmp⟩:can=true/\v=u/\(xA w n 0).map (zZ rs)=who:=ho;rw [hc] at k2;subst hvu;obtain ⟨b1,b2⟩:=br;obtain ⟨r1,r2,r3,r4,r5⟩:=b2 _ hmp;obtain ⟨t3,ht3⟩:∃ t3,t3=(z2.row (zH 0 0 0 0 0 0) 1).own z2.next (zH (v.getD 0 0) (v.getD 1 0) (v.getD 2 0) (v.getD 3 0) (v.getD 4 0) (v.getD 5 0)) 1:=⟨_,rfl⟩;have M3:New z2 t3:=by rw [ht3];exact (New.row _ _ _).own (Nat.le_refl _)
  have o3:Own t3 z2.next (six v) 1:=by rw [ht3,uZ];exact (zC _ _ _).put
  have h3:zB Pg t3 32 ⟨z.next,2,none⟩=some (.slice q m d):=((w1.le N2.le).le M3.le).ld uV rfl;obtain ⟨c4,h4⟩:=slice6h hs.m6 o3;obtain ⟨p5,c5,z5,k5,N5,I5,f5⟩:=clone_i (c:=c4) (six_take v6 hs.m6 o3) (by have:=hs.m6;omega);have nx:New z.re z5/\BestW z.next w l m (.tuple ⟨[.slice p2 l c2,.slice p5 m c5,iV 0]⟩) z5:=⟨((M1.trans N2).trans M3).trans N5,.inr (.inr ⟨hf,rs,_,p2,c2,p5,c5,rfl,SlV.le (SlV.le I2 M3.le) N5.le,I5,⟨r1,r2,r3,by rw [r4,hln.2],fun ros' g1 g2 g3=>by rw [<- r4];exact r5 ros' g1 g2 g3⟩,fun b hb=>by have:=f2 b hb;omega⟩)⟩;subst ht3 ht1;exact Best_rb k1 k2 h3 h4 k5 nx hf
theorem Best_c (h:WkP z 85 88 w p l q m) (hsh:zAQ w):∃ v z',zD Pg 25 [.agg ⟨wkc w.days p l c q m d w.rest w.run w.hours⟩] z v z'/\New z z'/\BestV w l m v z':=by
 obtain ⟨v,s,h1,h2,h3⟩:=Best_w (c:=c) (d:=d) h hsh;refine ⟨v,s,h1,h2, ?_⟩
 rcases h3 with h | h | ⟨h0,rs,gs,pr,cr,pg,cg,e,g1,g2,g3,_⟩
 ·exact .inl h
 ·exact .inr (.inl h)
 ·exact .inr (.inr ⟨h0,rs,gs,pr,cr,pg,cg,e,g1,g2,g3⟩)
theorem Most_c (h:WkP z 85 88 w p l q m) (hsh:zAQ w):∃ v z',zD Pg 37 [.agg ⟨wkc w.days p l c q m d w.rest w.run w.hours⟩] z v z'/\New z z'/\MostV w l v z':=by
 have hln:=h.len;suffices hmain:zO Pg 37 [.agg ⟨wkc w.days p l c q m d w.rest w.run w.hours⟩] z.re fun v s=>New z.re s/\MostV w l v s by
  obtain ⟨v,s,h1,h2,h3⟩:=zO.new hmain (by
   rintro v s s' (h | ⟨h0,rs,pr,cr,h1,h2,h3⟩) hl
   ·exact .inl h
   ·exact .inr ⟨h0,rs,pr,cr,h1,SlV.le h2 hl,h3⟩) (by
   rintro v s hr (h | ⟨h0,rs,pr,cr,rfl,h2,h3⟩)
   ·exact .inl h
   ·cases pr with
    | some a=>exact Bool.noConfusion (show false=true from hr)
    | none=>exact .inr ⟨h0,rs,none,cr,rfl,zGI h2,h3⟩)
  exact ⟨v,s,h1,h2,h3⟩
 obtain ⟨t1,ht1⟩:∃ t1,t1=z.re.row (wkc w.days p l c q m d w.rest w.run w.hours) 6:=⟨_,rfl⟩;have M1:New z.re t1:=by rw [ht1];exact New.row _ _ _
 have h1:=h.le ((le0 z).trans M1.le);have k1:=zLQ (c:=c) (d:=d) h1 hsh;by_cases hf:yY w=0;rotate_left
 ·subst ht1;exact Most_ra k1 ⟨New.row _ _ _,.inl ⟨hf,rfl⟩⟩ hf
 have hs:=Sane.of hf hsh hln.1 hln.2;obtain ⟨n,hn,hn1,hn7,hv⟩:=yIH hf;obtain ⟨v,can,o,rs,p2,c2,z2,k2,N2,I2,f2,v6,vb,bo,ho⟩:=run_c (c:=c) (d:=d) (leaves:=true) (fw:=65) (fc:=[]) (wf:=zES) h1 hsh hs hn hn7 hv.toDays
  (fun z' hz D pw lw cw who hi hlw=>Most1_c hi (by omega)) (fun D a=>rfl) countV_bd (fun k hk=>rfl) rfl
 have hst:∀ k,k<w.drivers.length->st0 w m k=before (drv w k):=fun k hk=>by unfold st0;rw [if_pos (by omega)]
 have br:=most_r hv hst bo;rw [uZ] at k2;cases o with
 | none=>exact br.elim
 | some r =>
  obtain ⟨who,u⟩:=r;obtain ⟨hc,hvu,hmp⟩:can=true/\v=u/\(xA w n 0).map (zZ rs)=who:=ho;subst hvu;obtain ⟨b1,b2⟩:=br;obtain ⟨r1,r2,r3,r4⟩:=b2 _ hmp;have hv0:v.getD 0 0=xS w (zZ rs):=by rw [r3];rfl
  have M3:New z2 ((z2.row (zH 0 0 0 0 0 0) 1).own z2.next (zH (v.getD 0 0) (v.getD 1 0) (v.getD 2 0) (v.getD 3 0) (v.getD 4 0) (v.getD 5 0)) 1):=(New.row _ _ _).own (Nat.le_refl _);have nx:New z.re ((z2.row (zH 0 0 0 0 0 0) 1).own z2.next (zH (v.getD 0 0) (v.getD 1 0) (v.getD 2 0) (v.getD 3 0) (v.getD 4 0) (v.getD 5 0)) 1)/\MostV w l (.tuple ⟨[.slice p2 l c2,iV (v.getD 0 0),iV 0]⟩) ((z2.row (zH 0 0 0 0 0 0) 1).own z2.next (zH (v.getD 0 0) (v.getD 1 0) (v.getD 2 0) (v.getD 3 0) (v.getD 4 0) (v.getD 5 0)) 1):=⟨(M1.trans N2).trans M3,.inr ⟨hf,rs,p2,c2,by rw [hv0],SlV.le I2 M3.le,⟨r1,r2,r4⟩⟩⟩;subst ht1;exact Most_rb k1 k2 nx hf
end
end Go.Proofs.YtgfiniccfpfplaaGreat
