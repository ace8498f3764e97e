import Derived.Test.YtgfiniccfpfplaaGreatTC
set_option linter.unusedVariables false
set_option linter.unusedSimpArgs false
set_option maxRecDepth 20000
namespace Go.Proofs.YtgfiniccfpfplaaGreat
open Go Go.Lay
open Tryz renaming prog → Pg
section
variable {σ z:St} {w:Wk} {p q r pw:Option Addr} {l m c d rl rc lw cw:Nat} {xs ws:List Int}
theorem xDP {dt:Int} (h:WkP σ 92 76 w p l q m) (hw:SlV Tryz.prog σ 5 1 pw lw (ws.map yZW)) (hb:∀ x∈ws,0≤x∧x≤255) (hdt:0≤dt∧dt≤255):yPU Tryz.prog 15 11 [.agg ⟨wkc w.days p l c q m d w.rest w.run w.hours⟩,.slice pw lw cw,.int .u8 dt] σ fun v _=>v=.bool true:=by
 have hln:=h.len.1;have hm:=h.len.2;obtain ⟨t1,ht1⟩:∃ t1,t1=σ.row (wkc w.days p l c q m d w.rest w.run w.hours) 6:=⟨_,rfl⟩;have L1:Le σ t1:=by rw [ht1];exact Le.row _ _ _
 have w1:Row t1 ⟨σ.y,0,none⟩ (wkc w.days p l c q m d w.rest w.run w.hours):=by rw [ht1];exact xN _ _ _
 have hnx:σ.y<t1.y:=w1.lt;have k1:=xRC (c:=c) (d:=d) (h.le L1);cases b0:zYN w with
 | false =>
  rw [b0] at k1;subst ht1;exact xKK k1 rfl
 | true =>
 rw [b0] at k1;obtain ⟨hsh,hf,h8,h4⟩:=yMW b0;by_cases hl0:l=0
 ·subst ht1;exact xKM k1 rfl (by omega)
 have hs:=Sane.of hf hsh hln hm;have ldw:∀ s,Le t1 s→zB Tryz.prog s 25 ⟨σ.y,0,none⟩=some (.agg ⟨wkc w.days p l c q m d w.rest w.run w.hours⟩):=fun s hs=>(w1.le hs).ldN zEN zAM (k:=0) rfl rfl (nle rfl)
 have ldd:∀ s,Le t1 s→zB Tryz.prog s 22 ⟨σ.y,1,none⟩=some (.slice p l c):=fun s hs=>(w1.le hs).ld zAW rfl
 have bn:∀ s,Le t1 s→σ.y<s.y:=fun s hs=>by have:=hs.y;omega
 have pab:∀ s,Le t1 s→∀ a,p=some a→a.block<s.y:=fun s hs=>xJ ((h.le L1).le hs).dty
 have qab:∀ s,Le t1 s→∀ a,q=some a→a.block<s.y:=fun s hs=>by obtain ⟨vs,g,_⟩:=((h.le L1).le hs).drv;exact xJ g
 have b0':∀ s,Le t1 s→zI s.y [.pointer (some ⟨σ.y,0,none⟩)]:=fun s hs=>(zE (zN (bn s hs)) zH)
 have bw':∀ s,Le t1 s→zI s.y [.agg ⟨wkc w.days p l c q m d w.rest w.run w.hours⟩]:=fun s hs=>(zE (zBP (pab s hs) (qab s hs)) zH)
 have lw':∀ s,Le t1 s→((⟨σ.y,0,none⟩:Addr).block<s.y∧zM RD (.agg ⟨wkc w.days p l c q m d w.rest w.run w.hours⟩)=true)∧zB Tryz.prog s 25 ⟨σ.y,0,none⟩=some (.agg ⟨wkc w.days p l c q m d w.rest w.run w.hours⟩):=fun s hs=>⟨⟨bn s hs,rfl⟩,ldw s hs⟩
 obtain ⟨p8,c8,q8,d8,s8,k2,N2,w2⟩:=yXF (c:=c) (d:=d) (h.le L1) (by omega) (by omega) hsh;obtain ⟨v,s12,k3,N3,bv⟩:=xWR (c:=c8) (d:=d8) w2 hsh;obtain ⟨hf',_⟩ | ⟨_,rs,pr,cr,rfl,irs,B⟩:=bv
 ·exact absurd hf hf'
 have L12:Le t1 s12:=N2.le.trans N3.le;have h12:=(h.le L1).le L12;have k5:=yLE (c:=c) (d:=d) (rc:=cr) h12 irs (by omega) (by omega);have erl:=irs.len;have hrl:rs.length=w.duties.length:=by omega
 have hisr:zDU w rs=true:=zRK.2 ⟨hrl,fun i hi=>B.ros.ros i (by omega)⟩;rw [hisr] at k5;obtain ⟨i,hi,ei⟩:∃ i:Nat,i<l∧dt.tmod (l:Int)=(i:Int):=by
  have e2:dt.tmod (l:Int)=dt % (l:Int):=Int.tmod_eq_emod_of_nonneg (by omega);have e3:=Int.emod_nonneg dt (show (l:Int)≠0 by omega);have e4:=Int.emod_lt_of_pos dt (show 0<(l:Int) by omega);exact ⟨(dt % (l:Int)).toNat,by omega,by omega⟩
 have k7:uR Tryz.prog .rem 3 (.tmp 39) (.tmp 42) (iV dt) (iV ((l:Nat):Int))=some (iV (i:Int)):=by rw [yRJ (by omega),ei]
 obtain ⟨p23,c23,s23,k8,N8,i23,_⟩:=zYM (c:=cr) irs (by omega);have L23:Le t1 s23:=L12.trans N8.le;obtain ⟨out,p31,c31,s31,k10,N10,i31,hout⟩:=xTH (c:=c) (d:=d) (cw:=cw) ((h.le L1).le L23) (SlV.le hw (L1.trans L23)) hb (by omega) (by omega);have L31:Le t1 s31:=L23.trans N10.le;obtain ⟨t2,ht2⟩:∃ t2,t2=s31.row [.slice none 0 0,.slice none 0 0] 1:=⟨_,rfl⟩;have n2:t2.y=s31.y+1:=by rw [ht2];rfl
 have M2:New s31 t2:=by rw [ht2];exact New.row _ _ _
 obtain ⟨t3,ht3⟩:∃ t3,t3=t2.own s31.y [.slice p23 l c23,.slice p31 l c31] 1:=⟨_,rfl⟩;have n3:t3.y=s31.y+1:=by rw [ht3];exact n2
 have M3:New s31 t3:=by rw [ht3];exact M2.own (Nat.le_refl _)
 have o3:Own t3 s31.y [.slice p23 l c23,.slice p31 l c31] 1:=by rw [ht3,ht2];exact (zC _ _ _).put
 have L2:Le t1 t2:=L31.trans M2.le;have L3:Le t1 t3:=L31.trans M3.le;have i23':yI s31 p23 l rs:=SlV.le i23 N10.le;have k14:zI t2.y [.pointer (some ⟨s31.y,0,none⟩),.agg ⟨[.slice p23 l c23,.slice p31 l c31]⟩]:=by
  have e1:∀ a,p23=some a→Nat.blt a.block t2.y=true:=fun a e=>(xX _ _).2 (by have:=xJ i23' a e;omega)
  have e2:∀ a,p31=some a→Nat.blt a.block t2.y=true:=fun a e=>(xX _ _).2 (by have:=xJ i31 a e;omega)
  refine zE (zN (by show s31.y<t2.y;omega)) (zE ?_ zH);show List.all [Value.slice p23 l c23,Value.slice p31 l c31] (yS (RD-1) t2.y)=true;rcases p23 with _ | a <;> rcases p31 with _ | b <;> simp [yS,RD] <;> simp_all
 have hL:zYQ σ.y (i:Int) s31.y 0 t3 (fun _ _=>False) (fun _=>True):=by
  refine yMZ (Inv:=fun k i12 y=>∃ j:Nat,i12=(j:Int)∧j+k=2∧Le t3 y) ?_ 2 0 t3 ⟨0,rfl,by omega,Le.refl _⟩;rintro k i12 y ⟨j,rfl,hk,hle⟩;by_cases hj:j<2;rotate_left
  ·exact xDQ trivial (by omega)
  have Ly:Le t1 y:=L3.trans hle;obtain ⟨px,cx,ys,ldx,ix,hy⟩:∃ (px:Option Addr) (cx:Nat) (ys:List Int),(∀ s,Le t3 s→zB Tryz.prog s 26 ⟨s31.y,0+Int.toNat (j:Int)*1,none⟩=some (.slice px l cx))∧yI t3 px l ys∧ys.length=l:=by
   match j,hj with
   | 0,_=>exact ⟨p23,c23,rs,fun s hh=>(o3.le hh).ld (k:=0) rfl yV rfl,SlV.le i23' M3.le,erl⟩
   | 1,_=>exact ⟨p31,c31,out,fun s hh=>(o3.le hh).ld (k:=1) rfl yV rfl,SlV.le i31 M3.le,i31.len⟩
  have hyw:=(h.le L1).le Ly;obtain ⟨pa,ca,qa,da,sa,g2,Na,wa⟩:=yXF (c:=c) (d:=d) hyw (by omega) (by omega) hsh;have La:Le t3 sa:=hle.trans Na.le;obtain ⟨pb,cb,sb,g4,Nb,ib,_⟩:=zYM (c:=cx) (SlV.le ix La) (by omega);have Lb:Le t3 sb:=La.trans Nb.le;have wb:=wa.le Nb.le;have g5:=zMN (c:=ca) (d:=da) (rc:=cb) (eF:=0) wb hsh ib (by omega);have B2:∀ s,Le t3 s→s31.y<s.y:=fun s hh=>by have:=hh.y;omega
  have bx:∀ s,Le t3 s→∀ a,px=some a→a.block<s.y:=fun s hh=>xJ (SlV.le ix hh)
  have bp:∀ s,Le t3 s→zI s.y [.pointer (some ⟨s31.y,0+Int.toNat (j:Int)*1,none⟩)]:=fun s hh=>(zE (zN (B2 s hh)) zH)
  have bs:∀ s,Le t3 s→zI s.y [.slice px l cx]:=fun s hh=>(zE (yR (bx s hh)) zH)
  have lk:∀ s,Le t3 s→((⟨s31.y,0+Int.toNat (j:Int)*1,none⟩:Addr).block<s.y∧zM RD (.slice px l cx)=true)∧zB Tryz.prog s 26 ⟨s31.y,0+Int.toNat (j:Int)*1,none⟩=some (.slice px l cx):=fun s hh=>⟨⟨B2 s hh,rfl⟩,ldx s hh⟩
  have bwb:zI sb.y [.agg ⟨wkc w.days pa l ca qa m da w.rest w.run w.hours⟩,.slice pb l cb,iV 0]:=(zE (zBP (xJ wb.dty) (by obtain ⟨vs,g,_⟩:=wb.drv;exact xJ g)) (zE (yR (xJ ib)) (zE rfl zH)));have hB1:σ.y<y.y:=bn y Ly;have hB2:=B2 y hle;cases e5:zCJ w ys 0 with
  | false =>
   rw [e5] at g5;exact xDR (ldw y Ly) g2 (ldx sa La) g4 g5 (bw' y Ly) (bp sa La) (bs sa La) bwb (ldx y hle) (lk sa La) ⟨k-1,by omega,j+1,by omega,by omega,Lb⟩ (by omega) ⟨by omega,by omega⟩ ⟨by omega,by omega⟩ hB1 hB2
  | true =>
   rw [e5] at g5;have LB:Le t1 sb:=L3.trans Lb;obtain ⟨pc,cc,qc,dc,sc,g7,Nc,wc⟩:=yXF (c:=c) (d:=d) ((h.le L1).le LB) (by omega) (by omega) hsh;have Lc:Le t3 sc:=Lb.trans Nc.le;obtain ⟨pe,ce,se,g9,Ne,ie,_⟩:=xPU (c:=cx) (k:=-1) (SlV.le ix Lc) hi (by omega);have we:=wc.le Ne.le;have g10:=zMN (c:=cc) (d:=dc) (rc:=ce) (eF:=0) we hsh ie (by omega);rw [yUB hf hs hln hm (by omega) e5] at g10;have bsc:zI sc.y [.slice px l cx,iV (i:Int),iV (-1)]:=(zE (yR (bx sc Lc)) (zE rfl (zE rfl zH)));have bwe:zI se.y [.agg ⟨wkc w.days pc l cc qc m dc w.rest w.run w.hours⟩,.slice pe l ce,iV 0]:=(zE (zBP (xJ we.dty) (by obtain ⟨vs,g,_⟩:=we.drv;exact xJ g)) (zE (yR (xJ ie)) (zE rfl zH)));exact xDS (ldw y Ly) g2 (ldx sa La) g4 g5 (ldw sb LB) g7 (ldx sc Lc) g9 g10 (bw' y Ly) (bp sa La) (bs sa La) bwb (b0' sb LB) (bw' sb LB) (bp sc Lc) bsc bwe (ldx y hle) (lk sa La) (lk sb Lb) (lk sc Lc) ⟨k-1,by omega,j+1,by omega,by omega,Lc.trans Ne.le⟩ (by omega) ⟨by omega,by omega⟩ ⟨by omega,by omega⟩ hB1 hB2
 have b11:zI s12.y [.slice pr l cr]:=(zE (yR (xJ irs)) zH);have b13:zI s23.y [.agg ⟨wkc w.days p l c q m d w.rest w.run w.hours⟩,.slice pw lw cw]:=(zE (zBP (pab s23 L23) (qab s23 L23)) (zE (yR (xJ (SlV.le hw (L1.trans L23)))) zH));have k0:∀ y,True→zNL σ.y (i:Int) s31.y y (fun v _=>v=.bool true):=fun y _=>yMY rfl
 have kr:∀ b y,False→zYR σ.y (i:Int) s31.y b y (fun v _=>v=.bool true):=fun b y hh=>hh.elim
 have lw12:=lw' s12 L12;have lw23:=lw' s23 L23;have lw31:=lw' s31 L31;have lw2:=lw' t2 L2;have ldw12:=ldw s12 L12;have ldw23:=ldw s23 L23;have ldd12:=ldd s12 L12;have b023:=b0' s23 L23;subst ht3 ht2 ht1;exact xKL k1 k2 k3 ldw12 k5 ldd12 k7 k8 ldw23 k10 b11 b023 b13 k14 lw12 lw23 lw31 lw2 hL kr k0 (by omega) rfl ⟨by omega,by omega⟩
end
section
variable {σ:St}
theorem zBB {n:Nat} {cs:List Value} (h:WT Pg σ (n+1) 3 cs):∃ i,cs=[yA i]:=by
 unfold WT at h;simp only [Tryz.underlying3] at h;obtain ⟨i,h,_⟩:=h;exact ⟨i,h⟩
theorem zOD {n:Nat} {t e:TypeId} {cs:List Value} {k:Nat} (hu:Pg.underlying t=some (.slice e)) (hk:Pg.cellsOf e=k) (h:WT Pg σ (n+1) t cs) :
  ∃ p len cap rs,cs=[.slice p len cap]∧len≤maxLen∧SlP σ k p len rs∧rs.length=len*k∧∀ i,i<len→WT Pg σ n e ((rs.drop (i*k)).take k):=by
 unfold WT at h;simp only [hu,hk] at h;rcases h with rfl | ⟨b,len,cap,rs,rfl,h1,h2,h3,h4,h5,h6⟩
 ·exact ⟨none,0,0,[],rfl,by decide,SlP.nil _ _,by simp,fun i hi=>by omega⟩
 ·refine ⟨_,len,cap,rs,rfl,h1,⟨h3, ?_,h5⟩,h3,h6⟩
  simp only [yM,h4,yB,wS,Nat.zero_add,List.drop_zero,List.take_length];show (bif Nat.ble rs.length rs.length then some rs else none)=some rs;rw [show Nat.ble rs.length rs.length=true from by simp];rfl
theorem zXK {α:Type} {k:Nat} {Q:List Value→Prop} {f:α→List Value} (hq:∀ cs,Q cs→∃ x,cs=f x):∀ (len:Nat) (rs:List Value),rs.length=len*k→(∀ i,i<len→Q ((rs.drop (i*k)).take k))→∃ xs:List α,xs.length=len∧rs=xs.flatMap f
 | 0,rs,hl,_=>⟨[],rfl,by simpa using hl⟩
 | len+1,rs,hl,h=>by
  obtain ⟨x,hx⟩:=hq _ (h 0 (by omega));obtain ⟨xs,h1,h2⟩:=zXK (k:=k) hq len (rs.drop k) (by simp [hl,Nat.add_mul]) (fun i hi=>by
   have:=h (i+1) (by omega);rwa [Nat.add_mul,Nat.one_mul,Nat.add_comm (i*k),← List.drop_drop] at this)
  refine ⟨x::xs,by simp [h1], ?_⟩
  simp only [List.flatMap_cons,← h2,← hx];simp
theorem yFA {α:Type} (f:α→List Value) (xs:List α):wY (xs.map fun x=>.agg ⟨f x⟩)=xs.flatMap f:=by
 induction xs with
 | nil=>rfl
 | cons x xs ih=>rw [List.map_cons,List.flatMap_cons,← ih];simp [wY,Value.cells]
theorem xMC (xs:List Int):wY (xs.map yA)=xs.flatMap fun x=>[yA x]:=by
 induction xs with
 | nil=>rfl
 | cons x xs ih=>rw [List.map_cons,List.flatMap_cons,← ih];rfl
theorem xTJ {n:Nat} {cs:List Value} (h:WT Pg σ (n+1) 5 cs):∃ i:Int,cs=[.int .u8 i]∧0≤i∧i≤255:=by
 unfold WT at h;simp only [Tryz.underlying5] at h;obtain ⟨i,h,hk⟩:=h;refine ⟨i,h, ?_⟩
 rw [show IntKind.u8.min=0 by decide,show IntKind.u8.max=255 by decide] at hk;exact hk
theorem yQE {n:Nat} {t e:TypeId} {p:Option Addr} {l c k:Nat} (hu:Pg.underlying t=some (.slice e)) (hk:Pg.cellsOf e=k) (h:WT Pg σ (n+1) t [.slice p l c]):zSV σ k p l c:=by
 unfold WT at h;simp only [hu,hk] at h;rcases h with h | ⟨b,len,cap,rs,h1,h2,h3,h4,h5,h6,h7⟩
 ·obtain ⟨rfl,rfl,rfl⟩:p=none∧l=0∧c=0:=by simpa using h
  exact .inl ⟨rfl,rfl,rfl⟩
 ·obtain ⟨rfl,rfl,rfl⟩:p=some ⟨b,0,none⟩∧l=len∧c=cap:=by simpa using h1
  exact .inr ⟨b,rs,1,true,rfl,by rw [← zSG h3.2];exact h3.1,h3.2,h5,h4,h6⟩
theorem yGF {n:Nat} {cs:List Value} (h:WT Pg σ (n+2) 26 cs):∃ p l c xs,cs=[.slice p l c]∧yI σ p l xs∧zSV σ 1 p l c:=by
 obtain ⟨p,l,c,rs,e1,_,s1,l1,w1⟩:=zOD Tryz.underlying26 (k:=1) (by kernel_rfl) h;subst e1;have ha:=yQE Tryz.underlying26 (k:=1) (by kernel_rfl) h;obtain ⟨xs,n1,rfl⟩:=zXK (f:=fun x:Int=>[yA x]) (fun cs h=>zBB h) l rs l1 w1;refine ⟨p,l,c,xs,rfl,⟨by rw [xMC];exact s1,by simpa using n1,fun v hv=>?_⟩,ha⟩
 obtain ⟨x,_,rfl⟩:=List.mem_map.1 hv;exact uV x
theorem xGF {n:Nat} {cs:List Value} (h:WT Pg σ (n+2) 63 cs):∃ p l c,∃ xs:List Int,cs=[.slice p l c]∧SlV Pg σ 5 1 p l (xs.map fun x=>.int .u8 x)∧∀ x∈xs,0≤x∧x≤255:=by
 obtain ⟨p,l,c,rs,e1,_,s1,l1,w1⟩:=zOD Tryz.underlying63 (k:=1) (by kernel_rfl) h;obtain ⟨xs,n1,rfl⟩:=zXK (f:=fun x:{x:Int // 0≤x∧x≤255}=>[Value.int .u8 x.1]) (fun cs h=>by
  obtain ⟨i,e,h⟩:=xTJ h;exact ⟨⟨i,h⟩,e⟩) l rs l1 w1
 have hf:wY ((xs.map (·.1)).map fun x=>Value.int .u8 x)=xs.flatMap fun x=>[Value.int .u8 x.1]:=by
  clear n1 s1 l1 w1;induction xs with
  | nil=>rfl
  | cons x xs ih=>rw [List.map_cons,List.map_cons,List.flatMap_cons,← ih];rfl
 refine ⟨p,l,c,xs.map (·.1),e1,⟨by rw [hf];exact s1,by simpa using n1,fun v hv=>?_⟩,fun x hx=>?_⟩
 ·obtain ⟨x,_,rfl⟩:=List.mem_map.1 hv;exact .inl ⟨xTB,rfl,rfl⟩
 ·obtain ⟨x,_,rfl⟩:=List.mem_map.1 hx;exact x.2
theorem xUC {n:Nat} {cs:List Value} (h:WT Pg σ (n+3) 92 cs):∃ x:Dty,cs=zF x.day x.on x.lo x.hi x.route:=by
 unfold WT at h;simp only [Tryz.underlying92] at h;obtain ⟨hl,h⟩:=h;have hl:cs.length=5:=hl.trans (by kernel_rfl);obtain ⟨c1,c2,c3,c4,c5,rfl⟩:∃ c1 c2 c3 c4 c5,cs=[c1,c2,c3,c4,c5]:=by
  match cs,hl with
  | [c1,c2,c3,c4,c5],_=>exact ⟨_,_,_,_,_,rfl⟩
 have k3:Pg.cellsOf 3=1:=by kernel_rfl
 have k90:Pg.cellsOf 90=2:=by kernel_rfl
 simp only [List.mem_cons,List.not_mem_nil,or_false,forall_eq_or_imp,forall_eq,k3,k90] at h;obtain ⟨⟨_,h1⟩,⟨_,h2⟩,⟨_,h3⟩,⟨_,h5⟩⟩:=h;obtain ⟨x1,h1⟩:=zBB h1;obtain ⟨x2,h2⟩:=zBB h2;obtain ⟨x5,h5⟩:=zBB h5;unfold WT at h3;simp only [Tryz.underlying90] at h3;obtain ⟨_,h3⟩:=h3;simp only [List.mem_cons,List.not_mem_nil,or_false,forall_eq_or_imp,forall_eq,k3] at h3;obtain ⟨⟨_,h3⟩,⟨_,h4⟩⟩:=h3;obtain ⟨x3,h3⟩:=zBB h3;obtain ⟨x4,h4⟩:=zBB h4;obtain rfl:c1=yA x1:=by simpa using h1
 obtain rfl:c2=yA x2:=by simpa using h2
 obtain rfl:c3=yA x3:=by simpa using h3
 obtain rfl:c4=yA x4:=by simpa using h4
 obtain rfl:c5=yA x5:=by simpa using h5
 exact ⟨⟨x1,x2,x3,x4,x5⟩,rfl⟩
theorem xOV {n:Nat} {cs:List Value} (h:WT Pg σ (n+4) 22 cs):∃ p l c xs,cs=[.slice p l c]∧yBB σ 92 p l xs∧zSV σ 5 p l c:=by
 obtain ⟨p,l,c,rs,e1,_,s1,l1,w1⟩:=zOD Tryz.underlying22 (k:=5) (by kernel_rfl) h;subst e1;have ha:=yQE Tryz.underlying22 (k:=5) (by kernel_rfl) h;obtain ⟨xs,n1,rfl⟩:=zXK (f:=fun x:Dty=>zF x.day x.on x.lo x.hi x.route) (fun cs h=>xUC h) l rs l1 w1;refine ⟨p,l,c,xs,rfl,⟨?_,by simpa using n1,fun v hv=>?_⟩,ha⟩
 ·rw [yFA fun x:Dty=>zF x.day x.on x.lo x.hi x.route];exact s1
 ·obtain ⟨x,_,rfl⟩:=List.mem_map.1 hv;exact .inr ⟨xYB,zIJ,_,rfl,rfl⟩
def xWT (σ:St) (v:Value) (x:Drv):Prop:=∃ p l c q m d r n e,v=.agg ⟨zO p l c q m d r n e x.off x.row x.used⟩∧(yI σ p l x.knows∧zSV σ 1 p l c)∧(yI σ q m x.leave∧zSV σ 1 q m d)∧yI σ r n x.wish
theorem xWT.v {v:Value} {x:Drv} (h:xWT σ v x):zVA σ v x:=by
 obtain ⟨p,l,c,q,m,d,r,n,e,h1,h2,h3,h4⟩:=h;exact ⟨p,l,c,q,m,d,r,n,e,h1,h2.1,h3.1,h4⟩
theorem xUD {n:Nat} {cs:List Value} (h:WT Pg σ (n+3) 76 cs):∃ (x:Drv) (p q r:Option Addr) (l c m d j e:Nat),cs=zO p l c q m d r j e x.off x.row x.used∧(yI σ p l x.knows∧zSV σ 1 p l c)∧(yI σ q m x.leave∧zSV σ 1 q m d)∧yI σ r j x.wish:=by
 unfold WT at h;simp only [Tryz.underlying76] at h;obtain ⟨hl,h⟩:=h;have hl:cs.length=6:=hl.trans (by kernel_rfl);obtain ⟨c1,c2,c3,c4,c5,c6,rfl⟩:∃ c1 c2 c3 c4 c5 c6,cs=[c1,c2,c3,c4,c5,c6]:=by
  match cs,hl with
  | [c1,c2,c3,c4,c5,c6],_=>exact ⟨_,_,_,_,_,_,rfl⟩
 have k3:Pg.cellsOf 3=1:=by kernel_rfl
 have k26:Pg.cellsOf 26=1:=by kernel_rfl
 simp only [List.mem_cons,List.not_mem_nil,or_false,forall_eq_or_imp,forall_eq,k3,k26] at h;obtain ⟨⟨_,h1⟩,⟨_,h2⟩,⟨_,h3⟩,⟨_,h4⟩,⟨_,h5⟩,⟨_,h6⟩⟩:=h;obtain ⟨p1,l1,e1,x1,h1,i1,a1⟩:=yGF h1;obtain ⟨p2,l2,e2,x2,h2,i2,a2⟩:=yGF h2;obtain ⟨p3,l3,e3,x3,h3,i3,_⟩:=yGF h3;obtain ⟨x4,h4⟩:=zBB h4;obtain ⟨x5,h5⟩:=zBB h5;obtain ⟨x6,h6⟩:=zBB h6;obtain rfl:c1=.slice p1 l1 e1:=by simpa using h1
 obtain rfl:c2=.slice p2 l2 e2:=by simpa using h2
 obtain rfl:c3=.slice p3 l3 e3:=by simpa using h3
 obtain rfl:c4=yA x4:=by simpa using h4
 obtain rfl:c5=yA x5:=by simpa using h5
 obtain rfl:c6=yA x6:=by simpa using h6
 exact ⟨⟨x1,x2,x3,x4,x5,x6⟩,p1,p2,p3,l1,e1,l2,e2,l3,e3,rfl,⟨i1,a1⟩,⟨i2,a2⟩,i3⟩
structure DrvsA (σ:St) (p:Option Addr) (l c:Nat) (xs:List Drv):Prop where
 vs:∃ vs:List Value,SlV Pg σ 76 6 p l vs∧xs.length=l∧∀ (i:Nat) (x:Drv),xs[i]?=some x→∃ v,vs[i]?=some v∧xWT σ v x
 arg:zSV σ 6 p l c
theorem DrvsA.p {p:Option Addr} {l c:Nat} {xs:List Drv} (h:DrvsA σ p l c xs):zUR σ 76 p l xs:=by
 obtain ⟨vs,h1,h2,h3⟩:=h.vs;exact ⟨vs,h1,h2,fun i x hx=>by obtain ⟨v,g1,g2⟩:=h3 i x hx;exact ⟨v,g1,g2.v⟩⟩
theorem xOW {n:Nat} {cs:List Value} (h:WT Pg σ (n+4) 23 cs):∃ p l c xs,cs=[.slice p l c]∧DrvsA σ p l c xs:=by
 obtain ⟨p,l,c,rs,e1,_,s1,l1,w1⟩:=zOD Tryz.underlying23 (k:=6) (by kernel_rfl) h;subst e1;have ha:=yQE Tryz.underlying23 (k:=6) (by kernel_rfl) h;obtain ⟨xs,n1,rfl⟩:=zXK (f:=fun x:{x:List Value × Drv // ∃ p q r l c m d j e,x.1=zO p l c q m d r j e x.2.off x.2.row x.2.used∧(yI σ p l x.2.knows∧zSV σ 1 p l c)∧(yI σ q m x.2.leave∧zSV σ 1 q m d)∧yI σ r j x.2.wish}=>x.1.1) (fun cs h=>by
  obtain ⟨x,p,q,r,l,c,m,d,j,e,h1,h2⟩:=xUD h;exact ⟨⟨⟨cs,x⟩,p,q,r,l,c,m,d,j,e,h1,h2⟩,rfl⟩) l rs l1 w1
 refine ⟨p,l,c,xs.map fun x=>x.1.2,rfl,⟨⟨xs.map fun x=>.agg ⟨x.1.1⟩,⟨?_,by simpa using n1,fun v hv=>?_⟩,by simpa using n1,fun i x hx=>?_⟩,ha⟩⟩
 ·have:wY (xs.map fun x=>Value.agg ⟨x.1.1⟩)=xs.flatMap fun x=>x.1.1:=yFA (fun x:{x:List Value × Drv // ∃ p q r l c m d j e,x.1=zO p l c q m d r j e x.2.off x.2.row x.2.used∧(yI σ p l x.2.knows∧zSV σ 1 p l c)∧(yI σ q m x.2.leave∧zSV σ 1 q m d)∧yI σ r j x.2.wish}=>x.1.1) xs
  rw [this];exact s1
 ·obtain ⟨x,_,rfl⟩:=List.mem_map.1 hv;obtain ⟨p,q,r,l,c,m,d,j,e,h1,_⟩:=x.2;exact .inr ⟨xNW,uZ,_,rfl,by rw [h1];rfl⟩
 ·rw [List.getElem?_map] at hx;cases hy:xs[i]? with
  | none=>rw [hy] at hx;cases hx
  | some y =>
   rw [hy] at hx;obtain rfl:y.1.2=x:=by simpa using hx
   obtain ⟨p,q,r,l,c,m,d,j,e,h1,h2⟩:=y.2;exact ⟨.agg ⟨y.1.1⟩,by rw [List.getElem?_map,hy];rfl,p,l,c,q,m,d,r,j,e,by rw [h1],h2⟩
theorem xOU {n:Nat} {cs:List Value} (h:WT Pg σ (n+5) 25 cs):∃ (w:Wk) (p q:Option Addr) (l c m d:Nat),cs=wkc w.days p l c q m d w.rest w.run w.hours∧WkP σ 92 76 w p l q m∧zSV σ 5 p l c∧DrvsA σ q m d w.drivers:=by
 unfold WT at h;simp only [Tryz.underlying25] at h;obtain ⟨hl,h⟩:=h;have hl:cs.length=6:=hl.trans (by kernel_rfl);obtain ⟨c1,c2,c3,c4,c5,c6,rfl⟩:∃ c1 c2 c3 c4 c5 c6,cs=[c1,c2,c3,c4,c5,c6]:=by
  match cs,hl with
  | [c1,c2,c3,c4,c5,c6],_=>exact ⟨_,_,_,_,_,_,rfl⟩
 have k3:Pg.cellsOf 3=1:=by kernel_rfl
 have k22:Pg.cellsOf 22=1:=by kernel_rfl
 have k23:Pg.cellsOf 23=1:=by kernel_rfl
 simp only [List.mem_cons,List.not_mem_nil,or_false,forall_eq_or_imp,forall_eq,k3,k22,k23] at h;obtain ⟨⟨_,h1⟩,⟨_,h2⟩,⟨_,h3⟩,⟨_,h4⟩,⟨_,h5⟩,⟨_,h6⟩⟩:=h;obtain ⟨x1,h1⟩:=zBB h1;obtain ⟨p,l,c,xs,h2,i2,a2⟩:=xOV h2;obtain ⟨q,m,d,ys,h3,i3⟩:=xOW h3;obtain ⟨x4,h4⟩:=zBB h4;obtain ⟨x5,h5⟩:=zBB h5;obtain ⟨x6,h6⟩:=zBB h6;obtain rfl:c1=yA x1:=by simpa using h1
 obtain rfl:c2=.slice p l c:=by simpa using h2
 obtain rfl:c3=.slice q m d:=by simpa using h3
 obtain rfl:c4=yA x4:=by simpa using h4
 obtain rfl:c5=yA x5:=by simpa using h5
 obtain rfl:c6=yA x6:=by simpa using h6
 exact ⟨⟨x1,xs,ys,x4,x5,x6⟩,p,q,l,c,m,d,rfl,⟨i2,i3.p⟩,a2,i3⟩
theorem yYW {ι:Inj} {av v:Value} (h:VR ι av v) (hv:∀ cs,v≠.agg cs):∀ cs,av≠.agg cs:=by
 rintro cs rfl;cases h with
 | atom h=>simp [uG] at h
 | agg _ _=>exact hv _ rfl
theorem xUI {W:World} {t e:TypeId} {v:Value} (hu:Pg.underlying t=some (.slice e)) (h:Value.okWide Pg W .any 0 t v):∀ cs,v≠.agg cs:=by
 rintro cs rfl;unfold Value.okWide at h;rw [hu] at h;simp [Cell.okWide,Cell.ok,hu] at h
theorem xRG {W:World} {t:TypeId} {k:IntKind} {v:Value} (hu:Pg.underlying t=some (.int k)) (h:Value.okWide Pg W .any 0 t v):∀ cs,v≠.agg cs:=by
 rintro cs rfl;unfold Value.okWide at h;rw [hu] at h;simp [Cell.okWide,Cell.ok,hu] at h
theorem yPC {v:Value} {p:Option Addr} {l c:Nat} (h:v.cells.toList=[.slice p l c]) (hn:∀ cs,v≠.agg cs):v=.slice p l c:=by
 cases v with
 | agg cs=>exact absurd rfl (hn cs)
 | _=>first | (simp [Value.cells] at h;done) | simpa [Value.cells] using h
theorem xFF {v:Value} {k:IntKind} {x:Int} (h:v.cells.toList=[.int k x]) (hn:∀ cs,v≠.agg cs):v=.int k x:=by
 cases v with
 | agg cs=>exact absurd rfl (hn cs)
 | _=>first | (simp [Value.cells] at h;done) | simpa [Value.cells] using h
end
end Go.Proofs.YtgfiniccfpfplaaGreat
