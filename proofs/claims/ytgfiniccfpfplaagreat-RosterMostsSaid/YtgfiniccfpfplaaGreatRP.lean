
import Derived.Test.YtgfiniccfpfplaaGreatRN
namespace Go.Proofs.YtgfiniccfpfplaaGreat
open Go Go.Lay
open Tryz renaming prog → Pg
set_option linter.unusedVariables false
set_option linter.unusedSimpArgs false
set_option maxRecDepth 20000
structure Same (n0:Nat) (z z':St):Prop where
 next:z.next≤z'.next
 get:∀ y,y<z.next→(∀ tm ps a b st pend db,yR z.heap y≠some (.loop tm ps a b st pend db))→yR z'.heap y=yR z.heap y
 old:∀ y,y<n0→yR z'.heap y=yR z.heap y
theorem Same.own {n0:Nat} {z z':St} {b n:Nat} {cs:List Value} (h:Same n0 z z') (k:Own z b cs n):Own z' b cs n:=k.at_ (h.get b k.lt (fun _ _ _ _ _ _ _ e=>by rw [k.get] at e;cases e)) h.next
theorem Same.of_le {n0:Nat} {z z':St} (h:Le z z') (hn:n0≤z.next):Same n0 z z':=⟨h.next,fun y hy _=>h.get y hy,fun y hy=>h.get y (by omega)⟩
theorem Same.rw {n0:Nat} {z z':St} {a:Addr} {cs:List Value} (h:Same n0 z z') (k:Row z a cs):Row z' a cs:=by
 refine ⟨?_,Nat.lt_of_lt_of_le k.lt h.next⟩
 have:=k.rd
 unfold yU at this ⊢
 rw [h.get a.block k.lt (fun tm ps x y st pend db e=>by rw [e] at this;simp at this)]
 exact this
theorem Same.slv {n0:Nat} {z z':St} {t n len:Nat} {p:Option Addr} {vs:List Value} (h:Same n0 z z') (k:SlV Pg z t n p len vs):SlV Pg z' t n p len vs:=by
 refine ⟨⟨k.1.1, ?_⟩,k.2⟩
 cases p with
 | none=>exact k.1.2
 | some a=>exact h.rw k.1.2
theorem Same.gr {n0 m0 t n len c:Nat} {p:Option Addr} {vs:List Value} {z z':St} (h:Same n0 z z') (k:Gr Pg z m0 t n p len c vs):Gr Pg z' m0 t n p len c vs:=by
 have key:∀ {v:Value} {cs:List Value},App z m0 n v len cs→App z' m0 n v len cs:=by
  intro v cs ka
  cases ka with
  | nil=>exact .nil
  | more g1 g2 g3 g4 g5 g6 g7=>exact .more (by rw [h.get _ g4 (fun _ _ _ _ _ _ _ e=>by rw [g1] at e;cases e)];exact g1) g2 g3 (Nat.lt_of_lt_of_le g4 h.next) g5 g6 g7
 exact ⟨key k.app,k.len_eq,k.el⟩
abbrev dtyL (x:Dty):List Value:=zF x.day x.on x.lo x.hi x.route
abbrev yKD (z:St) (x:Dty):St:=(z.row (zF 0 0 0 0 0) 5).own z.next (dtyL x) 5
theorem yPI (z:St) (x:Dty):Le z (yKD z x):=(Le.row z (zF 0 0 0 0 0) 5).own (Nat.le_refl _)
theorem on1_run {σ:St} {w:Wk} {p q:Option Addr} {l m c d lo a1 a2 D:Nat} (r1:Row σ ⟨a1,0,none⟩ (wkc w.days p l c q m d w.rest w.run w.hours)) (hl:l≤100000) {K:Nat→St→Prop} (h0:K 0 σ)
  (hT:∀ s z,K s z→Row z ⟨a2,0,none⟩ [yC D]∧yBT z 85 p l w.duties) (hJ:∀ s z,s<l→K s z→if (dty w s).day=(D:Int) then ∃ z',yPH Pg lo [iV (s:Int),zEU (dty w s)] (yKD z (dty w s)) (.bool true) z'∧K (s+1) z' else K (s+1) (yKD z (dty w s))) :
  zQ Pg 91 [.func (.yield lo) ⟨[]⟩ ⟨[]⟩,.pointer (some ⟨a1,0,none⟩),.pointer (some ⟨a2,0,none⟩)] σ fun v s=>v=.tuple ⟨[]⟩∧K l s:=by
 have hn:w.duties.length=l:=by have:=(hT 0 σ h0).2.2.1;simpa using this
 refine on1_ra (Pr:=fun _=>False) (P0:=fun τ=>K l τ) (r1.load1 zEP (k:=1) rfl)
  (ySZ (Inv:=fun k i τ=>∃ s:Nat,i=s∧s+k=l∧K s τ) (Qr:=fun _=>False) (Q0:=fun τ=>K l τ) ?_ l 0 σ ⟨0,rfl,by omega,h0⟩) (fun _ h=>h.elim) (fun τ h=>ySY ⟨rfl,h⟩)
 rintro k i τ ⟨s,rfl,hk,hj⟩
 by_cases hs:s<l
 rotate_left
 ·have:s=l:=by omega
  subst this
  exact on1_s1d hj (by omega)
 obtain ⟨ra,hd⟩:=hT s τ hj
 obtain ⟨a,rfl,x,hx,lx⟩:=vR hd hs
 have ex:x=dty w s:=by
  unfold dty
  rw [List.getD_eq_getElem?_getD,hx];rfl
 subst ex
 have l2:zB Pg (yKD τ (dty w s)) 3 ⟨a2,0,none⟩=some (iV (D:Int)):=(ra.le (yPI τ (dty w s))).ld zR rfl
 have h:=hJ s τ hs hj
 by_cases ht:(dty w s).day=(D:Int)
 ·rw [if_pos ht] at h
  obtain ⟨τ',h1,h2⟩:=h
  exact on1_s1a lx l2 h1 ⟨k-1,by omega,s+1,by omega,by omega,h2⟩ (by omega) (by omega) ht (by omega)
 ·rw [if_neg ht] at h
  exact on1_s1c lx l2 ⟨k-1,by omega,s+1,by omega,by omega,h⟩ (by omega) (by omega) ht (by omega)
theorem yIY {zf:St→Dty→St} (hzf:∀ (z:St) (x:Dty),Le z (zf z x)) (hzl:∀ (z:St) (x:Dty),z.next≤(zf z.re x).low) {w:Wk} {pp q:Option Addr} {l m c d D:Nat} {gx:Operand} {ps:Array Tmp} {a b:Code} {n:Nat} {l0:List (Nat × Value)} {Qn:St→Prop} {τ:St} {a1 a2 n0:Nat} {J:Nat→St→Prop}
  (hg:∀ g0,yG (Fm n (ov l0 g0)) gx=.func (.func 91) ⟨[]⟩ ⟨[.pointer (some ⟨a1,0,none⟩),.pointer (some ⟨a2,0,none⟩)]⟩) (r1:Row τ ⟨a1,0,none⟩ (wkc w.days pp l c q m d w.rest w.run w.hours)) (hl:l≤100000) (hn0:n0≤τ.next)
  (hT:∀ s z,J s z→Row z ⟨a2,0,none⟩ [yC D]∧yBT z 85 pp l w.duties) (h0:J 0 τ) (hJ:∀ s z z',J s z→Same n0 z z'→J s z') (hskip:∀ s z,s<l→(dty w s).day≠(D:Int)→J s z→J (s+1) z)
  (hR:∀ s z z1 lo g0 db,s<l→(dty w s).day=(D:Int)→lo=τ.next+1→yR z.heap lo=some (.loop (Fm n (ov l0 g0)) ps.toList a b .ready none db)→z1=(zf z.re (dty w s)).put lo (.loop (Fm n (ov l0 g0)) ps.toList a b .busy none db)→J s z→τ.next+2≤z.next →
   ∃ z4,yPF Pg lo [iV (s:Int),zEU (dty w s)] z (Fm n (ov l0 g0)) ps.toList a b db [⟨Unit,.normal,fun _=>[],fun _=>[],fun _ z=>z=z4⟩]∧J (s+1) z4∧∃ S,Only S z1 z4∧∀ y,S y→n0≤y∧y≠τ.next∧y≠τ.next+1)
  (hQ:∀ z,J l z→yR z.heap τ.next=some .defd→τ.next<z.next→(∀ m,m≤n0→m≤τ.low→m≤z.low)→Qn z):yEJ Pg (zZ Pg) gx ps a b n l0 [(.normal,Qn)] τ:=by
 refine yRW (fs:=[.pointer (some ⟨a1,0,none⟩),.pointer (some ⟨a2,0,none⟩)]) (f:=91) hg (fun g0=>?_)
 obtain ⟨τa,hτa⟩:∃ τa,τa=(τ.add .defd).add (.loop (Fm n (ov l0 g0)) ps.toList a b .ready none τ.next):=⟨_,rfl⟩
 have hN:New τ τa:=by rw [hτa];exact (New.add _ _).trans (New.add _ _)
 have nxa:τa.next=τ.next+2:=by rw [hτa];rfl
 have Ld:yR τa.heap τ.next=some .defd:=by rw [hτa,St.add_get,if_neg (by simp),St.add_get,if_pos rfl]
 have Ll:yR τa.heap (τ.next+1)=some (.loop (Fm n (ov l0 g0)) ps.toList a b .ready none τ.next):=by rw [hτa,St.add_get,if_pos (by simp)]
 have sm_re:∀ z:St,Same n0 z z.re:=fun z=>⟨Nat.le_refl _,fun _ _ _=>rfl,fun _ _=>rfl⟩
 let K:Nat→St→Prop:=fun s z=>J s z∧yR z.heap τ.next=some .defd∧yR z.heap (τ.next+1)=some (.loop (Fm n (ov l0 g0)) ps.toList a b .ready none τ.next)∧τa.next≤z.next∧n0≤z.low∧((J s τa.re∧New τa.re z)∨z.low≤τ.next+1)
 have J0:J 0 τa.re:=hJ _ _ _ (hJ _ _ _ h0 (Same.of_le hN.le hn0)) (sm_re τa)
 have hrun:zQ Pg 91 [.func (.yield (τ.next+1)) ⟨[]⟩ ⟨[]⟩,.pointer (some ⟨a1,0,none⟩),.pointer (some ⟨a2,0,none⟩)] τa.re fun v s=>v=.tuple ⟨[]⟩∧K l s:=by
  refine on1_run (w:=w) (p:=pp) (D:=D) ((r1.le hN.le).le (le0 _)) hl (K:=K) ⟨J0,Ld,Ll,Nat.le_refl _,by show n0≤τa.next;omega,.inl ⟨J0,New.refl _⟩⟩ (fun s z h=>hT s z h.1) ?_
  rintro s z hs ⟨j1,j2,j3,j4,j5,j6⟩
  have zl:=yPI z (dty w s)
  have zn:New z (yKD z (dty w s)):=(New.row z (zF 0 0 0 0 0) 5).own (Nat.le_refl _)
  have kz:K s (yKD z (dty w s)):=⟨hJ _ _ _ j1 (Same.of_le zl (by omega)),by rw [zl.get _ (by omega)];exact j2,by rw [zl.get _ (by omega)];exact j3,by have:=zl.next;omega,zn.low _ j5 (by omega),j6.imp (fun h=>⟨h.1,h.2.trans zn⟩) (fun h=>Nat.le_trans (Nat.min_le_left _ _) h)⟩
  by_cases ht:(dty w s).day=(D:Int)
  rotate_left
  ·rw [if_neg ht]
   obtain ⟨k1,k2,k3,k4,k5,k6⟩:=kz
   exact ⟨hskip s _ hs ht k1,k2,k3,k4,k5,k6.imp (fun h=>⟨hskip s _ hs ht h.1,h.2⟩) id⟩
  rw [if_pos ht]
  obtain ⟨j1,j2,j3,j4,j5,j6⟩:=kz
  obtain ⟨z,hz⟩:∃ z',z'=yKD z (dty w s):=⟨_,rfl⟩
  rw [← hz] at j1 j2 j3 j4 j5 j6 ⊢
  obtain ⟨z1,hz1⟩:∃ z1,z1=(zf z.re (dty w s)).put (τ.next+1) (.loop (Fm n (ov l0 g0)) ps.toList a b .busy none τ.next):=⟨_,rfl⟩
  have zl1:=hzf z.re (dty w s)
  have s0:Same n0 z (zf z.re (dty w s)):=⟨zl1.next,fun y hy _=>zl1.get y hy,fun y hy=>zl1.get y (by show y<z.next;omega)⟩
  have j3':yR (zf z.re (dty w s)).heap (τ.next+1)=some (.loop (Fm n (ov l0 g0)) ps.toList a b .ready none τ.next):=by rw [zl1.get _ (by show _<z.next;omega)];exact j3
  have s1:Same n0 z z1:=⟨by rw [hz1];exact zl1.next,fun y hy hne=>by
   rw [hz1,St.put_get,if_neg (fun e=>by subst e;exact hne _ _ _ _ _ _ _ j3)];exact zl1.get y hy,fun y hy=>by rw [hz1,St.put_get,if_neg (by omega)];exact zl1.get y (by show y<z.next;omega)⟩
  have nx1:z.next≤z1.next:=by rw [hz1];exact zl1.next
  have L1:yR z1.heap (τ.next+1)=some (.loop (Fm n (ov l0 g0)) ps.toList a b .busy none τ.next):=by rw [hz1,St.put_get,if_pos rfl]
  have D1:yR z1.heap τ.next=some .defd:=by rw [hz1,St.put_get,if_neg (by omega),zl1.get _ (by show _<z.next;omega)];exact j2
  obtain ⟨z4,hr,k1,S,k2,k3⟩:=hR s z z1 (τ.next+1) g0 τ.next hs ht rfl j3 hz1 j1 (by omega)
  have L4:yR z4.heap (τ.next+1)=some (.loop (Fm n (ov l0 g0)) ps.toList a b .busy none τ.next):=by
   rw [k2.get _ (by omega) (fun h=>(k3 _ h).2.2 rfl)];exact L1
  have D4:yR z4.heap τ.next=some .defd:=by
   rw [k2.get _ (by omega) (fun h=>(k3 _ h).2.1 rfl)];exact D1
  have n4:=k2.next
  obtain ⟨e,z',⟨al,hal,rfl,t,hq⟩,hc⟩:=hr
  simp only [In,or_false] at hal
  subst hal
  have hq:z'=z4:=hq
  subst hq
  have hcy:=hc (.inl rfl) (by omega) L4 (by omega)
  have hlow:n0≤z'.low:=k2.low n0 (by have:=hzl z (dty w s);rw [hz1];show n0≤min (zf z.re (dty w s)).low (τ.next+1);omega) (by omega) (fun y _ hy=>(k3 y hy).1)
  refine ⟨_,hcy,hJ _ _ _ k1 ⟨Nat.le_refl _,fun y hy hne=>?_,fun y hy=>?_⟩, ?_, ?_, ?_, ?_,.inr ?_⟩
  ·show yR (z'.put _ _).heap y=_
   rw [St.put_get,if_neg (fun e=>by subst e;exact hne _ _ _ _ _ _ _ L4)]
  ·show yR (z'.put _ _).heap y=_
   rw [St.put_get,if_neg (by omega)]
  ·show yR (z'.put _ _).heap _=_
   rw [St.put_get,if_neg (by omega)];exact D4
  ·show yR (z'.put _ _).heap _=_
   rw [St.put_get,if_pos rfl];rfl
  ·show τa.next≤z'.next;omega
  ·show n0≤min _ _;omega
  ·show min _ _≤_;omega
 obtain ⟨v,s,h1,rfl,j1,j2,j3,j4,j5,j6⟩:=hrun
 have fin:∀ u z:St,J l u→yR u.heap τ.next=some .defd→yR u.heap (τ.next+1)=some (.loop (Fm n (ov l0 g0)) ps.toList a b .ready none τ.next)→τa.next≤u.next→z.heap=u.heap→z.next=u.next→(∀ m,m≤n0→m≤τ.low→m≤z.low)→yJX [(.normal,Qn)] (yYP none) (z.put (τ.next+1) (.loop (Fm n (ov l0 g0)) ps.toList a b .exhausted none τ.next)):=by
  intro u z i1 i2 i3 i4 e1 e2 e3
  refine .inl ⟨rfl,hQ _ (hJ _ _ _ i1 ⟨by show u.next≤z.next;omega,fun y hy hne=>?_,fun y hy=>?_⟩) ?_ (by show τ.next<z.next;omega) (fun m h1 h2=>?_)⟩
  ·rw [St.put_get,if_neg (fun e=>by subst e;exact hne _ _ _ _ _ _ _ i3),e1]
  ·rw [St.put_get,if_neg (by omega),e1]
  ·rw [St.put_get,if_neg (by omega),e1];exact i2
  ·have:=e3 m h1 h2;show m≤min _ _;omega
 by_cases hlw:s.low≤τ.next+1
 ·refine ⟨_,⟨s.heap,s.next,min τa.low s.low⟩,.ready,none,by rw [← hτa];exact mut_c h1 j4 (by omega),j3,.inl ⟨rfl,rfl⟩,fin s _ j1 j2 j3 j4 rfl rfl (fun m h1 h2=>?_)⟩
  have:=hN.low m h2 (by omega)
  show m≤min _ _;omega
 ·rcases j6 with ⟨g1,g2⟩ | e
  rotate_left
  ·exact absurd e hlw
  refine ⟨_,τa,.ready,none,by rw [← hτa];exact zVN h1 (by omega) rfl,Ll,.inl ⟨rfl,rfl⟩,fin τa.re τa g1 Ld Ll (Nat.le_refl _) rfl rfl (fun m h1 h2=>hN.low m h2 (by omega))⟩
end Go.Proofs.YtgfiniccfpfplaaGreat
