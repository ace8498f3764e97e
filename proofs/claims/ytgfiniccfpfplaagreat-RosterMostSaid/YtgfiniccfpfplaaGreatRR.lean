import Derived.Test.YtgfiniccfpfplaaGreatRP

namespace Go.Proofs.YtgfiniccfpfplaaGreat
open Go Go.Lay
set_option linter.unusedVariables false
set_option linter.unusedSimpArgs false
set_option maxRecDepth 20000
section
variable {w:Wk} {ros tru:Nat->Int} {l m:Nat}
structure StB (s:Std) (n:Nat):Prop where
 free:-10080<=s.free/\s.free<=100000
 day:-1<=s.day/\s.day<=6
 row:0<=s.row/\s.row<=15+s.day
 used:0<=s.used/\s.used<=20000+1440*n
theorem StB.ok {s:Std} {n:Nat} (h:StB s n) (hn:n<=200):StOk s:=by
 have h1:=h.free;have h2:=h.day;have h3:=h.row;have h4:=h.used;exact ⟨by omega,by omega,by omega,by omega⟩
theorem StB.mono {s:Std} {n n':Nat} (h:StB s n) (hn:n<=n'):StB s n':=⟨h.free,h.day,h.row,by have:=h.used;omega⟩
theorem StB.take {s:Std} {x:Dty} {e:Int} {n:Nat} (h:StB s n) (hx:0<=x.day/\x.day<=6) (he:x.on<=e/\e<=x.on+1440) (ho:0<=x.on/\x.on<=1439) (hd:s.day<=x.day):StB (take s x e) (n+1):=by
 have h1:=h.free;have h2:=h.day;have h3:=h.row;have h4:=h.used;unfold Go.Proofs.YtgfiniccfpfplaaGreat.take;by_cases e1:s.day=x.day
 ·rw [if_pos e1];exact ⟨h1,h2,h3,by simp only;omega⟩
 ·rw [if_neg e1];refine ⟨by simp only;omega,⟨by simp only;omega,hx.2⟩, ?_,by simp only;omega⟩
  simp only;by_cases e2:s.day=x.day-1
  ·rw [if_pos e2];omega
  ·rw [if_neg e2];omega
theorem yAZ {k D j:Nat}:(xF w ros tru k D j).day<=(D:Int):=by
 obtain ⟨h1,h2⟩:=zWQ (w:=w) (ros:=ros) (tru:=tru) (k:=k) (D:=D) (j:=j);by_cases e:onL w ros k D j=[]
 ·rw [h2 e,(zLU (w:=w) (ros:=ros) (tru:=tru) (k:=k) (D:=D)).2.2];have:=zGV (w:=w) (ros:=ros) (k:=k) (D:=D);omega
 ·rw [h1.2 e];exact Int.le_refl _
theorem standI_b (hs:Sane w l m) (hl:w.duties.length=l) (ht:∀ i,i<l->(dty w i).on<=tru i/\tru i<=(dty w i).on+1440) {k:Nat} (hk:k<m):∀ {D j:Nat},j<=l->StB (xF w ros tru k D j) (D*l+j):=by
 have step:∀ {D j:Nat},j<l->StB (xF w ros tru k D j) (D*l+j)->StB (xF w ros tru k D (j+1)) (D*l+(j+1)):=by
  intro D j hj h;rw [uR];split
  ·rename_i hh;unfold his at hh;simp only [Bool.and_eq_true,decide_eq_true_eq] at hh;have hd:=hs.duty j hj;have:=yAZ (w:=w) (ros:=ros) (tru:=tru) (k:=k) (D:=D) (j:=j);exact h.take ⟨hd.1,hd.2.1⟩ (ht j hj) ⟨hd.2.2.1,hd.2.2.2.1⟩ (by omega)
  ·exact h.mono (by omega)
 have day:∀ {D:Nat},StB (xF w ros tru k D 0) (D*l+0)->∀ {j:Nat},j<=l->StB (xF w ros tru k D j) (D*l+j):=by
  intro D h0 j;induction j with
  | zero=>intro _;exact h0
  | succ j ih=>intro hj;exact step (by omega) (ih (by omega))
 intro D;induction D with
 | zero =>
  intro j hj;refine day ?_ hj;have:=hs.dr k hk;show StB (before (drv w k)) _;exact ⟨⟨this.1,by show (drv w k).off<=_;omega⟩,⟨Int.le_refl _,by show (-1:Int)<=6;omega⟩,⟨this.2.2.1,by show (drv w k).row<=15+(-1:Int);omega⟩,⟨this.2.2.2.2.1,by show (drv w k).used<=_;omega⟩⟩
 | succ D ih =>
  intro j hj;refine day ?_ hj;have h:=ih (Nat.le_refl l);have e:xF w ros tru k (D+1) 0=xF w ros tru k D l:=by
   rw [<- hl];rfl
  rw [e,Nat.add_mul,Nat.one_mul];exact h
def stF (w:Wk) (ros tru:Nat->Int) (m D j:Nat):Nat->Std:=fun k=>if k<m then xF w ros tru k D j else zVA
theorem stF_next {D:Nat}:stF w ros tru m (D+1) 0=stF w ros tru m D w.duties.length:=rfl
theorem yKE {D j:Nat} (h:¬ ((dty w j).day=(D:Int)/\0<=ros j)):stF w ros tru m D (j+1)=stF w ros tru m D j:=by
 funext k;unfold stF;split
 ·rw [uR,if_neg];unfold his;simp only [Bool.and_eq_true,decide_eq_true_eq];rintro ⟨h1,h2⟩;exact h ⟨h2,by omega⟩
 ·rfl
theorem stF_take {D j k:Nat} (hk:k<m) (hd:(dty w j).day=(D:Int)) (hr:ros j=(k:Int)):stF w ros tru m D (j+1)=upd (stF w ros tru m D j) k (take (stF w ros tru m D j k) (dty w j) (tru j)):=by
 funext i;unfold stF upd;by_cases e:i=k
 ·subst e;rw [if_pos hk,if_pos rfl,if_pos hk,uR,if_pos (by unfold his;simp [hd,hr])];rfl
 ·rw [if_neg e];show (if i<m then xF w ros tru i D (j+1) else zVA)=if i<m then xF w ros tru i D j else zVA;have e2:xF w ros tru i D (j+1)=xF w ros tru i D j:=by rw [uR,if_neg (by unfold his;simp [hd,hr];omega)]
  rw [e2]
theorem yFE {D j:Nat} (h:¬ ((dty w j).day=(D:Int)/\ros j≠-1)):zER w ros tru D (j+1)=zER w ros tru D j:=by
 rw [yUX];split
 ·rename_i hd;have:ros j=-1:=Decidable.not_not.1 fun e=>h ⟨hd,e⟩
  unfold zOR;rw [if_pos this,List.append_nil]
 ·rw [List.append_nil]
theorem dayB_take {D j k:Nat} (hk:k<m) (hd:(dty w j).day=(D:Int)) (hr:ros j=(k:Int)):zER w ros tru D (j+1)=zER w ros tru D j++zOS w k j (stF w ros tru m D j k) 5:=by
 rw [yUX,if_pos hd];congr 1;unfold zOR zOS stF;rw [if_neg (by omega),if_pos hk,show (ros j).toNat=k by omega]
end
end Go.Proofs.YtgfiniccfpfplaaGreat

namespace Go.Proofs.YtgfiniccfpfplaaGreat
open Go Go.Lay
set_option linter.unusedVariables false
set_option linter.unusedSimpArgs false
set_option maxRecDepth 20000
structure JL (Z:St) (wl:List Value) (rv tv:Value) (X:Nat->Prop) (f:Nat->Std) (A:List Bch) (τ:St):Prop where
 le:Le Z.re τ
 wk:Row τ ⟨Z.next,0,none⟩ wl
 ro:Row τ ⟨Z.next+1,0,none⟩ [rv]
 tr:Row τ ⟨Z.next+2,0,none⟩ [tv]
 nw:Own τ (Z.next+4) (stL f) 4
 out:∃ po co,Own τ (Z.next+3) [.slice po A.length co] 1/\Gr Tryz.prog τ (Z.next+5) 45 3 po A.length co (A.map yPJ)/\∀ b,AtP po b->¬ X b
section
variable {Z τ τ':St} {wl:List Value} {rv tv:Value} {X:Nat->Prop} {f:Nat->Std} {A:List Bch}
theorem J.dn (h:J Z wl rv tv X f A τ):JL Z wl rv tv X f A τ:=⟨h.new.le,h.wk,h.ro,h.tr,h.nw,h.out⟩
theorem JL.up (h:JL Z wl rv tv X f A τ) (hl:Z.next<=τ.low):J Z wl rv tv X f A τ:=⟨⟨h.le,fun m _ h2=>Nat.le_trans h2 hl⟩,h.wk,h.ro,h.tr,h.nw,h.out⟩
theorem JL.mono {Y:Nat->Prop} (h:JL Z wl rv tv X f A τ) (k:∀ b,b<τ.next->Z.next+5<=b->Y b->X b):JL Z wl rv tv Y f A τ:=by
 obtain ⟨po,co,h1,h2,h3⟩:=h.out;exact ⟨h.le,h.wk,h.ro,h.tr,h.nw,po,co,h1,h2,fun b hb hy=>h3 b hb (k b (h2.bd hb).2 (h2.bd hb).1 hy)⟩
theorem JL.same {n0:Nat} (h:JL Z wl rv tv X f A τ) (k:Same n0 τ τ') (hn:Z.next<=n0):JL Z wl rv tv X f A τ':=by
 obtain ⟨po,co,h1,h2,h3⟩:=h.out;exact ⟨⟨Nat.le_trans h.le.next k.next,fun b hb=>(k.old b (Nat.lt_of_lt_of_le hb hn)).trans (h.le.get b hb)⟩,k.rw h.wk,k.rw h.ro,k.rw h.tr,k.own h.nw,po,co,k.own h1,k.gr h2,h3⟩
theorem yQZ {lo:Nat} {args:List Value} {z:St} {tm:Tm} {ps:List Tmp} {a b:Code} {db:Nat} {Q:St->Prop} (h:zGF Tryz.prog lo args z tm ps a b db [⟨Unit,.normal,fun _=>[],fun _=>[],fun _ z=>Q z⟩]):∃ z4,Q z4/\zGF Tryz.prog lo args z tm ps a b db [⟨Unit,.normal,fun _=>[],fun _=>[],fun _ z=>z=z4⟩]:=by
 obtain ⟨e,z',⟨al,hal,rfl,t,hq⟩,hc⟩:=h;simp only [In,or_false] at hal;subst hal;exact ⟨z',hq,_,z',⟨_,.inl rfl,rfl,(),rfl⟩,hc⟩
variable {w:Wk} {p q r t:Option Addr} {l m c d rc tc D:Nat} {rs ts:List Int}
theorem day_run {wd i19:Int} {a1 a2:Nat} (h:WkP Z 85 88 w p l q m) (hs:Sane w l m) (hsh:zAQ w) (hr:yG Z r l rs) (ht:yG Z t l ts) (hro:∀ i,i<l->-1<=zZ rs i/\zZ rs i<(m:Int))
  (hts:∀ i,i<l->(dty w i).on<=zZ ts i/\zZ ts i<=(dty w i).on+1440) (hA:∀ j,j<=l->(zCI w (zZ rs) (zZ ts) D++zER w (zZ rs) (zZ ts) D j).length<=450) (hD:D<=6)
  (r1:Row τ ⟨a1,0,none⟩ (wkc w.days p l c q m d w.rest w.run w.hours)) (r2:Row τ ⟨a2,0,none⟩ [yB D]) (ha2:Z.next+5<=a2) {ms:List Nat} (hms:∀ y∈ms,yI τ.heap y=some .defd/\Z.next+5<=y/\y<τ.next)
  (hJ:J Z (wkc w.days p l c q m d w.rest w.run w.hours) (.slice r l rc) (.slice t l tc) (fun x=>x=a2\/x∈ms) (stF w (zZ rs) (zZ ts) m D 0) (zCI w (zZ rs) (zZ ts) D) τ) {Qn:St->Prop}
  (hQ:∀ z,JL Z (wkc w.days p l c q m d w.rest w.run w.hours) (.slice r l rc) (.slice t l tc) (fun x=>x∈τ.next::ms) (stF w (zZ rs) (zZ ts) m (D+1) 0) (zCI w (zZ rs) (zZ ts) (D+1)) z->(∀ y∈τ.next::ms,yI z.heap y=some .defd)->τ.next<z.next->Z.next<=z.low->Qn z) :
  yFL Z.next (Z.next+1) (Z.next+2) (Z.next+3) (Z.next+4) wd i19 91 [.pointer (some ⟨a1,0,none⟩),.pointer (some ⟨a2,0,none⟩)] τ Qn:=by
 have hn:=h.len.1;have hm6:=hs.m6;have hl12:=hs.l12;have hτ5:Z.next+5<=τ.next:=by have:=hJ.nw.lt;omega
 obtain ⟨X,hX⟩:∃ X:Nat->Prop,X=fun x=>x<Z.next\/x=a2\/x=τ.next\/x=τ.next+1\/x∈ms:=⟨_,rfl⟩
 have hX3:¬ X (Z.next+3):=by
  rw [hX];rintro (g | g | g | g | g)
  ·omega
  ·omega
  ·omega
  ·omega
  ·have:=(hms _ g).2.1;omega
 have hX4:¬ X (Z.next+4):=by
  rw [hX];rintro (g | g | g | g | g)
  ·omega
  ·omega
  ·omega
  ·omega
  ·have:=(hms _ g).2.1;omega
 refine yUU (w:=w) (pp:=p) (q:=q) (l:=l) (m:=m) (c:=c) (d:=d) (D:=D) (a1:=a1) (a2:=a2) (n0:=Z.next) (J:=fun s z=>JL Z (wkc w.days p l c q m d w.rest w.run w.hours) (.slice r l rc) (.slice t l tc) X (stF w (zZ rs) (zZ ts) m D s) (zCI w (zZ rs) (zZ ts) D++zER w (zZ rs) (zZ ts) D s) z/\Row z ⟨a2,0,none⟩ [yB D]/\(∀ y∈ms,yI z.heap y=some .defd)/\τ.next<=z.next)
  (fun g0=>rfl) r1 (by omega) (by omega) (fun s z hz=>⟨hz.2.1,SlV.le h.dty ((le0 Z).trans hz.1.le)⟩) ⟨?_,r2,fun y hy=>(hms y hy).1,Nat.le_refl _⟩ (fun s z z' hz hk=>⟨hz.1.same hk (Nat.le_refl _),hk.rw hz.2.1,fun y hy=>by rw [hk.get y (by have:=(hms y hy).2.2;have:=hz.2.2.2;omega) (fun _ _ _ _ _ _ _ e=>by rw [hz.2.2.1 y hy] at e;cases e)];exact hz.2.2.1 y hy,Nat.le_trans hz.2.2.2 hk.next⟩) ?_ ?_ ?_
 ·have e:zCI w (zZ rs) (zZ ts) D++zER w (zZ rs) (zZ ts) D 0=zCI w (zZ rs) (zZ ts) D:=by simp [zER]
  rw [e];refine hJ.dn.mono ?_
  rw [hX];rintro b hb hb2 (h1 | h1 | h1 | h1 | h1)
  ·omega
  ·exact .inl h1
  ·omega
  ·omega
  ·exact .inr h1
 ·rintro s z hsl hd ⟨hz,hz2⟩;rw [yKE (fun e=>hd e.1),yFE (fun e=>hd e.1)];exact ⟨hz,hz2⟩
 ·rintro s z z1 lo g0 db hsl hd hlo hlp hz1 ⟨hz,hz2,hz3,hz4⟩ hnx;have zl:=zVH z.re (dty w s);have hlt:lo<z.next:=by omega
  have hl1:yI (yGA z.re (dty w s)).heap lo=some (zBW Z.next (Z.next+1) (Z.next+2) (Z.next+3) (Z.next+4) wd i19 91 [.pointer (some ⟨a1,0,none⟩),.pointer (some ⟨a2,0,none⟩)] g0 .ready none db):=by
   rw [zl.get _ hlt];exact hlp
  have s1:Same Z.next z z1:=⟨by rw [hz1];exact zl.next,fun y hy hne=>by
   rw [hz1,St.put_get,if_neg (fun e=>by subst e;exact hne _ _ _ _ _ _ _ hlp)];exact zl.get y hy,fun y hy=>by rw [hz1,St.put_get,if_neg (by omega)];exact zl.get y (by show y<z.next;omega)⟩
  have hm1:∀ y∈ms,yI z1.heap y=some .defd:=fun y hy=>by rw [s1.get y (by have:=(hms y hy).2.2;omega) (fun _ _ _ _ _ _ _ e=>by rw [hz3 y hy] at e;cases e)];exact hz3 y hy
  have hlw:Z.next<=z1.low:=by rw [hz1];show Z.next<=min (min z.next z.next) lo;omega
  have Jz:=(hz.mono (Y:=fun x=>X x\/z.next<=x) (fun b h1 _ h3=>h3.elim id (fun h4=>by omega)));have J1:=(Jz.same s1 (Nat.le_refl _)).up hlw;have rB:Row z1 ⟨z.re.next,0,none⟩ (dtyL (dty w s)):=by
   rw [hz1];exact (Only.put (S:=(·=lo)) (.inr rfl)).rw' ((zC z.re (zF 0 0 0 0 0) 5).put).rw (fun e=>by have e:z.next=lo:=e;omega)
  have LS:Le Z z1:=(le0 Z).trans J1.new.le;obtain ⟨a,rfl,x,hx,lx⟩:=vF (SlV.le hr LS) hsl;have gx:zZ rs s=x:=yM hx;have l26:zB Tryz.prog z1 26 ⟨Z.next+1,0,none⟩=some (.slice (some a) l rc):=J1.ro.ld yS rfl;have hrs:=hro s hsl;by_cases e1:x=-1
  ·refine ⟨z1,yVT hlp hl1 hz1 l26 lx rfl (by omega) e1, ?_,fun _=>False,Only.refl _ _,fun y hy=>hy.elim⟩
   rw [yKE (fun e=>by omega),yFE (fun e=>by omega)];exact ⟨hz.same s1 (Nat.le_refl _),s1.rw hz2,hm1,Nat.le_trans hz4 s1.next⟩
  obtain ⟨k,hkx⟩:∃ k:Nat,x=(k:Int):=⟨x.toNat,by omega⟩;have hk:k<m:=by omega
  have hrk:zZ rs s=(k:Int):=by rw [gx,hkx]
  obtain ⟨bq,s2,cq,nq,hbq,rowq⟩:=zTU (Z:=z1);obtain ⟨X2,hX2⟩:∃ X2:Nat->Prop,X2=fun x=>X x\/x=z.next\/x=bq:=⟨_,rfl⟩
  have nz1:=s1.next;have J2:J Z (wkc w.days p l c q m d w.rest w.run w.hours) (.slice (some a) l rc) (.slice t l tc) X2 (stF w (zZ rs) (zZ ts) m D s) (zCI w (zZ rs) (zZ ts) D++zER w (zZ rs) (zZ ts) D s) s2:=by
   refine (J1.le nq.le (J1.new.trans nq)).mono ?_
   rw [hX2];rintro b _ _ (g | g | g)
   ·exact .inl g
   ·exact .inr (by omega)
   ·exact .inr (by omega)
  have ha2z:a2<τ.next:=r2.lt;have hz12:z.next<s2.next:=by have:=nq.le.next;have:=rB.lt;have e:z.re.next<z1.next:=this;have:z.next<z1.next:=e;omega
  have hXlt:∀ x,X2 x->x<s2.next:=by
   rw [hX2,hX];rintro x ((g | g | g | g | g) | g | g)
   ·omega
   ·omega
   ·omega
   ·omega
   ·have:=(hms _ g).2.2;omega
   ·omega
   ·have:=rowq.lt;rw [g];exact this
  have hX23:¬ X2 (Z.next+3):=by
   rw [hX2];rintro (g | g | g)
   ·exact hX3 g
   ·omega
   ·have:=J1.nw.lt;omega
  have hX24:¬ X2 (Z.next+4):=by
   rw [hX2];rintro (g | g | g)
   ·exact hX4 g
   ·omega
   ·have:=J1.nw.lt;omega
  have hXB:X2 z.re.next:=by rw [hX2];exact .inr (.inl rfl)
  have hXq:X2 bq:=by rw [hX2];exact .inr (.inr rfl)
  have hfk:stF w (zZ rs) (zZ ts) m D s k=xF w (zZ rs) (zZ ts) k D s:=by unfold stF;rw [if_pos hk]
  have hDl:D*l<=6*12:=Nat.mul_le_mul hD hl12;have hso:StOk (stF w (zZ rs) (zZ ts) m D s k):=by rw [hfk];exact (standI_b hs hn hts hk (by omega)).ok (by omega)
  have hdt:=hs.duty s hsl;have hdo:DtOk (dty w s):=⟨⟨hdt.1,hdt.2.1⟩,⟨hdt.2.2.1,hdt.2.2.2.1⟩⟩;have hAs:=hA s (by omega);have ask:=ask_loop (lo:=lo) (c:=c) (d:=d) h hsh hm6 hk hsl hso hdo (by omega) J2 (rB.le nq.le) rowq hXB hXq hX23 hXlt;have hu:=hts s hsl;have rd:zGF Tryz.prog lo [iV (s:Int),zBT (dty w s)] z (Fm 92 (ov (zAO Z.next (Z.next+1) (Z.next+2) (Z.next+3) (Z.next+4) wd i19 91 [.pointer (some ⟨a1,0,none⟩),.pointer (some ⟨a2,0,none⟩)]) g0)) [25,26] zAZ uM db
    [⟨Unit,.normal,fun _=>[],fun _=>[],fun _ z4=>J Z (wkc w.days p l c q m d w.rest w.run w.hours) (.slice (some a) l rc) (.slice t l tc) X2 (stF w (zZ rs) (zZ ts) m D (s+1)) (zCI w (zZ rs) (zZ ts) D++zER w (zZ rs) (zZ ts) D (s+1)) z4/\Only (fun x=>¬ X2 x) s2 z4⟩]:=by
   refine yVS hlp hl1 hz1 l26 (hkx ▸ lx) cq ask ?_ (by omega) (by omega)
   rintro z3 ⟨J3,O3⟩
   refine take_tail ht (by omega) hsl hso hdo (by omega) J3 (O3.rw' (rB.le nq.le) (fun hh=>hh hXB)) hX24 ?_
   intro z4 J4 O4
   rw [stF_take hk hd hrk,dayB_take (m:=m) hk hd hrk,<- List.append_assoc]
   exact ⟨J4,O3.trans' O4 (fun b _ hb=>.inl hb)⟩
  obtain ⟨z4,⟨J4,O4⟩,rd4⟩:=yQZ rd;refine ⟨z4,rd4,⟨J4.dn.mono (fun b _ _ hb=>by rw [hX2];exact .inl hb), ?_, ?_, ?_⟩,fun y=>Z.next<=y/\y≠τ.next/\y≠τ.next+1,(nq.only).trans' (O4.mono (T:=fun y=>Z.next<=y/\y≠τ.next/\y≠τ.next+1) ?_) (fun b _ hb=>.inl hb),fun y hy=>hy⟩
  ·refine O4.rw' ((s1.rw hz2).le nq.le) (fun hh=>hh ?_);rw [hX2,hX];exact .inl (.inr (.inl rfl))
  ·intro y hy;have hys:y<s2.next:=hXlt y (by rw [hX2,hX];exact .inl (.inr (.inr (.inr (.inr hy)))));rw [O4.get y hys (fun hh=>hh (by rw [hX2,hX];exact .inl (.inr (.inr (.inr (.inr hy)))))),nq.le.get y (by have:=(hms y hy).2.2;omega)];exact hm1 y hy
  ·have:=O4.next;have:=nq.le.next;omega
  ·intro b _ hb;rw [hX2,hX] at hb;refine ⟨?_, ?_, ?_⟩
   ·rcases Nat.lt_or_ge b Z.next with g | g
    ·exact absurd (.inl (.inl g)) hb
    ·exact g
   ·intro e;exact hb (.inl (.inr (.inr (.inl e))))
   ·intro e;exact hb (.inl (.inr (.inr (.inr (.inl e)))))
 ·rintro z ⟨hz,_,hz3,_⟩ h1 h2 h3;refine hQ z ?_ (fun y hy=>by rcases List.mem_cons.1 hy with e | e;exact e ▸ h1;exact hz3 y e) h2 (h3 Z.next (Nat.le_refl _) ?_)
  ·have e:zCI w (zZ rs) (zZ ts) (D+1)=zCI w (zZ rs) (zZ ts) D++zER w (zZ rs) (zZ ts) D l:=by rw [outB_s,hn]
   rw [e,stF_next,hn];refine hz.mono (fun b _ _ h=>?_);rw [hX];rcases List.mem_cons.1 h with e | e
   ·exact .inr (.inr (.inl e))
   ·exact .inr (.inr (.inr (.inr e)))
  ·have:=hJ.new.low Z.next (Nat.le_refl _) (Nat.le_refl _);exact this
end
end Go.Proofs.YtgfiniccfpfplaaGreat
