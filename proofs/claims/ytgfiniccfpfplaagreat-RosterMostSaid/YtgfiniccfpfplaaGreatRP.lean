import Derived.Test.YtgfiniccfpfplaaGreatSG
import Derived.Test.YtgfiniccfpfplaaGreatRA
import Derived.Test.YtgfiniccfpfplaaGreatRN

namespace Go.Proofs.YtgfiniccfpfplaaGreat
open Go Go.Lay
open Tryz renaming prog -> Pg
set_option linter.unusedVariables false
set_option linter.unusedSimpArgs false
set_option maxRecDepth 20000
def zRL (Z:St) (p:Option Addr) (l:Nat) (rs:List (List Int)):Prop:=∃ vs:List Value,SlV Pg Z 26 1 p l vs/\rs.length=l/\∀ (i:Nat) (r:List Int),rs[i]?=some r->∃ q c,vs[i]?=some (Value.slice q r.length c)/\yG Z q r.length r
section
variable {Z:St}
theorem zRL.le {Z':St} {p:Option Addr} {l:Nat} {rs:List (List Int)} (h:zRL Z p l rs) (k:Le Z Z'):zRL Z' p l rs:=by
 obtain ⟨vs,h1,h2,h3⟩:=h;exact ⟨vs,h1.le k,h2,fun i r hi=>by obtain ⟨q,c,g1,g2⟩:=h3 i r hi;exact ⟨q,c,g1,g2.le k⟩⟩
theorem zRL.len {p:Option Addr} {l:Nat} {rs:List (List Int)} (h:zRL Z p l rs):rs.length=l:=h.choose_spec.2.1
theorem zRL.row {p:Option Addr} {l i:Nat} {rs:List (List Int)} (h:zRL Z p l rs) (hi:i<l):∃ a,p=some a/\∃ r q c,rs[i]?=some r/\(∀ τ,Le Z τ->zB Pg τ 26 (zM a (Int.toNat (i:Int)*1))=some (.slice q r.length c))/\yG Z q r.length r:=by
 obtain ⟨vs,h1,h2,h3⟩:=h;obtain ⟨a,rfl,_⟩:=h1.some hi;obtain ⟨q,c,g1,g2⟩:=h3 i rs[i] (by simp);exact ⟨a,rfl,rs[i],q,c,by simp,fun τ hτ=>(h1.le hτ).at rfl g1,g2⟩
theorem zWB (zs:List Value):∀ N,(yW zs N).length=N*zs.length
 | 0=>by simp [yW]
 | N+1=>by simp [yW,zWB zs N,Nat.add_mul];omega
theorem zTC {zs:List Value} (h:zs.all cellB=true):∀ N,(yW zs N).all cellB=true
 | 0=>by simp [yW]
 | N+1=>by simp only [yW,List.all_append,zTC h N,h,Bool.and_self]
theorem flat_all {α:Type} {f:α->Value} (hf:∀ x,(f x).cells.toList.all cellB=true) (r:List α):(vA (r.map f)).all cellB=true:=by
 induction r with
 | nil=>rfl
 | cons x r ih=>rw [List.map_cons,show f x::r.map f=[f x]++r.map f from rfl,zFN,List.all_append,ih,Bool.and_true];simpa [vA] using hf x

theorem growI_c {N:Nat} (hN:N<=1073741824):∃ p c Z',zD Pg 120 [.slice none 0 0,iV (N:Int)] Z (.slice p 0 c) Z'/\New Z Z'/\Buf Z' Z.next 1 N p 0 c []:=by
 have k0:xL Pg (evL [.slice none 0 0]) Z.re (.call { callee:=.builtin .cap,args:=⟨wU 1⟩,argTypes:=⟨[26]⟩ })=some (iV 0):=by kernel_rfl
 suffices hmain:zO Pg 120 [.slice none 0 0,iV (N:Int)] Z.re fun v s=>New Z.re s/\∃ p c,v=.slice p 0 c/\Buf s Z.next 1 N p 0 c [] by
  obtain ⟨v,Z',h1,h2,p,c,rfl,h3⟩:=zO.new hmain (by rintro v s s' ⟨p,c,rfl,h⟩ hl;exact ⟨p,c,rfl,h.le hl⟩) (by
   rintro v s hr ⟨p,c,rfl,h⟩;refine ⟨p,c,rfl, ?_⟩
   rcases h with ⟨rfl,e1,_,e2,_⟩ | ⟨b,bc,rfl,_⟩
   ·exact .inl ⟨rfl,e1,rfl,e2,rfl⟩
   ·exact Bool.noConfusion (show false=true from hr))
  exact ⟨p,c,Z',h1,h2,h3⟩
 rcases Nat.eq_zero_or_pos N with h0 | h0
 ·subst h0;exact growI_rb k0 ⟨New.refl _,none,0,rfl,Buf.nil⟩
 have hz:∃ ei z,Pg.info? 3=some ei/\ei.zero=some z/\ei.bytes<=4096/\zV RD z=true/\Nat.beq z.cells.toList.length 1=true/\z.cells.toList=[iV 0]:=⟨_,_,rfl,rfl,by decide,rfl,rfl,rfl⟩;obtain ⟨ei,z,hei,hz,hby,hrz,hzl,hzz⟩:=hz;have hzc:(yW z.cells.toList N).length=N*1:=by rw [hzz];exact zWB _ N
 have hcb:(yW z.cells.toList N).all cellB=true:=by rw [hzz];exact zTC rfl N
 have g:=grow_new (P:=Pg) (Z:=Z.re) (st:=26) (xt:=3) (e:=3) (n:=1) (N:=N) (k:=.i64) (q:=.i64) (z:=z) (by kernel_rfl) (by kernel_rfl) hei hz hby hrz hzl (by omega) hN h0 hzc hcb;have o:Own (Z.re.row (yW z.cells.toList N) 1) Z.next (yW z.cells.toList N) 1:=zC _ _ _;have s3:vQ Pg Z.re 26 (.slice none 0 0) none (some (iV 0)) none=some (.slice none 0 0):=by kernel_rfl
 obtain ⟨c6,s6,e6⟩:=yQR (P:=Pg) (t:=26) (e:=3) (N:=N) (c:=N+vY) (q:=.i64) (by kernel_rfl) (by kernel_rfl) o h0 (zAN N) (zGE N);exact growI_ra k0 k0 s3 (by simpa using g) (by simpa using s6) ⟨New.row _ _ _,some ⟨Z.next,0,none⟩,c6,rfl,.inr ⟨Z.next,_,rfl,e6,o,hzc,Nat.zero_le _,by simp,Nat.le_refl _,h0⟩⟩
theorem concI_c {p:Option Addr} {l c:Nat} {rs:List (List Int)} (h:zRL Z p l rs) (hl:l<=1073741824) (hN:rs.flatten.length<=1073741824) :
  ∃ p' c' Z',zD Pg 104 [.slice p l c] Z (.slice p' rs.flatten.length c') Z'/\New Z Z'/\yG Z' p' rs.flatten.length rs.flatten/\∀ b,AtP p' b->Z.next<=b:=by
 have hlen:=h.len;have h0:=h.le (le0 Z);have hsum:∀ s,((rs.take s).flatten).length<=rs.flatten.length:=fun s=>by
  have e:rs.flatten.length=((rs.take s).flatten).length+((rs.drop s).flatten).length:=by rw [<- List.length_append,<- List.flatten_append,List.take_append_drop]
  omega
 refine zO.newSl (concI_ra (P0:=fun n τ=>τ=Z.re/\n=(rs.flatten.length:Int)) (yOM (Inv:=fun k n i τ=>∃ s:Nat,i=s/\s+k=l/\τ=Z.re/\n=(((rs.take s).flatten).length:Int)) ?_ l 0 0 Z.re ⟨0,rfl,by omega,rfl,by simp⟩) ?_)
 ·rintro k n i τ ⟨s,rfl,hk,rfl,rfl⟩;by_cases hs:s<l;rotate_left
  ·exact concI_s1b ⟨rfl,by rw [List.take_of_length_le (by omega)]⟩ (by omega)
  obtain ⟨a,rfl,r,q,d,hr,ld,hq⟩:=h0.row hs;have e1:((rs.take (s+1)).flatten).length=((rs.take s).flatten).length+r.length:=by rw [wP hr];simp
  have:=hsum (s+1);exact concI_s1a (ld _ (Le.refl _)) ⟨k-1,by omega,s+1,by omega,by omega,rfl,by rw [e1];omega⟩ (by omega) (by omega) (by omega) (by omega) (by omega)
 ·rintro n τ ⟨rfl,rfl⟩;obtain ⟨p1,c1,Z1,k1,n1,b1⟩:=growI_c (Z:=Z.re) (N:=rs.flatten.length) hN;refine yOK k1 (P2:=fun p' l' c' τ=>l'=rs.flatten.length/\New Z.re τ/\Buf τ Z.next 1 rs.flatten.length p' l' c' (vA (rs.flatten.map yB))) (yOL (Inv:=fun k p' l' c' i τ=>∃ s:Nat,i=s/\s+k=l/\l'=((rs.take s).flatten).length/\New Z.re τ/\Buf τ Z.next 1 rs.flatten.length p' l' c' (vA (((rs.take s).flatten).map yB))) ?_ l p1 0 c1 0 Z1 ⟨0,rfl,by omega,rfl,n1,by simpa [vA] using b1⟩) ?_
  ·rintro k p' l' c' i τ ⟨s,rfl,hk,rfl,hNw,hb⟩;by_cases hs:s<l;rotate_left
   ·rw [List.take_of_length_le (by omega)] at hb ⊢;exact concI_s2b ⟨rfl,hNw,hb⟩ (by omega)
   obtain ⟨a,rfl,r,q,d,hr,ld,hq⟩:=(h0.le hNw.le).row hs;have e1:((rs.take (s+1)).flatten).length=((rs.take s).flatten).length+r.length:=by rw [wP hr];simp
   have:=hsum (s+1);obtain ⟨τ2,g1,g2,g3,g4,g5⟩:=hb.push (P:=Pg) (st:=26) (xt:=26) (e:=3) (m:=r.length) (d:=d) (q:=q) (xs:=vA (r.map yB)) (zRI (by kernel_rfl)) hq.1 (by omega) hN (flat_all (fun _=>rfl) r);have N2:New Z.re τ2:=hNw.of_only g3 (fun b hbb=>(hb.bd b hbb).1);refine concI_s2a (ld _ (Le.refl _)) g1 ⟨k-1,by omega,s+1,by omega,by omega,by rw [e1],N2, ?_⟩ (by omega);rw [wP hr,List.flatten_append,List.map_append,zFN];simpa using g2
  ·rintro p' l' c' τ ⟨rfl,hNw,hb⟩;exact yOJ ⟨hNw,p',c',rfl,hb.slv (List.length_map _) (by intro v hv;obtain ⟨x,_,rfl⟩:=List.mem_map.1 hv;exact zAX x),fun b hbb=>(hb.bd b hbb).1⟩
end
end Go.Proofs.YtgfiniccfpfplaaGreat

namespace Go.Proofs.YtgfiniccfpfplaaGreat
open Go Go.Lay
set_option linter.unusedVariables false
set_option linter.unusedSimpArgs false
set_option maxRecDepth 20000
section
variable {Z τ:St} {w:Wk} {p q t:Option Addr} {l m c d tc:Nat} {rv:Value} {X:Nat->Prop} {f:Nat->Std} {A:List Bch} {ts:List Int}
theorem take_tail {lo B3 bq k i:Nat} {wl:List Value} {qc qd:Nat} (ht:yG Z t l ts) (hk:k<6) (hi:i<l) (hs:StOk (f k)) (hx:DtOk (dty w i)) (hu:-1000000<=zZ ts i/\zZ ts i<=1000000)
  (hJ:J Z wl rv (.slice t l tc) X f A τ) (hB:Row τ ⟨B3,0,none⟩ (zF (dty w i).day (dty w i).on (dty w i).lo (dty w i).hi (dty w i).route)) (hX4:¬ X (Z.next+4)) {Qn:St->Prop}
  (hQ:∀ z,J Z wl rv (.slice t l tc) X (upd f k (take (f k) (dty w i) (zZ ts i))) A z->Only (fun x=>¬ X x) τ z->Qn z) :
  zLK lo Z.next (Z.next+2) (Z.next+3) (Z.next+4) (i:Int) B3 (k:Int) (some ⟨bq,0,none⟩) qc qd τ Qn:=by
 have L:Le Z τ:=(le0 Z).trans hJ.new.le;obtain ⟨a,rfl,x,hxi,l4⟩:=vF (SlV.le ht L) hi;have gx:zZ ts i=x:=yM hxi;rw [gx] at hu hQ;have l3:zB Tryz.prog τ 26 ⟨Z.next+2,0,none⟩=some (.slice (some a) l tc):=hJ.tr.ld yS rfl;have lb:zB Tryz.prog τ 85 ⟨B3,0,none⟩=some (zBT (dty w i)):=hB.ldN (k:=0) zOU vX (ds:=zF (dty w i).day (dty w i).on (dty w i).lo (dty w i).hi (dty w i).route) rfl rfl (by simp);obtain ⟨g1,g2,g3⟩:=hJ.take hk (take (f k) (dty w i) x) hX4;exact yIQ (yGD hJ.nw hk) lb l3 l4 (yGC hs hx hu) g1 (hQ _ g2 g3) (by omega) (by omega)
end
end Go.Proofs.YtgfiniccfpfplaaGreat

namespace Go.Proofs.YtgfiniccfpfplaaGreat
open Go Go.Lay
open Tryz renaming prog -> Pg
set_option linter.unusedVariables false
set_option linter.unusedSimpArgs false
set_option maxRecDepth 20000
structure Same (n0:Nat) (z z':St):Prop where
 next:z.next<=z'.next
 get:∀ y,y<z.next->(∀ tm ps a b st pend db,yI z.heap y≠some (.loop tm ps a b st pend db))->yI z'.heap y=yI z.heap y
 old:∀ y,y<n0->yI z'.heap y=yI z.heap y
theorem Same.own {n0:Nat} {z z':St} {b n:Nat} {cs:List Value} (h:Same n0 z z') (k:Own z b cs n):Own z' b cs n:=k.at_ (h.get b k.lt (fun _ _ _ _ _ _ _ e=>by rw [k.get] at e;cases e)) h.next
theorem Same.of_le {n0:Nat} {z z':St} (h:Le z z') (hn:n0<=z.next):Same n0 z z':=⟨h.next,fun y hy _=>h.get y hy,fun y hy=>h.get y (by omega)⟩
theorem Same.rw {n0:Nat} {z z':St} {a:Addr} {cs:List Value} (h:Same n0 z z') (k:Row z a cs):Row z' a cs:=by
 refine ⟨?_,Nat.lt_of_lt_of_le k.lt h.next⟩
 have:=k.rd;unfold yO at this ⊢;rw [h.get a.block k.lt (fun tm ps x y st pend db e=>by rw [e] at this;simp at this)];exact this
theorem Same.slv {n0:Nat} {z z':St} {t n len:Nat} {p:Option Addr} {vs:List Value} (h:Same n0 z z') (k:SlV Pg z t n p len vs):SlV Pg z' t n p len vs:=by
 refine ⟨⟨k.1.1, ?_⟩,k.2⟩
 cases p with
 | none=>exact k.1.2
 | some a=>exact h.rw k.1.2
theorem Same.gr {n0 m0 t n len c:Nat} {p:Option Addr} {vs:List Value} {z z':St} (h:Same n0 z z') (k:Gr Pg z m0 t n p len c vs):Gr Pg z' m0 t n p len c vs:=by
 have key:∀ {v:Value} {cs:List Value},App z m0 n v len cs->App z' m0 n v len cs:=by
  intro v cs ka;cases ka with
  | nil=>exact .nil
  | more g1 g2 g3 g4 g5 g6 g7=>exact .more (by rw [h.get _ g4 (fun _ _ _ _ _ _ _ e=>by rw [g1] at e;cases e)];exact g1) g2 g3 (Nat.lt_of_lt_of_le g4 h.next) g5 g6 g7
 exact ⟨key k.app,k.len_eq,k.el⟩
abbrev dtyL (x:Dty):List Value:=zF x.day x.on x.lo x.hi x.route
abbrev yGA (z:St) (x:Dty):St:=(z.row (zF 0 0 0 0 0) 5).own z.next (dtyL x) 5
theorem zVH (z:St) (x:Dty):Le z (yGA z x):=(Le.row z (zF 0 0 0 0 0) 5).own (Nat.le_refl _)
theorem on1_run {Z:St} {w:Wk} {p q:Option Addr} {l m c d lo a1 a2 D:Nat} (r1:Row Z ⟨a1,0,none⟩ (wkc w.days p l c q m d w.rest w.run w.hours)) (hl:l<=100000) {K:Nat->St->Prop} (h0:K 0 Z)
  (hT:∀ s z,K s z->Row z ⟨a2,0,none⟩ [yB D]/\yAR z 85 p l w.duties) (hJ:∀ s z,s<l->K s z->if (dty w s).day=(D:Int) then ∃ z',yXD Pg lo [iV (s:Int),zBT (dty w s)] (yGA z (dty w s)) (.bool true) z'/\K (s+1) z' else K (s+1) (yGA z (dty w s))) :
  zO Pg 91 [.func (.yield lo) ⟨[]⟩ ⟨[]⟩,.pointer (some ⟨a1,0,none⟩),.pointer (some ⟨a2,0,none⟩)] Z fun v s=>v=.tuple ⟨[]⟩/\K l s:=by
 have hn:w.duties.length=l:=by have:=(hT 0 Z h0).2.2.1;simpa using this
 refine on1_ra (Pr:=fun _=>False) (P0:=fun τ=>K l τ) (r1.load1 zBB (k:=1) rfl)
  (on1_loop1 (Inv:=fun k i τ=>∃ s:Nat,i=s/\s+k=l/\K s τ) (Qr:=fun _=>False) (Q0:=fun τ=>K l τ) ?_ l 0 Z ⟨0,rfl,by omega,h0⟩) (fun _ h=>h.elim) (fun τ h=>on1_t1x0a ⟨rfl,h⟩)
 rintro k i τ ⟨s,rfl,hk,hj⟩;by_cases hs:s<l;rotate_left
 ·have:s=l:=by omega
  subst this;exact on1_s1d hj (by omega)
 obtain ⟨ra,hd⟩:=hT s τ hj;obtain ⟨a,rfl,x,hx,lx⟩:=vF hd hs;have ex:x=dty w s:=by
  unfold dty;rw [List.getD_eq_getElem?_getD,hx];rfl
 subst ex;have l2:zB Pg (yGA τ (dty w s)) 3 ⟨a2,0,none⟩=some (iV (D:Int)):=(ra.le (zVH τ (dty w s))).ld zS rfl;have h:=hJ s τ hs hj;by_cases ht:(dty w s).day=(D:Int)
 ·rw [if_pos ht] at h;obtain ⟨τ',h1,h2⟩:=h;exact on1_s1a lx l2 h1 ⟨k-1,by omega,s+1,by omega,by omega,h2⟩ (by omega) (by omega) ht (by omega)
 ·rw [if_neg ht] at h;exact on1_s1c lx l2 ⟨k-1,by omega,s+1,by omega,by omega,h⟩ (by omega) (by omega) ht (by omega)
theorem zUG {zf:St->Dty->St} (hzf:∀ (z:St) (x:Dty),Le z (zf z x)) (hzl:∀ (z:St) (x:Dty),z.next<=(zf z.re x).low) {w:Wk} {pp q:Option Addr} {l m c d D:Nat} {gx:Operand} {ps:Array Tmp} {a b:Code} {n:Nat} {l0:List (Nat × Value)} {Qn:St->Prop} {τ:St} {a1 a2 n0:Nat} {J:Nat->St->Prop}
  (hg:∀ g0,yF (Fm n (ov l0 g0)) gx=.func (.func 91) ⟨[]⟩ ⟨[.pointer (some ⟨a1,0,none⟩),.pointer (some ⟨a2,0,none⟩)]⟩) (r1:Row τ ⟨a1,0,none⟩ (wkc w.days pp l c q m d w.rest w.run w.hours)) (hl:l<=100000) (hn0:n0<=τ.next)
  (hT:∀ s z,J s z->Row z ⟨a2,0,none⟩ [yB D]/\yAR z 85 pp l w.duties) (h0:J 0 τ) (hJ:∀ s z z',J s z->Same n0 z z'->J s z') (hskip:∀ s z,s<l->(dty w s).day≠(D:Int)->J s z->J (s+1) z)
  (hR:∀ s z z1 lo g0 db,s<l->(dty w s).day=(D:Int)->lo=τ.next+1->yI z.heap lo=some (.loop (Fm n (ov l0 g0)) ps.toList a b .ready none db)->z1=(zf z.re (dty w s)).put lo (.loop (Fm n (ov l0 g0)) ps.toList a b .busy none db)->J s z->τ.next+2<=z.next ->
   ∃ z4,zGF Pg lo [iV (s:Int),zBT (dty w s)] z (Fm n (ov l0 g0)) ps.toList a b db [⟨Unit,.normal,fun _=>[],fun _=>[],fun _ z=>z=z4⟩]/\J (s+1) z4/\∃ S,Only S z1 z4/\∀ y,S y->n0<=y/\y≠τ.next/\y≠τ.next+1)
  (hQ:∀ z,J l z->yI z.heap τ.next=some .defd->τ.next<z.next->(∀ m,m<=n0->m<=τ.low->m<=z.low)->Qn z):zSY Pg (zX Pg) gx ps a b n l0 [(.normal,Qn)] τ:=by
 refine rangeG_of (fs:=[.pointer (some ⟨a1,0,none⟩),.pointer (some ⟨a2,0,none⟩)]) (f:=91) hg (fun g0=>?_);obtain ⟨τa,hτa⟩:∃ τa,τa=(τ.add .defd).add (.loop (Fm n (ov l0 g0)) ps.toList a b .ready none τ.next):=⟨_,rfl⟩;have hN:New τ τa:=by rw [hτa];exact (New.add _ _).trans (New.add _ _)
 have nxa:τa.next=τ.next+2:=by rw [hτa];rfl
 have Ld:yI τa.heap τ.next=some .defd:=by rw [hτa,St.add_get,if_neg (by simp),St.add_get,if_pos rfl]
 have Ll:yI τa.heap (τ.next+1)=some (.loop (Fm n (ov l0 g0)) ps.toList a b .ready none τ.next):=by rw [hτa,St.add_get,if_pos (by simp)]
 have sm_re:∀ z:St,Same n0 z z.re:=fun z=>⟨Nat.le_refl _,fun _ _ _=>rfl,fun _ _=>rfl⟩
 let K:Nat->St->Prop:=fun s z=>J s z/\yI z.heap τ.next=some .defd/\yI z.heap (τ.next+1)=some (.loop (Fm n (ov l0 g0)) ps.toList a b .ready none τ.next)/\τa.next<=z.next/\n0<=z.low/\((J s τa.re/\New τa.re z)\/z.low<=τ.next+1)
 have J0:J 0 τa.re:=hJ _ _ _ (hJ _ _ _ h0 (Same.of_le hN.le hn0)) (sm_re τa);have hrun:zO Pg 91 [.func (.yield (τ.next+1)) ⟨[]⟩ ⟨[]⟩,.pointer (some ⟨a1,0,none⟩),.pointer (some ⟨a2,0,none⟩)] τa.re fun v s=>v=.tuple ⟨[]⟩/\K l s:=by
  refine on1_run (w:=w) (p:=pp) (D:=D) ((r1.le hN.le).le (le0 _)) hl (K:=K) ⟨J0,Ld,Ll,Nat.le_refl _,by show n0<=τa.next;omega,.inl ⟨J0,New.refl _⟩⟩ (fun s z h=>hT s z h.1) ?_
  rintro s z hs ⟨j1,j2,j3,j4,j5,j6⟩;have zl:=zVH z (dty w s);have zn:New z (yGA z (dty w s)):=(New.row z (zF 0 0 0 0 0) 5).own (Nat.le_refl _);have kz:K s (yGA z (dty w s)):=⟨hJ _ _ _ j1 (Same.of_le zl (by omega)),by rw [zl.get _ (by omega)];exact j2,by rw [zl.get _ (by omega)];exact j3,by have:=zl.next;omega,zn.low _ j5 (by omega),j6.imp (fun h=>⟨h.1,h.2.trans zn⟩) (fun h=>Nat.le_trans (Nat.min_le_left _ _) h)⟩;by_cases ht:(dty w s).day=(D:Int);rotate_left
  ·rw [if_neg ht];obtain ⟨k1,k2,k3,k4,k5,k6⟩:=kz;exact ⟨hskip s _ hs ht k1,k2,k3,k4,k5,k6.imp (fun h=>⟨hskip s _ hs ht h.1,h.2⟩) id⟩
  rw [if_pos ht];obtain ⟨j1,j2,j3,j4,j5,j6⟩:=kz;obtain ⟨z,hz⟩:∃ z',z'=yGA z (dty w s):=⟨_,rfl⟩;rw [<- hz] at j1 j2 j3 j4 j5 j6 ⊢;obtain ⟨z1,hz1⟩:∃ z1,z1=(zf z.re (dty w s)).put (τ.next+1) (.loop (Fm n (ov l0 g0)) ps.toList a b .busy none τ.next):=⟨_,rfl⟩;have zl1:=hzf z.re (dty w s);have s0:Same n0 z (zf z.re (dty w s)):=⟨zl1.next,fun y hy _=>zl1.get y hy,fun y hy=>zl1.get y (by show y<z.next;omega)⟩;have j3':yI (zf z.re (dty w s)).heap (τ.next+1)=some (.loop (Fm n (ov l0 g0)) ps.toList a b .ready none τ.next):=by rw [zl1.get _ (by show _<z.next;omega)];exact j3
  have s1:Same n0 z z1:=⟨by rw [hz1];exact zl1.next,fun y hy hne=>by
   rw [hz1,St.put_get,if_neg (fun e=>by subst e;exact hne _ _ _ _ _ _ _ j3)];exact zl1.get y hy,fun y hy=>by rw [hz1,St.put_get,if_neg (by omega)];exact zl1.get y (by show y<z.next;omega)⟩
  have nx1:z.next<=z1.next:=by rw [hz1];exact zl1.next
  have L1:yI z1.heap (τ.next+1)=some (.loop (Fm n (ov l0 g0)) ps.toList a b .busy none τ.next):=by rw [hz1,St.put_get,if_pos rfl]
  have D1:yI z1.heap τ.next=some .defd:=by rw [hz1,St.put_get,if_neg (by omega),zl1.get _ (by show _<z.next;omega)];exact j2
  obtain ⟨z4,hr,k1,S,k2,k3⟩:=hR s z z1 (τ.next+1) g0 τ.next hs ht rfl j3 hz1 j1 (by omega);have L4:yI z4.heap (τ.next+1)=some (.loop (Fm n (ov l0 g0)) ps.toList a b .busy none τ.next):=by
   rw [k2.get _ (by omega) (fun h=>(k3 _ h).2.2 rfl)];exact L1
  have D4:yI z4.heap τ.next=some .defd:=by
   rw [k2.get _ (by omega) (fun h=>(k3 _ h).2.1 rfl)];exact D1
  have n4:=k2.next;obtain ⟨e,z',⟨al,hal,rfl,t,hq⟩,hc⟩:=hr;simp only [In,or_false] at hal;subst hal;have hq:z'=z4:=hq;subst hq;have hcy:=hc (.inl rfl) (by omega) L4 (by omega);have hlow:n0<=z'.low:=k2.low n0 (by have:=hzl z (dty w s);rw [hz1];show n0<=min (zf z.re (dty w s)).low (τ.next+1);omega) (by omega) (fun y _ hy=>(k3 y hy).1);refine ⟨_,hcy,hJ _ _ _ k1 ⟨Nat.le_refl _,fun y hy hne=>?_,fun y hy=>?_⟩, ?_, ?_, ?_, ?_,.inr ?_⟩
  ·show yI (z'.put _ _).heap y=_;rw [St.put_get,if_neg (fun e=>by subst e;exact hne _ _ _ _ _ _ _ L4)]
  ·show yI (z'.put _ _).heap y=_;rw [St.put_get,if_neg (by omega)]
  ·show yI (z'.put _ _).heap _=_;rw [St.put_get,if_neg (by omega)];exact D4
  ·show yI (z'.put _ _).heap _=_;rw [St.put_get,if_pos rfl];rfl
  ·show τa.next<=z'.next;omega
  ·show n0<=min _ _;omega
  ·show min _ _<=_;omega
 obtain ⟨v,s,h1,rfl,j1,j2,j3,j4,j5,j6⟩:=hrun;have fin:∀ u z:St,J l u->yI u.heap τ.next=some .defd->yI u.heap (τ.next+1)=some (.loop (Fm n (ov l0 g0)) ps.toList a b .ready none τ.next)->τa.next<=u.next->z.heap=u.heap->z.next=u.next->(∀ m,m<=n0->m<=τ.low->m<=z.low)->yPQ [(.normal,Qn)] (exitC none) (z.put (τ.next+1) (.loop (Fm n (ov l0 g0)) ps.toList a b .exhausted none τ.next)):=by
  intro u z i1 i2 i3 i4 e1 e2 e3;refine .inl ⟨rfl,hQ _ (hJ _ _ _ i1 ⟨by show u.next<=z.next;omega,fun y hy hne=>?_,fun y hy=>?_⟩) ?_ (by show τ.next<z.next;omega) (fun m h1 h2=>?_)⟩
  ·rw [St.put_get,if_neg (fun e=>by subst e;exact hne _ _ _ _ _ _ _ i3),e1]
  ·rw [St.put_get,if_neg (by omega),e1]
  ·rw [St.put_get,if_neg (by omega),e1];exact i2
  ·have:=e3 m h1 h2;show m<=min _ _;omega
 by_cases hlw:s.low<=τ.next+1
 ·refine ⟨_,⟨s.heap,s.next,min τa.low s.low⟩,.ready,none,by rw [<- hτa];exact mut_c h1 j4 (by omega),j3,.inl ⟨rfl,rfl⟩,fin s _ j1 j2 j3 j4 rfl rfl (fun m h1 h2=>?_)⟩
  have:=hN.low m h2 (by omega);show m<=min _ _;omega
 ·rcases j6 with ⟨g1,g2⟩ | e;rotate_left
  ·exact absurd e hlw
  refine ⟨_,τa,.ready,none,by rw [<- hτa];exact zRU h1 (by omega) rfl,Ll,.inl ⟨rfl,rfl⟩,fin τa.re τa g1 Ld Ll (Nat.le_refl _) rfl rfl (fun m h1 h2=>hN.low m h2 (by omega))⟩
theorem yUU {w:Wk} {pp q:Option Addr} {l m c d D:Nat} {gx:Operand} {ps:Array Tmp} {a b:Code} {n:Nat} {l0:List (Nat × Value)} {Qn:St->Prop} {τ:St} {a1 a2 n0:Nat} {J:Nat->St->Prop}
  (hg:∀ g0,yF (Fm n (ov l0 g0)) gx=.func (.func 91) ⟨[]⟩ ⟨[.pointer (some ⟨a1,0,none⟩),.pointer (some ⟨a2,0,none⟩)]⟩) (r1:Row τ ⟨a1,0,none⟩ (wkc w.days pp l c q m d w.rest w.run w.hours)) (hl:l<=100000) (hn0:n0<=τ.next)
  (hT:∀ s z,J s z->Row z ⟨a2,0,none⟩ [yB D]/\yAR z 85 pp l w.duties) (h0:J 0 τ) (hJ:∀ s z z',J s z->Same n0 z z'->J s z') (hskip:∀ s z,s<l->(dty w s).day≠(D:Int)->J s z->J (s+1) z)
  (hR:∀ s z z1 lo g0 db,s<l->(dty w s).day=(D:Int)->lo=τ.next+1->yI z.heap lo=some (.loop (Fm n (ov l0 g0)) ps.toList a b .ready none db)->z1=(yGA z.re (dty w s)).put lo (.loop (Fm n (ov l0 g0)) ps.toList a b .busy none db)->J s z->τ.next+2<=z.next ->
   ∃ z4,zGF Pg lo [iV (s:Int),zBT (dty w s)] z (Fm n (ov l0 g0)) ps.toList a b db [⟨Unit,.normal,fun _=>[],fun _=>[],fun _ z=>z=z4⟩]/\J (s+1) z4/\∃ S,Only S z1 z4/\∀ y,S y->n0<=y/\y≠τ.next/\y≠τ.next+1)
  (hQ:∀ z,J l z->yI z.heap τ.next=some .defd->τ.next<z.next->(∀ m,m<=n0->m<=τ.low->m<=z.low)->Qn z):zSY Pg (zX Pg) gx ps a b n l0 [(.normal,Qn)] τ :=
 zUG zVH (fun z x=>by show z.next<=min z.next z.next;omega) hg r1 hl hn0 hT h0 hJ hskip hR hQ
end Go.Proofs.YtgfiniccfpfplaaGreat
