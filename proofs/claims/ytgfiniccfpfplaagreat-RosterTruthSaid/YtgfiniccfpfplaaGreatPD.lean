
import Derived.Test.YtgfiniccfpfplaaGreatPC
namespace Go.Proofs.YtgfiniccfpfplaaGreat
variable {m r D:Nat} {out:Option (List Int × List Int)} {st:Nat->Std} {c v who:List Int}
def wV:List Int->List Int->Bool
 | a::l,b::m=>if a=b then wV l m else decide (b<a)
 | _,_=>false
def vF (a b:List Int):List Int:=List.zipWith (·+·) a b
theorem zHL:∀ a:List Int,wV a a=false
 | []=>rfl
 | a::l=>by unfold wV;rw [if_pos rfl];exact zHL l
theorem zKF:∀ {a b c:List Int},a.length=b.length->b.length=c.length->wV b a=false->wV c b=false->wV c a=false
 | [],[],[],_,_,_,_=>rfl
 | a::l,b::m,c::o,h1,h2,h3,h4=>by
  unfold wV at h3 h4 ⊢;have ih:=zKF (a:=l) (b:=m) (c:=o) (by simpa using h1) (by simpa using h2);split at h3
  ·rename_i e;subst e;split at h4
   ·rename_i e2;subst e2;rw [if_pos rfl];exact ih h3 h4
   ·rename_i e2;rw [if_neg e2];exact h4
  ·rename_i e;have h3:=of_decide_eq_false h3;split at h4
   ·rename_i e2;subst e2;rw [if_neg e];exact decide_eq_false h3
   ·have h4:=of_decide_eq_false h4;rw [if_neg (by omega)];exact decide_eq_false (by omega)
theorem yAQ:∀ {a b:List Int},a.length=b.length->wV a b=true->wV b a=false
 | [],[],_,h=>by cases h
 | a::l,b::m,hl,h=>by
  unfold wV at h ⊢;by_cases e:a=b
  ·subst e;rw [if_pos rfl] at h ⊢;exact yAQ (by simpa using hl) h
  ·rw [if_neg e] at h;rw [if_neg (Ne.symm e)];have:=of_decide_eq_true h;exact decide_eq_false (by omega)
theorem yAP:∀ {a b c:List Int},a.length=b.length->b.length=c.length->wV (vF a c) (vF b c)=wV a b
 | [],[],[],_,_=>rfl
 | a::l,b::m,c::o,h1,h2=>by
  show (if a+c=b+c then wV (vF l o) (vF m o) else decide (b+c<a+c))=(if a=b then wV l m else decide (b<a));by_cases e:a=b
  ·subst e;rw [if_pos rfl,if_pos rfl,yAP (by simpa using h1) (by simpa using h2)]
  ·rw [if_neg e,if_neg (by omega)];exact decide_eq_decide.2 (by omega)
theorem zLX {a b:List Int} (h:a.length=b.length):(vF a b).length=a.length:=by
 unfold vF;rw [List.length_zipWith];omega
abbrev zIS:=List Int->List Int->Prop
def xQ (m:Nat) (C:zIS):Option (List Int × List Int)->Prop
 | none=>∀ a v,¬ C a v
 | some (a,v)=>C a v/\v.length=m/\∀ b u,C b u->wV u v=false
theorem xQ.iff {C C':zIS} {e:Option (List Int × List Int)} (h:xQ m C e) (k:∀ a v,C a v↔C' a v):xQ m C' e:=by
 cases e with
 | none=>exact fun a v hc=>h a v ((k a v).2 hc)
 | some p=>exact ⟨(k _ _).1 h.1,h.2.1,fun b u hc=>h.2.2 b u ((k b u).2 hc)⟩
def pick (out:Option (List Int × List Int)) (a v:List Int):Option (List Int × List Int) :=
 match out with
 | none=>some (a,v)
 | some (b,u)=>if wV v u then some (a,v) else some (b,u)
theorem xQ.pick {m:Nat} {C:zIS} {G:zIS} {out:Option (List Int × List Int)} {a v:List Int} (h:xQ m C out) (hv:v.length=m) (hg:G a v) (hb:∀ b u,G b u->wV u v=false) (hm:∀ b u,C b u\/G b u->u.length=m):xQ m (fun b u=>C b u\/G b u) (pick out a v):=by
 cases out with
 | none =>
  refine ⟨.inr hg,hv, ?_⟩
  rintro b u (hc | hc)
  ·exact absurd hc (h b u)
  ·exact hb b u hc
 | some p =>
  obtain ⟨b,u⟩:=p;obtain ⟨h1,h2,h3⟩:=h;unfold YtgfiniccfpfplaaGreat.pick;simp only;by_cases hmore:wV v u=true
  ·rw [if_pos hmore];refine ⟨.inr hg,hv, ?_⟩
   rintro c x (hc | hc)
   ·exact zKF (b:=u) (by omega) (by rw [hm c x (.inl hc),h2]) (yAQ (by omega) hmore) (h3 c x hc)
   ·exact hb c x hc
  ·rw [if_neg hmore];refine ⟨.inl h1,h2, ?_⟩
   rintro c x (hc | hc)
   ·exact h3 c x hc
   ·exact zKF (b:=v) (by omega) (by rw [hm c x (.inr hc),hv]) (by simpa using hmore) (hb c x hc)
theorem xQ.none {C G:zIS} (h:xQ m C out) (hg:∀ a v,¬ G a v):xQ m (fun b u=>C b u\/G b u) out :=
 h.iff fun a v=>⟨.inl,fun k=>k.elim id fun k=>absurd k (hg a v)⟩
section
variable (w:Wk) (leaves:Bool) (wf:Nat->List Int->List Int)
def late (i:Nat):Int:=(dtQ w i).hi
def zFI (k i:Nat) (s:Std):Bool:=(List.range 5).all (fun q=>holds w q (drQ w k) (dtQ w i) s) && decide ((take s (dtQ w i) (dtQ w i).hi).used<=w.j)
def upd (st:Nat->Std) (k:Nat) (s:Std):Nat->Std:=fun j=>if j=k then s else st j
def yD (D j:Nat):List Nat:=(List.range j).filter fun i=>decide ((dtQ w i).day=(D:Int))
def zYO (st:Nat->Std) (k i:Nat):Nat->Std:=upd st k (take (st k) (dtQ w i) (dtQ w i).hi)
def zAA:List Nat->List Int->(Nat->Std)->Option (Nat->Std)
 | [],[],st=>some st
 | i::l,r::who,st =>
  if r=-1 then (if leaves then zAA l who st else none)
  else if 0<=r/\r<(w.L.length:Int)/\zFI w r.toNat i (st r.toNat)=true then zAA l who (zYO w st r.toNat i) else none
 | _,_,_=>none
def zQG (D:Nat) (s:Std):Std:=if s.day=(D:Int) then s else ⟨max s.free (((D:Int)+1)*1440-w.rest),0,s.used,s.day⟩
def zCJ (D:Nat) (st:Nat->Std):Nat->Std:=fun k=>if k<w.L.length then zQG w D (st k) else st k
def zCU:List Int:=[0,0,0,0,0,0]
def Ch:Nat->Nat->(Nat->Std)->zIS
 | 0,D,st,who,v=>who=[]/\v=zCU
 | r+1,D,st,who,v=>∃ a b st' u,zAA w leaves (yD w D w.N.length) a st=some st'/\Ch r (D+1) (zCJ w D st') b u/\who=a++b/\v=vF u (wf D a)
def zUI (r D:Nat) (l:List Nat) (who:List Int) (st:Nat->Std):zIS:=fun c v =>
 ∃ a b st' u,zAA w leaves l a st=some st'/\Ch w leaves wf r (D+1) (zCJ w D st') b u/\c=who++a++b/\v=vF u (wf D (who++a))
end
section
variable {w:Wk} {leaves:Bool} {wf:Nat->List Int->List Int}
theorem Ch.len (hw:∀ D a,(wf D a).length=6):∀ {r D:Nat} {st:Nat->Std} {c v:List Int},Ch w leaves wf r D st c v->v.length=6
 | 0,_,_,_,_,h=>by rw [h.2];rfl
 | r+1,D,st,c,v,h=>by
  obtain ⟨a,b,st',u,_,h2,_,h4⟩:=h;have:=Ch.len hw h2;rw [h4,zLX (by rw [this,hw]),this]
theorem zUI.len (hw:∀ D a,(wf D a).length=6) {r D:Nat} {l:List Nat} {who:List Int} {st:Nat->Std} {c v:List Int} (h:zUI w leaves wf r D l who st c v):v.length=6:=by
 obtain ⟨a,b,st',u,_,h2,_,h4⟩:=h;have:=h2.len hw;rw [h4,zLX (by rw [this,hw]),this]
theorem xYM:Ch w leaves wf (r+1) D st c v↔zUI w leaves wf r D (yD w D w.N.length) [] st c v:=by
 unfold Ch zUI;simp only [List.nil_append]
theorem yDM:zUI w leaves wf r D [] who st c v↔∃ b u,Ch w leaves wf r (D+1) (zCJ w D st) b u/\c=who++b/\v=vF u (wf D who):=by
 constructor
 ·rintro ⟨a,b,st',u,h1,h2,h3,h4⟩;cases a with
  | nil =>
   have h1:some st=some st':=h1;cases h1
   exact ⟨b,u,h2,by simpa using h3,by simpa using h4⟩
  | cons x a=>cases h1
 ·rintro ⟨b,u,h2,h3,h4⟩;exact ⟨[],b,st,u,rfl,h2,by simpa using h3,by simpa using h4⟩
theorem xKX {i:Nat} {l:List Nat}:zUI w leaves wf r D (i::l) who st c v↔(leaves=true/\zUI w leaves wf r D l (who++[-1]) st c v)\/∃ k,k<w.L.length/\zFI w k i (st k)=true/\zUI w leaves wf r D l (who++[(k:Int)]) (zYO w st k i) c v:=by
 constructor
 ·rintro ⟨a,b,st',u,h1,h2,h3,h4⟩;cases a with
  | nil=>cases h1
  | cons x a =>
   unfold zAA at h1;split at h1
   ·rename_i e;subst e;split at h1
    ·rename_i hl;exact .inl ⟨hl,a,b,st',u,h1,h2,by rw [h3];simp,by rw [h4];simp⟩
    ·cases h1
   ·split at h1
    ·rename_i e h;obtain ⟨g1,g2,g3⟩:=h;refine .inr ⟨x.toNat,by omega,g3,a,b,st',u,h1,h2, ?_, ?_⟩
     ·rw [h3,Int.toNat_of_nonneg g1];simp
     ·rw [h4,Int.toNat_of_nonneg g1];simp
    ·cases h1
 ·rintro (⟨hl,a,b,st',u,h1,h2,h3,h4⟩ | ⟨k,hk,hm,a,b,st',u,h1,h2,h3,h4⟩)
  ·refine ⟨-1::a,b,st',u, ?_,h2,by rw [h3];simp,by rw [h4];simp⟩
   unfold zAA;rw [if_pos rfl,if_pos hl];exact h1
  ·refine ⟨(k:Int)::a,b,st',u, ?_,h2,by rw [h3];simp,by rw [h4];simp⟩
   unfold zAA;rw [if_neg (by omega),Int.toNat_natCast,if_pos ⟨by omega,by omega,hm⟩];exact h1
theorem xIO {C:zIS} {rest:Option (List Int × List Int)} (hw:∀ D a,(wf D a).length=6) (hr:xQ 6 (Ch w leaves wf r (D+1) (zCJ w D st)) rest) (ho:xQ 6 C out) (hC:∀ a v,C a v->v.length=6) :
  xQ 6 (fun c v=>C c v\/zUI w leaves wf r D [] who st c v) (match rest with | none=>out | some (b,u)=>pick out (who++b) (vF u (wf D who))):=by
 cases rest with
 | none =>
  refine ho.none ?_
  intro a v h;obtain ⟨b,u,h2,_⟩:=yDM.1 h;exact hr b u h2
 | some p =>
  obtain ⟨b,u⟩:=p;obtain ⟨h1,h2,h3⟩:=hr;refine ho.pick (by rw [zLX (by rw [h2,hw]),h2]) (yDM.2 ⟨b,u,h1,rfl,rfl⟩) ?_ ?_
  ·intro c x h;obtain ⟨b',u',h4,_,h6⟩:=yDM.1 h;rw [h6,yAP (by rw [h4.len hw,h2]) (by rw [h2,hw])];exact h3 b' u' h4
  ·rintro c x (h | h)
   ·exact hC c x h
   ·exact h.len hw
end
end Go.Proofs.YtgfiniccfpfplaaGreat
