
import Derived.Test.YtgfiniccfpfplaaGreatPC
namespace Go.Proofs.YtgfiniccfpfplaaGreat
def vH:List Int->List Int->Bool
 | a::l,b::m=>if a=b then vH l m else decide (b<a)
 | _,_=>false
def uB (a b:List Int):List Int:=List.zipWith (·+·) a b
theorem zGY:∀ a:List Int,vH a a=false
 | []=>rfl
 | a::l=>by unfold vH;rw [if_pos rfl];exact zGY l
theorem zJU:∀ {a b c:List Int},a.length=b.length->b.length=c.length->vH b a=false->vH c b=false->vH c a=false
 | [],[],[],_,_,_,_=>rfl
 | a::l,b::m,c::o,h1,h2,h3,h4=>by
  unfold vH at h3 h4 ⊢;have ih:=zJU (a:=l) (b:=m) (c:=o) (by simpa using h1) (by simpa using h2);split at h3
  ·rename_i e;subst e;split at h4
   ·rename_i e2;subst e2;rw [if_pos rfl];exact ih h3 h4
   ·rename_i e2;rw [if_neg e2];exact h4
  ·rename_i e;have h3:=of_decide_eq_false h3;split at h4
   ·rename_i e2;subst e2;rw [if_neg e];exact decide_eq_false h3
   ·have h4:=of_decide_eq_false h4;rw [if_neg (by omega)];exact decide_eq_false (by omega)
theorem zZK:∀ {a b:List Int},a.length=b.length->vH a b=true->vH b a=false
 | [],[],_,h=>by cases h
 | a::l,b::m,hl,h=>by
  unfold vH at h ⊢;by_cases e:a=b
  ·subst e;rw [if_pos rfl] at h ⊢;exact zZK (by simpa using hl) h
  ·rw [if_neg e] at h;rw [if_neg (Ne.symm e)];have:=of_decide_eq_true h;exact decide_eq_false (by omega)
theorem zZJ:∀ {a b c:List Int},a.length=b.length->b.length=c.length->vH (uB a c) (uB b c)=vH a b
 | [],[],[],_,_=>rfl
 | a::l,b::m,c::o,h1,h2=>by
  show (if a+c=b+c then vH (uB l o) (uB m o) else decide (b+c<a+c))=(if a=b then vH l m else decide (b<a));by_cases e:a=b
  ·subst e;rw [if_pos rfl,if_pos rfl,zZJ (by simpa using h1) (by simpa using h2)]
  ·rw [if_neg e,if_neg (by omega)];exact decide_eq_decide.2 (by omega)
theorem zLF {a b:List Int} (h:a.length=b.length):(uB a b).length=a.length:=by
 unfold uB;rw [List.length_zipWith];omega
abbrev zIJ:=List Int->List Int->Prop
def xU (m:Nat) (C:zIJ):Option (List Int × List Int)->Prop
 | none=>∀ a v,¬ C a v
 | some (a,v)=>C a v/\v.length=m/\∀ b u,C b u->vH u v=false
theorem xU.iff {m:Nat} {C C':zIJ} {e:Option (List Int × List Int)} (h:xU m C e) (k:∀ a v,C a v↔C' a v):xU m C' e:=by
 cases e with
 | none=>exact fun a v hc=>h a v ((k a v).2 hc)
 | some p=>exact ⟨(k _ _).1 h.1,h.2.1,fun b u hc=>h.2.2 b u ((k b u).2 hc)⟩
def pick (out:Option (List Int × List Int)) (a v:List Int):Option (List Int × List Int) :=
 match out with
 | none=>some (a,v)
 | some (b,u)=>if vH v u then some (a,v) else some (b,u)
theorem xU.pick {m:Nat} {C:zIJ} {G:zIJ} {out:Option (List Int × List Int)} {a v:List Int} (h:xU m C out) (hv:v.length=m) (hg:G a v) (hb:∀ b u,G b u->vH u v=false) (hm:∀ b u,C b u\/G b u->u.length=m):xU m (fun b u=>C b u\/G b u) (pick out a v):=by
 cases out with
 | none =>
  refine ⟨.inr hg,hv, ?_⟩
  rintro b u (hc | hc)
  ·exact absurd hc (h b u)
  ·exact hb b u hc
 | some p =>
  obtain ⟨b,u⟩:=p;obtain ⟨h1,h2,h3⟩:=h;unfold YtgfiniccfpfplaaGreat.pick;simp only;by_cases hmore:vH v u=true
  ·rw [if_pos hmore];refine ⟨.inr hg,hv, ?_⟩
   rintro c x (hc | hc)
   ·exact zJU (b:=u) (by omega) (by rw [hm c x (.inl hc),h2]) (zZK (by omega) hmore) (h3 c x hc)
   ·exact hb c x hc
  ·rw [if_neg hmore];refine ⟨.inl h1,h2, ?_⟩
   rintro c x (hc | hc)
   ·exact h3 c x hc
   ·exact zJU (b:=v) (by omega) (by rw [hm c x (.inr hc),hv]) (by simpa using hmore) (hb c x hc)
theorem xU.none {m:Nat} {C G:zIJ} {out:Option (List Int × List Int)} (h:xU m C out) (hg:∀ a v,¬ G a v):xU m (fun b u=>C b u\/G b u) out :=
 h.iff fun a v=>⟨.inl,fun k=>k.elim id fun k=>absurd k (hg a v)⟩
section
variable (w:Wk) (leaves:Bool) (wf:Nat->List Int->List Int)
def late (i:Nat):Int:=(dtQ w i).hi
def zEW (k i:Nat) (s:Std):Bool:=(List.range 5).all (fun q=>holds w q (drQ w k) (dtQ w i) s) && decide ((take s (dtQ w i) (dtQ w i).hi).used<=w.hours)
def upd (st:Nat->Std) (k:Nat) (s:Std):Nat->Std:=fun j=>if j=k then s else st j
def yF (D j:Nat):List Nat:=(List.range j).filter fun i=>decide ((dtQ w i).day=(D:Int))
def zXD (st:Nat->Std) (k i:Nat):Nat->Std:=upd st k (take (st k) (dtQ w i) (dtQ w i).hi)
def zAH:List Nat->List Int->(Nat->Std)->Option (Nat->Std)
 | [],[],st=>some st
 | i::l,r::who,st =>
  if r=-1 then (if leaves then zAH l who st else none)
  else if 0<=r/\r<(w.drivers.length:Int)/\zEW w r.toNat i (st r.toNat)=true then zAH l who (zXD w st r.toNat i) else none
 | _,_,_=>none
def zPK (D:Nat) (s:Std):Std:=if s.day=(D:Int) then s else ⟨max s.free (((D:Int)+1)*1440-w.rest),0,s.used,s.day⟩
def zCG (D:Nat) (st:Nat->Std):Nat->Std:=fun k=>if k<w.drivers.length then zPK w D (st k) else st k
def zDK:List Int:=[0,0,0,0,0,0]
def Ch:Nat->Nat->(Nat->Std)->zIJ
 | 0,D,st,who,v=>who=[]/\v=zDK
 | r+1,D,st,who,v=>∃ a b st' u,zAH w leaves (yF w D w.duties.length) a st=some st'/\Ch r (D+1) (zCG w D st') b u/\who=a++b/\v=uB u (wf D a)
def zTN (r D:Nat) (l:List Nat) (who:List Int) (st:Nat->Std):zIJ:=fun c v =>
 ∃ a b st' u,zAH w leaves l a st=some st'/\Ch w leaves wf r (D+1) (zCG w D st') b u/\c=who++a++b/\v=uB u (wf D (who++a))
end
section
variable {w:Wk} {leaves:Bool} {wf:Nat->List Int->List Int}
theorem Ch.len (hw:∀ D a,(wf D a).length=6):∀ {r D:Nat} {st:Nat->Std} {c v:List Int},Ch w leaves wf r D st c v->v.length=6
 | 0,_,_,_,_,h=>by rw [h.2];rfl
 | r+1,D,st,c,v,h=>by
  obtain ⟨a,b,st',u,_,h2,_,h4⟩:=h;have:=Ch.len hw h2;rw [h4,zLF (by rw [this,hw]),this]
theorem zTN.len (hw:∀ D a,(wf D a).length=6) {r D:Nat} {l:List Nat} {who:List Int} {st:Nat->Std} {c v:List Int} (h:zTN w leaves wf r D l who st c v):v.length=6:=by
 obtain ⟨a,b,st',u,_,h2,_,h4⟩:=h;have:=h2.len hw;rw [h4,zLF (by rw [this,hw]),this]
theorem xVK {r D:Nat} {st:Nat->Std} {c v:List Int}:Ch w leaves wf (r+1) D st c v↔zTN w leaves wf r D (yF w D w.duties.length) [] st c v:=by
 unfold Ch zTN;simp only [List.nil_append]
theorem yBW {r D:Nat} {who:List Int} {st:Nat->Std} {c v:List Int}:zTN w leaves wf r D [] who st c v↔∃ b u,Ch w leaves wf r (D+1) (zCG w D st) b u/\c=who++b/\v=uB u (wf D who):=by
 constructor
 ·rintro ⟨a,b,st',u,h1,h2,h3,h4⟩;cases a with
  | nil =>
   have h1:some st=some st':=h1;cases h1
   exact ⟨b,u,h2,by simpa using h3,by simpa using h4⟩
  | cons x a=>cases h1
 ·rintro ⟨b,u,h2,h3,h4⟩;exact ⟨[],b,st,u,rfl,h2,by simpa using h3,by simpa using h4⟩
theorem xIB {r D i:Nat} {l:List Nat} {who:List Int} {st:Nat->Std} {c v:List Int}:zTN w leaves wf r D (i::l) who st c v↔(leaves=true/\zTN w leaves wf r D l (who++[-1]) st c v)\/∃ k,k<w.drivers.length/\zEW w k i (st k)=true/\zTN w leaves wf r D l (who++[(k:Int)]) (zXD w st k i) c v:=by
 constructor
 ·rintro ⟨a,b,st',u,h1,h2,h3,h4⟩;cases a with
  | nil=>cases h1
  | cons x a =>
   unfold zAH at h1;split at h1
   ·rename_i e;subst e;split at h1
    ·rename_i hl;exact .inl ⟨hl,a,b,st',u,h1,h2,by rw [h3];simp,by rw [h4];simp⟩
    ·cases h1
   ·split at h1
    ·rename_i e h;obtain ⟨g1,g2,g3⟩:=h;refine .inr ⟨x.toNat,by omega,g3,a,b,st',u,h1,h2, ?_, ?_⟩
     ·rw [h3,Int.toNat_of_nonneg g1];simp
     ·rw [h4,Int.toNat_of_nonneg g1];simp
    ·cases h1
 ·rintro (⟨hl,a,b,st',u,h1,h2,h3,h4⟩ | ⟨k,hk,hm,a,b,st',u,h1,h2,h3,h4⟩)
  ·refine ⟨-1::a,b,st',u, ?_,h2,by rw [h3];simp,by rw [h4];simp⟩
   unfold zAH;rw [if_pos rfl,if_pos hl];exact h1
  ·refine ⟨(k:Int)::a,b,st',u, ?_,h2,by rw [h3];simp,by rw [h4];simp⟩
   unfold zAH;rw [if_neg (by omega),Int.toNat_natCast,if_pos ⟨by omega,by omega,hm⟩];exact h1
theorem xGC {r D:Nat} {who:List Int} {st:Nat->Std} {C:zIJ} {out rest:Option (List Int × List Int)} (hw:∀ D a,(wf D a).length=6) (hr:xU 6 (Ch w leaves wf r (D+1) (zCG w D st)) rest) (ho:xU 6 C out) (hC:∀ a v,C a v->v.length=6) :
  xU 6 (fun c v=>C c v\/zTN w leaves wf r D [] who st c v) (match rest with | none=>out | some (b,u)=>pick out (who++b) (uB u (wf D who))):=by
 cases rest with
 | none =>
  refine ho.none ?_
  intro a v h;obtain ⟨b,u,h2,_⟩:=yBW.1 h;exact hr b u h2
 | some p =>
  obtain ⟨b,u⟩:=p;obtain ⟨h1,h2,h3⟩:=hr;refine ho.pick (by rw [zLF (by rw [h2,hw]),h2]) (yBW.2 ⟨b,u,h1,rfl,rfl⟩) ?_ ?_
  ·intro c x h;obtain ⟨b',u',h4,_,h6⟩:=yBW.1 h;rw [h6,zZJ (by rw [h4.len hw,h2]) (by rw [h2,hw])];exact h3 b' u' h4
  ·rintro c x (h | h)
   ·exact hC c x h
   ·exact h.len hw
end
end Go.Proofs.YtgfiniccfpfplaaGreat
