
import Derived.Test.YtgfiniccfpfplaaGreatPC
namespace Go.Proofs.YtgfiniccfpfplaaGreat
set_option linter.unusedVariables false
set_option linter.unusedSimpArgs false
def xS:List Int->List Int->Bool
 | a::l,b::m=>if a=b then xS l m else decide (b<a)
 | _,_=>false
def vO (a b:List Int):List Int:=List.zipWith (·+·) a b
theorem zCY:∀ a:List Int,xS a a=false
 | []=>rfl
 | a::l=>by unfold xS;rw [if_pos rfl];exact zCY l
theorem zKC:∀ {a b c:List Int},a.length=b.length->b.length=c.length->xS b a=false->xS c b=false->xS c a=false
 | [],[],[],_,_,_,_=>rfl
 | a::l,b::m,c::o,h1,h2,h3,h4=>by
  unfold xS at h3 h4 ⊢;have ih:=zKC (a:=l) (b:=m) (c:=o) (by simpa using h1) (by simpa using h2);split at h3
  ·rename_i e;subst e;split at h4
   ·rename_i e2;subst e2;rw [if_pos rfl];exact ih h3 h4
   ·rename_i e2;rw [if_neg e2];exact h4
  ·rename_i e;have h3:=of_decide_eq_false h3;split at h4
   ·rename_i e2;subst e2;rw [if_neg e];exact decide_eq_false h3
   ·have h4:=of_decide_eq_false h4;rw [if_neg (by omega)];exact decide_eq_false (by omega)
theorem zZS:∀ {a b:List Int},a.length=b.length->xS a b=true->xS b a=false
 | [],[],_,h=>by cases h
 | a::l,b::m,hl,h=>by
  unfold xS at h ⊢;by_cases e:a=b
  ·subst e;rw [if_pos rfl] at h ⊢;exact zZS (by simpa using hl) h
  ·rw [if_neg e] at h;rw [if_neg (Ne.symm e)];have:=of_decide_eq_true h;exact decide_eq_false (by omega)
theorem zZR:∀ {a b c:List Int},a.length=b.length->b.length=c.length->xS (vO a c) (vO b c)=xS a b
 | [],[],[],_,_=>rfl
 | a::l,b::m,c::o,h1,h2=>by
  show (if a+c=b+c then xS (vO l o) (vO m o) else decide (b+c<a+c))=(if a=b then xS l m else decide (b<a));by_cases e:a=b
  ·subst e;rw [if_pos rfl,if_pos rfl,zZR (by simpa using h1) (by simpa using h2)]
  ·rw [if_neg e,if_neg (by omega)];exact decide_eq_decide.2 (by omega)
theorem zLK {a b:List Int} (h:a.length=b.length):(vO a b).length=a.length:=by
 unfold vO;rw [List.length_zipWith];omega
abbrev zIJ:=List Int->List Int->Prop
def xT (m:Nat) (C:zIJ):Option (List Int × List Int)->Prop
 | none=>∀ a v,¬ C a v
 | some (a,v)=>C a v/\v.length=m/\∀ b u,C b u->xS u v=false
theorem xT.iff {m:Nat} {C C':zIJ} {e:Option (List Int × List Int)} (h:xT m C e) (k:∀ a v,C a v↔C' a v):xT m C' e:=by
 cases e with
 | none=>exact fun a v hc=>h a v ((k a v).2 hc)
 | some p=>exact ⟨(k _ _).1 h.1,h.2.1,fun b u hc=>h.2.2 b u ((k b u).2 hc)⟩
def pick (out:Option (List Int × List Int)) (a v:List Int):Option (List Int × List Int) :=
 match out with
 | none=>some (a,v)
 | some (b,u)=>if xS v u then some (a,v) else some (b,u)
theorem xT.pick {m:Nat} {C:zIJ} {G:zIJ} {out:Option (List Int × List Int)} {a v:List Int} (h:xT m C out) (hv:v.length=m) (hg:G a v) (hb:∀ b u,G b u->xS u v=false) (hm:∀ b u,C b u\/G b u->u.length=m):xT m (fun b u=>C b u\/G b u) (pick out a v):=by
 cases out with
 | none =>
  refine ⟨.inr hg,hv, ?_⟩
  rintro b u (hc | hc)
  ·exact absurd hc (h b u)
  ·exact hb b u hc
 | some p =>
  obtain ⟨b,u⟩:=p;obtain ⟨h1,h2,h3⟩:=h;unfold YtgfiniccfpfplaaGreat.pick;simp only;by_cases hmore:xS v u=true
  ·rw [if_pos hmore];refine ⟨.inr hg,hv, ?_⟩
   rintro c x (hc | hc)
   ·exact zKC (b:=u) (by omega) (by rw [hm c x (.inl hc),h2]) (zZS (by omega) hmore) (h3 c x hc)
   ·exact hb c x hc
  ·rw [if_neg hmore];refine ⟨.inl h1,h2, ?_⟩
   rintro c x (hc | hc)
   ·exact h3 c x hc
   ·exact zKC (b:=v) (by omega) (by rw [hm c x (.inr hc),hv]) (by simpa using hmore) (hb c x hc)
theorem xT.none {m:Nat} {C G:zIJ} {out:Option (List Int × List Int)} (h:xT m C out) (hg:∀ a v,¬ G a v):xT m (fun b u=>C b u\/G b u) out :=
 h.iff fun a v=>⟨.inl,fun k=>k.elim id fun k=>absurd k (hg a v)⟩
section
variable (w:Wk) (leaves:Bool) (wf:Nat->List Int->List Int)
def late (i:Nat):Int:=(dty w i).hi
def zFE (k i:Nat) (s:Std):Bool:=(List.range 5).all (fun q=>holds w q (drv w k) (dty w i) s) && decide ((take s (dty w i) (dty w i).hi).used<=w.hours)
def upd (st:Nat->Std) (k:Nat) (s:Std):Nat->Std:=fun j=>if j=k then s else st j
def yB (D j:Nat):List Nat:=(List.range j).filter fun i=>decide ((dty w i).day=(D:Int))
def zXM (st:Nat->Std) (k i:Nat):Nat->Std:=upd st k (take (st k) (dty w i) (dty w i).hi)
def uT:List Nat->List Int->(Nat->Std)->Option (Nat->Std)
 | [],[],st=>some st
 | i::l,r::who,st =>
  if r=-1 then (if leaves then uT l who st else none)
  else if 0<=r/\r<(w.drivers.length:Int)/\zFE w r.toNat i (st r.toNat)=true then uT l who (zXM w st r.toNat i) else none
 | _,_,_=>none
def zPP (D:Nat) (s:Std):Std:=if s.day=(D:Int) then s else ⟨max s.free (((D:Int)+1)*1440-w.rest),0,s.used,s.day⟩
def zCG (D:Nat) (st:Nat->Std):Nat->Std:=fun k=>if k<w.drivers.length then zPP w D (st k) else st k
def zCS:List Int:=[0,0,0,0,0,0]
def Ch:Nat->Nat->(Nat->Std)->zIJ
 | 0,D,st,who,v=>who=[]/\v=zCS
 | r+1,D,st,who,v=>∃ a b st' u,uT w leaves (yB w D w.duties.length) a st=some st'/\Ch r (D+1) (zCG w D st') b u/\who=a++b/\v=vO u (wf D a)
def zTM (r D:Nat) (l:List Nat) (who:List Int) (st:Nat->Std):zIJ:=fun c v =>
 ∃ a b st' u,uT w leaves l a st=some st'/\Ch w leaves wf r (D+1) (zCG w D st') b u/\c=who++a++b/\v=vO u (wf D (who++a))
end
section
variable {w:Wk} {leaves:Bool} {wf:Nat->List Int->List Int}
theorem Ch.len (hw:∀ D a,(wf D a).length=6):∀ {r D:Nat} {st:Nat->Std} {c v:List Int},Ch w leaves wf r D st c v->v.length=6
 | 0,_,_,_,_,h=>by rw [h.2];rfl
 | r+1,D,st,c,v,h=>by
  obtain ⟨a,b,st',u,_,h2,_,h4⟩:=h;have:=Ch.len hw h2;rw [h4,zLK (by rw [this,hw]),this]
theorem zTM.len (hw:∀ D a,(wf D a).length=6) {r D:Nat} {l:List Nat} {who:List Int} {st:Nat->Std} {c v:List Int} (h:zTM w leaves wf r D l who st c v):v.length=6:=by
 obtain ⟨a,b,st',u,_,h2,_,h4⟩:=h;have:=h2.len hw;rw [h4,zLK (by rw [this,hw]),this]
theorem xWG {r D:Nat} {st:Nat->Std} {c v:List Int}:Ch w leaves wf (r+1) D st c v↔zTM w leaves wf r D (yB w D w.duties.length) [] st c v:=by
 unfold Ch zTM;simp only [List.nil_append]
theorem yCB {r D:Nat} {who:List Int} {st:Nat->Std} {c v:List Int}:zTM w leaves wf r D [] who st c v↔∃ b u,Ch w leaves wf r (D+1) (zCG w D st) b u/\c=who++b/\v=vO u (wf D who):=by
 constructor
 ·rintro ⟨a,b,st',u,h1,h2,h3,h4⟩;cases a with
  | nil =>
   have h1:some st=some st':=h1;cases h1
   exact ⟨b,u,h2,by simpa using h3,by simpa using h4⟩
  | cons x a=>cases h1
 ·rintro ⟨b,u,h2,h3,h4⟩;exact ⟨[],b,st,u,rfl,h2,by simpa using h3,by simpa using h4⟩
theorem xIS {r D i:Nat} {l:List Nat} {who:List Int} {st:Nat->Std} {c v:List Int}:zTM w leaves wf r D (i::l) who st c v↔(leaves=true/\zTM w leaves wf r D l (who++[-1]) st c v)\/∃ k,k<w.drivers.length/\zFE w k i (st k)=true/\zTM w leaves wf r D l (who++[(k:Int)]) (zXM w st k i) c v:=by
 constructor
 ·rintro ⟨a,b,st',u,h1,h2,h3,h4⟩;cases a with
  | nil=>cases h1
  | cons x a =>
   unfold uT at h1;split at h1
   ·rename_i e;subst e;split at h1
    ·rename_i hl;exact .inl ⟨hl,a,b,st',u,h1,h2,by rw [h3];simp,by rw [h4];simp⟩
    ·cases h1
   ·split at h1
    ·rename_i e h;obtain ⟨g1,g2,g3⟩:=h;refine .inr ⟨x.toNat,by omega,g3,a,b,st',u,h1,h2, ?_, ?_⟩
     ·rw [h3,Int.toNat_of_nonneg g1];simp
     ·rw [h4,Int.toNat_of_nonneg g1];simp
    ·cases h1
 ·rintro (⟨hl,a,b,st',u,h1,h2,h3,h4⟩ | ⟨k,hk,hm,a,b,st',u,h1,h2,h3,h4⟩)
  ·refine ⟨-1::a,b,st',u, ?_,h2,by rw [h3];simp,by rw [h4];simp⟩
   unfold uT;rw [if_pos rfl,if_pos hl];exact h1
  ·refine ⟨(k:Int)::a,b,st',u, ?_,h2,by rw [h3];simp,by rw [h4];simp⟩
   unfold uT;rw [if_neg (by omega),Int.toNat_natCast,if_pos ⟨by omega,by omega,hm⟩];exact h1
theorem xHC {r D:Nat} {who:List Int} {st:Nat->Std} {C:zIJ} {out rest:Option (List Int × List Int)} (hw:∀ D a,(wf D a).length=6) (hr:xT 6 (Ch w leaves wf r (D+1) (zCG w D st)) rest) (ho:xT 6 C out) (hC:∀ a v,C a v->v.length=6) :
  xT 6 (fun c v=>C c v\/zTM w leaves wf r D [] who st c v) (match rest with | none=>out | some (b,u)=>pick out (who++b) (vO u (wf D who))):=by
 cases rest with
 | none =>
  refine ho.none ?_
  intro a v h;obtain ⟨b,u,h2,_⟩:=yCB.1 h;exact hr b u h2
 | some p =>
  obtain ⟨b,u⟩:=p;obtain ⟨h1,h2,h3⟩:=hr;refine ho.pick (by rw [zLK (by rw [h2,hw]),h2]) (yCB.2 ⟨b,u,h1,rfl,rfl⟩) ?_ ?_
  ·intro c x h;obtain ⟨b',u',h4,_,h6⟩:=yCB.1 h;rw [h6,zZR (by rw [h4.len hw,h2]) (by rw [h2,hw])];exact h3 b' u' h4
  ·rintro c x (h | h)
   ·exact hC c x h
   ·exact h.len hw
end
end Go.Proofs.YtgfiniccfpfplaaGreat
