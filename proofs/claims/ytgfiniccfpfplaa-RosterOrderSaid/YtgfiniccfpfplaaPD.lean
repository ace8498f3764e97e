
import Derived.Test.YtgfiniccfpfplaaPC
namespace Go.Proofs.Ytgfiniccfpfplaa
def wK:List Int→List Int→Bool
 | a::l,b::m=>if a=b then wK l m else decide (b<a)
 | _,_=>false
def vM (a b:List Int):List Int:=List.zipWith (·+·) a b
theorem zGU:∀ a:List Int,wK a a=false
 | []=>rfl
 | a::l=>by unfold wK;rw [if_pos rfl];exact zGU l
theorem zJJ:∀ {a b c:List Int},a.length=b.length→b.length=c.length→wK b a=false→wK c b=false→wK c a=false
 | [],[],[],_,_,_,_=>rfl
 | a::l,b::m,c::o,h1,h2,h3,h4=>by
  unfold wK at h3 h4 ⊢;have ih:=zJJ (a:=l) (b:=m) (c:=o) (by simpa using h1) (by simpa using h2);split at h3
  ·rename_i e;subst e;split at h4
   ·rename_i e2;subst e2;rw [if_pos rfl];exact ih h3 h4
   ·rename_i e2;rw [if_neg e2];exact h4
  ·rename_i e;have h3:=of_decide_eq_false h3;split at h4
   ·rename_i e2;subst e2;rw [if_neg e];exact decide_eq_false h3
   ·have h4:=of_decide_eq_false h4;rw [if_neg (by omega)];exact decide_eq_false (by omega)
theorem zYA:∀ {a b:List Int},a.length=b.length→wK a b=false→wK b a=false→a=b
 | [],[],_,_,_=>rfl
 | a::l,b::m,h,h1,h2=>by
  unfold wK at h1 h2;by_cases e:a=b
  ·subst e;rw [if_pos rfl] at h1 h2;rw [zYA (by simpa using h) h1 h2]
  ·rw [if_neg e] at h1;rw [if_neg (Ne.symm e)] at h2;have:=of_decide_eq_false h1;have:=of_decide_eq_false h2;omega
theorem zXZ:∀ {a b:List Int},a.length=b.length→wK a b=true→wK b a=false
 | [],[],_,h=>by cases h
 | a::l,b::m,hl,h=>by
  unfold wK at h ⊢;by_cases e:a=b
  ·subst e;rw [if_pos rfl] at h ⊢;exact zXZ (by simpa using hl) h
  ·rw [if_neg e] at h;rw [if_neg (Ne.symm e)];have:=of_decide_eq_true h;exact decide_eq_false (by omega)
theorem zXY:∀ {a b c:List Int},a.length=b.length→b.length=c.length→wK (vM a c) (vM b c)=wK a b
 | [],[],[],_,_=>rfl
 | a::l,b::m,c::o,h1,h2=>by
  show (if a+c=b+c then wK (vM l o) (vM m o) else decide (b+c<a+c))=(if a=b then wK l m else decide (b<a));by_cases e:a=b
  ·subst e;rw [if_pos rfl,if_pos rfl,zXY (by simpa using h1) (by simpa using h2)]
  ·rw [if_neg e,if_neg (by omega)];exact decide_eq_decide.2 (by omega)
theorem zKV {a b:List Int} (h:a.length=b.length):(vM a b).length=a.length:=by
 unfold vM;rw [List.length_zipWith];omega
abbrev zIB:=List Int→List Int→Prop
def xU (m:Nat) (C:zIB):Option (List Int × List Int)→Prop
 | none=>∀ a v,¬ C a v
 | some (a,v)=>C a v∧v.length=m∧∀ b u,C b u→wK u v=false
theorem xU.iff {m:Nat} {C C':zIB} {e:Option (List Int × List Int)} (h:xU m C e) (k:∀ a v,C a v↔C' a v):xU m C' e:=by
 cases e with
 | none=>exact fun a v hc=>h a v ((k a v).2 hc)
 | some p=>exact ⟨(k _ _).1 h.1,h.2.1,fun b u hc=>h.2.2 b u ((k b u).2 hc)⟩
def pick (out:Option (List Int × List Int)) (a v:List Int):Option (List Int × List Int) :=
 match out with
 | none=>some (a,v)
 | some (b,u)=>if wK v u then some (a,v) else some (b,u)
theorem xU.pick {m:Nat} {C:zIB} {G:zIB} {out:Option (List Int × List Int)} {a v:List Int} (h:xU m C out) (hv:v.length=m) (hg:G a v) (hb:∀ b u,G b u→wK u v=false) (hm:∀ b u,C b u∨G b u→u.length=m):xU m (fun b u=>C b u∨G b u) (pick out a v):=by
 cases out with
 | none =>
  refine ⟨.inr hg,hv, ?_⟩
  rintro b u (hc | hc)
  ·exact absurd hc (h b u)
  ·exact hb b u hc
 | some p =>
  obtain ⟨b,u⟩:=p;obtain ⟨h1,h2,h3⟩:=h;unfold Ytgfiniccfpfplaa.pick;simp only;by_cases hmore:wK v u=true
  ·rw [if_pos hmore];refine ⟨.inr hg,hv, ?_⟩
   rintro c x (hc | hc)
   ·exact zJJ (b:=u) (by omega) (by rw [hm c x (.inl hc),h2]) (zXZ (by omega) hmore) (h3 c x hc)
   ·exact hb c x hc
  ·rw [if_neg hmore];refine ⟨.inl h1,h2, ?_⟩
   rintro c x (hc | hc)
   ·exact h3 c x hc
   ·exact zJJ (b:=v) (by omega) (by rw [hm c x (.inr hc),hv]) (by simpa using hmore) (hb c x hc)
theorem xU.none {m:Nat} {C G:zIB} {out:Option (List Int × List Int)} (h:xU m C out) (hg:∀ a v,¬ G a v):xU m (fun b u=>C b u∨G b u) out :=
 h.iff fun a v=>⟨.inl,fun k=>k.elim id fun k=>absurd k (hg a v)⟩
section
variable (w:Wk) (leaves:Bool) (wf:Nat→List Int→List Int)
def late (i:Nat):Int:=(dty w i).hi
def zEU (k i:Nat) (s:Std):Bool:=(List.range 5).all (fun q=>holds w q (drQ w k) (dty w i) s) && decide ((take s (dty w i) (dty w i).hi).used≤w.j)
def upd (st:Nat→Std) (k:Nat) (s:Std):Nat→Std:=fun j=>if j=k then s else st j
def yC (D j:Nat):List Nat:=(List.range j).filter fun i=>decide ((dty w i).day=(D:Int))
def zWB (st:Nat→Std) (k i:Nat):Nat→Std:=upd st k (take (st k) (dty w i) (dty w i).hi)
def zAC:List Nat→List Int→(Nat→Std)→Option (Nat→Std)
 | [],[],st=>some st
 | i::l,r::who,st =>
  if r=-1 then (if leaves then zAC l who st else none)
  else if 0≤r∧r<(w.L.length:Int)∧zEU w r.toNat i (st r.toNat)=true then zAC l who (zWB w st r.toNat i) else none
 | _,_,_=>none
def zOQ (D:Nat) (s:Std):Std:=if s.day=(D:Int) then s else ⟨max s.free (((D:Int)+1)*1440-w.rest),0,s.used,s.day⟩
def zCM (D:Nat) (st:Nat→Std):Nat→Std:=fun k=>if k<w.L.length then zOQ w D (st k) else st k
def zCV:List Int:=[0,0,0,0,0,0]
def Ch:Nat→Nat→(Nat→Std)→zIB
 | 0,D,st,who,v=>who=[]∧v=zCV
 | r+1,D,st,who,v=>∃ a b st' u,zAC w leaves (yC w D w.N.length) a st=some st'∧Ch r (D+1) (zCM w D st') b u∧who=a++b∧v=vM u (wf D a)
def zSM (r D:Nat) (l:List Nat) (who:List Int) (st:Nat→Std):zIB:=fun c v =>
 ∃ a b st' u,zAC w leaves l a st=some st'∧Ch w leaves wf r (D+1) (zCM w D st') b u∧c=who++a++b∧v=vM u (wf D (who++a))
end
section
variable {w:Wk} {leaves:Bool} {wf:Nat→List Int→List Int}
theorem Ch.len (hw:∀ D a,(wf D a).length=6):∀ {r D:Nat} {st:Nat→Std} {c v:List Int},Ch w leaves wf r D st c v→v.length=6
 | 0,_,_,_,_,h=>by rw [h.2];rfl
 | r+1,D,st,c,v,h=>by
  obtain ⟨a,b,st',u,_,h2,_,h4⟩:=h;have:=Ch.len hw h2;rw [h4,zKV (by rw [this,hw]),this]
theorem zSM.len (hw:∀ D a,(wf D a).length=6) {r D:Nat} {l:List Nat} {who:List Int} {st:Nat→Std} {c v:List Int} (h:zSM w leaves wf r D l who st c v):v.length=6:=by
 obtain ⟨a,b,st',u,_,h2,_,h4⟩:=h;have:=h2.len hw;rw [h4,zKV (by rw [this,hw]),this]
theorem xTA {r D:Nat} {st:Nat→Std} {c v:List Int}:Ch w leaves wf (r+1) D st c v↔zSM w leaves wf r D (yC w D w.N.length) [] st c v:=by
 unfold Ch zSM;simp only [List.nil_append]
theorem yAL {r D:Nat} {who:List Int} {st:Nat→Std} {c v:List Int}:zSM w leaves wf r D [] who st c v↔∃ b u,Ch w leaves wf r (D+1) (zCM w D st) b u∧c=who++b∧v=vM u (wf D who):=by
 constructor
 ·rintro ⟨a,b,st',u,h1,h2,h3,h4⟩;cases a with
  | nil =>
   have h1:some st=some st':=h1;cases h1
   exact ⟨b,u,h2,by simpa using h3,by simpa using h4⟩
  | cons x a=>cases h1
 ·rintro ⟨b,u,h2,h3,h4⟩;exact ⟨[],b,st,u,rfl,h2,by simpa using h3,by simpa using h4⟩
theorem xFL {r D i:Nat} {l:List Nat} {who:List Int} {st:Nat→Std} {c v:List Int}:zSM w leaves wf r D (i::l) who st c v↔(leaves=true∧zSM w leaves wf r D l (who++[-1]) st c v)∨∃ k,k<w.L.length∧zEU w k i (st k)=true∧zSM w leaves wf r D l (who++[(k:Int)]) (zWB w st k i) c v:=by
 constructor
 ·rintro ⟨a,b,st',u,h1,h2,h3,h4⟩;cases a with
  | nil=>cases h1
  | cons x a =>
   unfold zAC at h1;split at h1
   ·rename_i e;subst e;split at h1
    ·rename_i hl;exact .inl ⟨hl,a,b,st',u,h1,h2,by rw [h3];simp,by rw [h4];simp⟩
    ·cases h1
   ·split at h1
    ·rename_i e h;obtain ⟨g1,g2,g3⟩:=h;refine .inr ⟨x.toNat,by omega,g3,a,b,st',u,h1,h2, ?_, ?_⟩
     ·rw [h3,Int.toNat_of_nonneg g1];simp
     ·rw [h4,Int.toNat_of_nonneg g1];simp
    ·cases h1
 ·rintro (⟨hl,a,b,st',u,h1,h2,h3,h4⟩ | ⟨k,hk,hm,a,b,st',u,h1,h2,h3,h4⟩)
  ·refine ⟨-1::a,b,st',u, ?_,h2,by rw [h3];simp,by rw [h4];simp⟩
   unfold zAC;rw [if_pos rfl,if_pos hl];exact h1
  ·refine ⟨(k:Int)::a,b,st',u, ?_,h2,by rw [h3];simp,by rw [h4];simp⟩
   unfold zAC;rw [if_neg (by omega),Int.toNat_natCast,if_pos ⟨by omega,by omega,hm⟩];exact h1
theorem xDN {r D:Nat} {who:List Int} {st:Nat→Std} {C:zIB} {out rest:Option (List Int × List Int)} (hw:∀ D a,(wf D a).length=6) (hr:xU 6 (Ch w leaves wf r (D+1) (zCM w D st)) rest) (ho:xU 6 C out) (hC:∀ a v,C a v→v.length=6) :
  xU 6 (fun c v=>C c v∨zSM w leaves wf r D [] who st c v) (match rest with | none=>out | some (b,u)=>pick out (who++b) (vM u (wf D who))):=by
 cases rest with
 | none =>
  refine ho.none ?_
  intro a v h;obtain ⟨b,u,h2,_⟩:=yAL.1 h;exact hr b u h2
 | some p =>
  obtain ⟨b,u⟩:=p;obtain ⟨h1,h2,h3⟩:=hr;refine ho.pick (by rw [zKV (by rw [h2,hw]),h2]) (yAL.2 ⟨b,u,h1,rfl,rfl⟩) ?_ ?_
  ·intro c x h;obtain ⟨b',u',h4,_,h6⟩:=yAL.1 h;rw [h6,zXY (by rw [h4.len hw,h2]) (by rw [h2,hw])];exact h3 b' u' h4
  ·rintro c x (h | h)
   ·exact hC c x h
   ·exact h.len hw
end
end Go.Proofs.Ytgfiniccfpfplaa
