
import Derived.Test.YtgfiniccfpfplaaGreatPC
namespace Go.Proofs.YtgfiniccfpfplaaGreat
set_option linter.unusedVariables false
set_option linter.unusedSimpArgs false
def wW:List Int→List Int→Bool
 | a::l,b::m=>if a=b then wW l m else decide (b<a)
 | _,_=>false
def vQ (a b:List Int):List Int:=List.zipWith (·+·) a b
theorem zGR:∀ a:List Int,wW a a=false
 | []=>rfl
 | a::l=>by unfold wW;rw [if_pos rfl];exact zGR l
theorem zJM:∀ {a b c:List Int},a.length=b.length→b.length=c.length→wW b a=false→wW c b=false→wW c a=false
 | [],[],[],_,_,_,_=>rfl
 | a::l,b::m,c::o,h1,h2,h3,h4=>by
  unfold wW at h3 h4 ⊢;have ih:=zJM (a:=l) (b:=m) (c:=o) (by simpa using h1) (by simpa using h2);split at h3
  ·rename_i e;subst e;split at h4
   ·rename_i e2;subst e2;rw [if_pos rfl];exact ih h3 h4
   ·rename_i e2;rw [if_neg e2];exact h4
  ·rename_i e;have h3:=of_decide_eq_false h3;split at h4
   ·rename_i e2;subst e2;rw [if_neg e];exact decide_eq_false h3
   ·have h4:=of_decide_eq_false h4;rw [if_neg (by omega)];exact decide_eq_false (by omega)
theorem zYK:∀ {a b:List Int},a.length=b.length→wW a b=true→wW b a=false
 | [],[],_,h=>by cases h
 | a::l,b::m,hl,h=>by
  unfold wW at h ⊢;by_cases e:a=b
  ·subst e;rw [if_pos rfl] at h ⊢;exact zYK (by simpa using hl) h
  ·rw [if_neg e] at h;rw [if_neg (Ne.symm e)];have:=of_decide_eq_true h;exact decide_eq_false (by omega)
theorem zYJ:∀ {a b c:List Int},a.length=b.length→b.length=c.length→wW (vQ a c) (vQ b c)=wW a b
 | [],[],[],_,_=>rfl
 | a::l,b::m,c::o,h1,h2=>by
  show (if a+c=b+c then wW (vQ l o) (vQ m o) else decide (b+c<a+c))=(if a=b then wW l m else decide (b<a));by_cases e:a=b
  ·subst e;rw [if_pos rfl,if_pos rfl,zYJ (by simpa using h1) (by simpa using h2)]
  ·rw [if_neg e,if_neg (by omega)];exact decide_eq_decide.2 (by omega)
theorem zKW {a b:List Int} (h:a.length=b.length):(vQ a b).length=a.length:=by
 unfold vQ;rw [List.length_zipWith];omega
abbrev zHX:=List Int→List Int→Prop
def xR (m:Nat) (C:zHX):Option (List Int × List Int)→Prop
 | none=>∀ a v,¬ C a v
 | some (a,v)=>C a v∧v.length=m∧∀ b u,C b u→wW u v=false
theorem xR.iff {m:Nat} {C C':zHX} {e:Option (List Int × List Int)} (h:xR m C e) (k:∀ a v,C a v↔C' a v):xR m C' e:=by
 cases e with
 | none=>exact fun a v hc=>h a v ((k a v).2 hc)
 | some p=>exact ⟨(k _ _).1 h.1,h.2.1,fun b u hc=>h.2.2 b u ((k b u).2 hc)⟩
def pick (out:Option (List Int × List Int)) (a v:List Int):Option (List Int × List Int) :=
 match out with
 | none=>some (a,v)
 | some (b,u)=>if wW v u then some (a,v) else some (b,u)
theorem xR.pick {m:Nat} {C:zHX} {G:zHX} {out:Option (List Int × List Int)} {a v:List Int} (h:xR m C out) (hv:v.length=m) (hg:G a v) (hb:∀ b u,G b u→wW u v=false) (hm:∀ b u,C b u∨G b u→u.length=m):xR m (fun b u=>C b u∨G b u) (pick out a v):=by
 cases out with
 | none =>
  refine ⟨.inr hg,hv, ?_⟩
  rintro b u (hc | hc)
  ·exact absurd hc (h b u)
  ·exact hb b u hc
 | some p =>
  obtain ⟨b,u⟩:=p;obtain ⟨h1,h2,h3⟩:=h;unfold YtgfiniccfpfplaaGreat.pick;simp only;by_cases hmore:wW v u=true
  ·rw [if_pos hmore];refine ⟨.inr hg,hv, ?_⟩
   rintro c x (hc | hc)
   ·exact zJM (b:=u) (by omega) (by rw [hm c x (.inl hc),h2]) (zYK (by omega) hmore) (h3 c x hc)
   ·exact hb c x hc
  ·rw [if_neg hmore];refine ⟨.inl h1,h2, ?_⟩
   rintro c x (hc | hc)
   ·exact h3 c x hc
   ·exact zJM (b:=v) (by omega) (by rw [hm c x (.inr hc),hv]) (by simpa using hmore) (hb c x hc)
theorem xR.none {m:Nat} {C G:zHX} {out:Option (List Int × List Int)} (h:xR m C out) (hg:∀ a v,¬ G a v):xR m (fun b u=>C b u∨G b u) out :=
 h.iff fun a v=>⟨.inl,fun k=>k.elim id fun k=>absurd k (hg a v)⟩
section
variable (w:Wk) (leaves:Bool) (wf:Nat→List Int→List Int)
def late (i:Nat):Int:=(dty w i).hi
def zEU (k i:Nat) (s:Std):Bool:=(List.range 5).all (fun q=>holds w q (drv w k) (dty w i) s) && decide ((take s (dty w i) (dty w i).hi).used≤w.hours)
def upd (st:Nat→Std) (k:Nat) (s:Std):Nat→Std:=fun j=>if j=k then s else st j
def yC (D j:Nat):List Nat:=(List.range j).filter fun i=>decide ((dty w i).day=(D:Int))
def zWK (st:Nat→Std) (k i:Nat):Nat→Std:=upd st k (take (st k) (dty w i) (dty w i).hi)
def uW:List Nat→List Int→(Nat→Std)→Option (Nat→Std)
 | [],[],st=>some st
 | i::l,r::who,st =>
  if r=-1 then (if leaves then uW l who st else none)
  else if 0≤r∧r<(w.drivers.length:Int)∧zEU w r.toNat i (st r.toNat)=true then uW l who (zWK w st r.toNat i) else none
 | _,_,_=>none
def zOZ (D:Nat) (s:Std):Std:=if s.day=(D:Int) then s else ⟨max s.free (((D:Int)+1)*1440-w.rest),0,s.used,s.day⟩
def zCB (D:Nat) (st:Nat→Std):Nat→Std:=fun k=>if k<w.drivers.length then zOZ w D (st k) else st k
def zDC:List Int:=[0,0,0,0,0,0]
def Ch:Nat→Nat→(Nat→Std)→zHX
 | 0,D,st,who,v=>who=[]∧v=zDC
 | r+1,D,st,who,v=>∃ a b st' u,uW w leaves (yC w D w.duties.length) a st=some st'∧Ch r (D+1) (zCB w D st') b u∧who=a++b∧v=vQ u (wf D a)
def zSU (r D:Nat) (l:List Nat) (who:List Int) (st:Nat→Std):zHX:=fun c v =>
 ∃ a b st' u,uW w leaves l a st=some st'∧Ch w leaves wf r (D+1) (zCB w D st') b u∧c=who++a++b∧v=vQ u (wf D (who++a))
end
section
variable {w:Wk} {leaves:Bool} {wf:Nat→List Int→List Int}
theorem Ch.len (hw:∀ D a,(wf D a).length=6):∀ {r D:Nat} {st:Nat→Std} {c v:List Int},Ch w leaves wf r D st c v→v.length=6
 | 0,_,_,_,_,h=>by rw [h.2];rfl
 | r+1,D,st,c,v,h=>by
  obtain ⟨a,b,st',u,_,h2,_,h4⟩:=h;have:=Ch.len hw h2;rw [h4,zKW (by rw [this,hw]),this]
theorem zSU.len (hw:∀ D a,(wf D a).length=6) {r D:Nat} {l:List Nat} {who:List Int} {st:Nat→Std} {c v:List Int} (h:zSU w leaves wf r D l who st c v):v.length=6:=by
 obtain ⟨a,b,st',u,_,h2,_,h4⟩:=h;have:=h2.len hw;rw [h4,zKW (by rw [this,hw]),this]
theorem xTI {r D:Nat} {st:Nat→Std} {c v:List Int}:Ch w leaves wf (r+1) D st c v↔zSU w leaves wf r D (yC w D w.duties.length) [] st c v:=by
 unfold Ch zSU;simp only [List.nil_append]
theorem yAZ {r D:Nat} {who:List Int} {st:Nat→Std} {c v:List Int}:zSU w leaves wf r D [] who st c v↔∃ b u,Ch w leaves wf r (D+1) (zCB w D st) b u∧c=who++b∧v=vQ u (wf D who):=by
 constructor
 ·rintro ⟨a,b,st',u,h1,h2,h3,h4⟩;cases a with
  | nil =>
   have h1:some st=some st':=h1;cases h1
   exact ⟨b,u,h2,by simpa using h3,by simpa using h4⟩
  | cons x a=>cases h1
 ·rintro ⟨b,u,h2,h3,h4⟩;exact ⟨[],b,st,u,rfl,h2,by simpa using h3,by simpa using h4⟩
theorem xGE {r D i:Nat} {l:List Nat} {who:List Int} {st:Nat→Std} {c v:List Int}:zSU w leaves wf r D (i::l) who st c v↔(leaves=true∧zSU w leaves wf r D l (who++[-1]) st c v)∨∃ k,k<w.drivers.length∧zEU w k i (st k)=true∧zSU w leaves wf r D l (who++[(k:Int)]) (zWK w st k i) c v:=by
 constructor
 ·rintro ⟨a,b,st',u,h1,h2,h3,h4⟩;cases a with
  | nil=>cases h1
  | cons x a =>
   unfold uW at h1;split at h1
   ·rename_i e;subst e;split at h1
    ·rename_i hl;exact .inl ⟨hl,a,b,st',u,h1,h2,by rw [h3];simp,by rw [h4];simp⟩
    ·cases h1
   ·split at h1
    ·rename_i e h;obtain ⟨g1,g2,g3⟩:=h;refine .inr ⟨x.toNat,by omega,g3,a,b,st',u,h1,h2, ?_, ?_⟩
     ·rw [h3,Int.toNat_of_nonneg g1];simp
     ·rw [h4,Int.toNat_of_nonneg g1];simp
    ·cases h1
 ·rintro (⟨hl,a,b,st',u,h1,h2,h3,h4⟩ | ⟨k,hk,hm,a,b,st',u,h1,h2,h3,h4⟩)
  ·refine ⟨-1::a,b,st',u, ?_,h2,by rw [h3];simp,by rw [h4];simp⟩
   unfold uW;rw [if_pos rfl,if_pos hl];exact h1
  ·refine ⟨(k:Int)::a,b,st',u, ?_,h2,by rw [h3];simp,by rw [h4];simp⟩
   unfold uW;rw [if_neg (by omega),Int.toNat_natCast,if_pos ⟨by omega,by omega,hm⟩];exact h1
theorem xEI {r D:Nat} {who:List Int} {st:Nat→Std} {C:zHX} {out rest:Option (List Int × List Int)} (hw:∀ D a,(wf D a).length=6) (hr:xR 6 (Ch w leaves wf r (D+1) (zCB w D st)) rest) (ho:xR 6 C out) (hC:∀ a v,C a v→v.length=6) :
  xR 6 (fun c v=>C c v∨zSU w leaves wf r D [] who st c v) (match rest with | none=>out | some (b,u)=>pick out (who++b) (vQ u (wf D who))):=by
 cases rest with
 | none =>
  refine ho.none ?_
  intro a v h;obtain ⟨b,u,h2,_⟩:=yAZ.1 h;exact hr b u h2
 | some p =>
  obtain ⟨b,u⟩:=p;obtain ⟨h1,h2,h3⟩:=hr;refine ho.pick (by rw [zKW (by rw [h2,hw]),h2]) (yAZ.2 ⟨b,u,h1,rfl,rfl⟩) ?_ ?_
  ·intro c x h;obtain ⟨b',u',h4,_,h6⟩:=yAZ.1 h;rw [h6,zYJ (by rw [h4.len hw,h2]) (by rw [h2,hw])];exact h3 b' u' h4
  ·rintro c x (h | h)
   ·exact hC c x h
   ·exact h.len hw
end
end Go.Proofs.YtgfiniccfpfplaaGreat
