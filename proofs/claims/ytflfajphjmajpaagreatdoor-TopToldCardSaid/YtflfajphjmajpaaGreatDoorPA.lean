
namespace Go.Proofs.YtflfajphjmajpaaGreatDoor
structure Rec where
 m:Int
 s:Int
 t:Int
 k:Int
 a:Int
 b:Int
 deriving DecidableEq,Inhabited
def wW (x y:Rec):Prop:=x.m<y.m\/(x.m=y.m/\x.s<y.s)
instance (x y:Rec):Decidable (wW x y):=by unfold wW;infer_instance
theorem wW.irr (x:Rec):¬ wW x x:=by unfold wW;omega
theorem wW.trans {x y z:Rec} (h:wW x y) (k:wW y z):wW x z:=by unfold wW at *;omega
theorem wW.asymm {x y:Rec} (h:wW x y):¬ wW y x:=by unfold wW at *;omega
def zIY (x y:Rec):Prop:=x.m=y.m/\x.s=y.s
theorem yIS (x y:Rec):wW x y\/zIY x y\/wW y x:=by unfold wW zIY;omega
abbrev Srt (l:List Rec):Prop:=l.Pairwise wW
theorem zVX:∀ {l l':List Rec},Srt l->Srt l'->(∀ x,x∈l↔x∈l')->l=l'
 | [],[],_,_,_=>rfl
 | [],y::ys,_,_,h=>absurd ((h y).2 List.mem_cons_self) (by simp)
 | x::xs,[],_,_,h=>absurd ((h x).1 List.mem_cons_self) (by simp)
 | x::xs,y::ys,h1,h2,h=>by
  have p1:=List.pairwise_cons.1 h1;have p2:=List.pairwise_cons.1 h2;have e:x=y:=by
   rcases List.mem_cons.1 ((h x).1 List.mem_cons_self) with e | e
   ·exact e
   rcases List.mem_cons.1 ((h y).2 List.mem_cons_self) with f | f
   ·exact f.symm
   exact absurd (p1.1 y f) (p2.1 x e).asymm
  subst e;have:=zVX p1.2 p2.2 fun z=>by
   constructor
   ·intro hz;rcases List.mem_cons.1 ((h z).1 (List.mem_cons_of_mem _ hz)) with e | e
    ·exact absurd (p1.1 z hz) (by rw [e];exact wW.irr x)
    ·exact e
   ·intro hz;rcases List.mem_cons.1 ((h z).2 (List.mem_cons_of_mem _ hz)) with e | e
    ·exact absurd (p2.1 z hz) (by rw [e];exact wW.irr x)
    ·exact e
  rw [this]
def zMA (x y:Rec):Bool:=!decide (x=y) && decide (x.m=y.m) && (decide (x.s=y.s) || decide (y.s<x.s) && decide (x.t<y.t) || decide (x.s<y.s) && decide (y.t<x.t))
theorem zKJ {x y:Rec}:zMA x y=true↔x≠y/\x.m=y.m/\(x.s=y.s\/(y.s<x.s/\x.t<y.t)\/(x.s<y.s/\y.t<x.t)):=by
 unfold zMA;simp only [Bool.and_eq_true,Bool.or_eq_true,Bool.not_eq_true',decide_eq_true_eq,decide_eq_false_iff_not];constructor
 ·rintro ⟨⟨a,b⟩,(c | c) | c⟩
  ·exact ⟨a,b,.inl c⟩
  ·exact ⟨a,b,.inr (.inl c)⟩
  ·exact ⟨a,b,.inr (.inr c)⟩
 ·rintro ⟨a,b,c | c | c⟩
  ·exact ⟨⟨a,b⟩,.inl (.inl c)⟩
  ·exact ⟨⟨a,b⟩,.inl (.inr c)⟩
  ·exact ⟨⟨a,b⟩,.inr c⟩
def zLF (l:List Rec):Prop:=∀ x∈l,∀ y∈l,zMA x y=false
theorem zLF.key {l:List Rec} (h:zLF l) {x y:Rec} (hx:x∈l) (hy:y∈l) (e:zIY x y):x=y:=by
 have:=h x hx y hy;by_cases hxy:x=y
 ·exact hxy
 ·have:zMA x y=true:=zKJ.2 ⟨hxy,e.1,.inl e.2⟩;simp_all
theorem zLF.mem {l l':List Rec} (h:zLF l) (k:∀ x,x∈l'->x∈l):zLF l':=fun x hx y hy=>h x (k x hx) y (k y hy)
def yCJ (x:Rec):List Rec->List Rec
 | []=>[x]
 | y::ys=>if wW x y then x::y::ys else y::yCJ x ys
theorem yIN {x z:Rec}:∀ {l:List Rec},z∈yCJ x l↔z=x\/z∈l
 | []=>by simp [yCJ]
 | y::ys=>by
  unfold yCJ;split
  ·simp
  ·rw [List.mem_cons,yIN,List.mem_cons];constructor
   ·rintro (h | h | h)
    ·exact .inr (.inl h)
    ·exact .inl h
    ·exact .inr (.inr h)
   ·rintro (h | h | h)
    ·exact .inr (.inl h)
    ·exact .inl h
    ·exact .inr (.inr h)
theorem yXN {x:Rec}:∀ {l:List Rec},Srt l->(∀ y∈l,¬ zIY x y)->Srt (yCJ x l)
 | [],_,_=>by simp [yCJ,Srt]
 | y::ys,h,k=>by
  have p:=List.pairwise_cons.1 h;unfold yCJ;split
  ·rename_i c;refine List.pairwise_cons.2 ⟨fun z hz=>?_,h⟩;rcases List.mem_cons.1 hz with e | e
   ·rw [e];exact c
   ·exact c.trans (p.1 z e)
  ·rename_i c;refine List.pairwise_cons.2 ⟨fun z hz=>?_,yXN p.2 fun z hz=>k z (List.mem_cons_of_mem _ hz)⟩;rcases yIN.1 hz with e | e
   ·rw [e];have:=k y List.mem_cons_self;rcases yIS x y with h1 | h1 | h1
    ·exact absurd h1 c
    ·exact absurd h1 this
    ·exact h1
   ·exact p.1 z e
def step (o:List Rec) (x:Rec):List Rec:=if x∈o then o else yCJ x o
def zJW (l:List Rec):List Rec:=l.foldl step []
theorem yLZ {o:List Rec} {x z:Rec}:z∈step o x↔z=x\/z∈o:=by
 unfold step;split
 ·rename_i h;exact ⟨.inr,fun k=>k.elim (fun e=>by rw [e];exact h) id⟩
 ·exact yIN
theorem yMB:∀ {l o:List Rec} {z:Rec},z∈l.foldl step o↔z∈l\/z∈o
 | [],o,z=>by simp
 | x::xs,o,z=>by
  rw [List.foldl_cons,yMB,yLZ,List.mem_cons];constructor
  ·rintro (h | h | h)
   ·exact .inl (.inr h)
   ·exact .inl (.inl h)
   ·exact .inr h
  ·rintro ((h | h) | h)
   ·exact .inr (.inl h)
   ·exact .inl h
   ·exact .inr (.inr h)
theorem yMA {l:List Rec} {z:Rec}:z∈zJW l↔z∈l:=by unfold zJW;rw [yMB];simp
theorem yKH:∀ {l o:List Rec},Srt o->zLF (o++l)->Srt (l.foldl step o)
 | [],o,h,_=>h
 | x::xs,o,h,c=>by
  rw [List.foldl_cons];refine yKH ?_ (c.mem fun z hz=>?_)
  ·unfold step;split
   ·exact h
   ·rename_i hx;refine yXN h fun y hy e=>hx ?_
    rw [c.key (by simp) (by simp [hy]) e];exact hy
  ·rcases List.mem_append.1 hz with e | e
   ·rcases yLZ.1 e with e | e
    ·rw [e];simp
    ·simp [e]
   ·simp [e]
theorem yKG {l:List Rec} (h:zLF l):Srt (zJW l):=yKH .nil (by simpa using h)
theorem yZB {l o:List Rec} (h:zLF l) (s:Srt o) (k:∀ x,x∈o↔x∈l):o=zJW l:=zVX s (yKG h) fun x=>by rw [k,yMA]
theorem yRZ {l:List Rec} (h:Srt l) {i j:Nat} {x y:Rec} (hi:l[i]?=some x) (hj:l[j]?=some y) (hij:i<j):wW x y:=by
 obtain ⟨h1,rfl⟩:=List.getElem?_eq_some_iff.1 hi;obtain ⟨h2,rfl⟩:=List.getElem?_eq_some_iff.1 hj;exact List.pairwise_iff_getElem.1 h i j h1 h2 hij
theorem xMA {l:List Rec} (h:Srt l) (c:zLF l) {i j:Nat} {x y:Rec} (hi:l[i]?=some x) (hj:l[j]?=some y) (hij:i<j) (hm:x.m=y.m):x.s<y.s/\x.t<=y.t:=by
 have k:=yRZ h hi hj hij;have hs:x.s<y.s:=by unfold wW at k;omega
 have c1:=c x (List.mem_of_getElem? hi) y (List.mem_of_getElem? hj);refine ⟨hs, ?_⟩
 by_cases ht:x.t<=y.t
 ·exact ht
 ·have:zMA x y=true:=zKJ.2 ⟨fun e=>by subst e;omega,hm,.inr (.inr ⟨hs,by omega⟩)⟩;simp_all
end Go.Proofs.YtflfajphjmajpaaGreatDoor
