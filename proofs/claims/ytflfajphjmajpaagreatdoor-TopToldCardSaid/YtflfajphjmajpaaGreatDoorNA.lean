
import Derived.Test.YtflfajphjmajpaaGreatDoorXA
namespace Go.Proofs.YtflfajphjmajpaaGreatDoor
variable {xs:List Tp} {x:Tp} {m:Int}
def xF (xs:List Tp) (m:Int):Nat:=xs.countP fun x=>decide (x.m=m)
theorem zAN:xF (xs++[x]) m=xF xs m+if x.m=m then 1 else 0:=by
 unfold xF;rw [List.countP_append];by_cases h:x.m=m <;> simp [h]
theorem zCZ:xF xs m<=xs.length:=List.countP_le_length
def xWD (o:List Tp) (x:Tp):List Tp:=o++[{ x with n:=(xF o x.m:Int) }]
def zAZ (xs:List Tp):List Tp:=xs.foldl xWD []
theorem zSB:zAZ (xs++[x])=zAZ xs++[{ x with n:=(xF (zAZ xs) x.m:Int) }]:=by simp [zAZ,xWD]
theorem zAU {α:Type} {P:List α->Prop} (h0:P []) (h1:∀ xs x,P xs->P (xs++[x])) (l:List α):P l:=by
 have:∀ n (l:List α),l.length=n->P l:=by
  intro n;induction n with
  | zero=>intro l hl;rw [List.eq_nil_of_length_eq_zero hl];exact h0
  | succ n ih =>
   intro l hl;have hne:l≠[]:=by rintro rfl;simp at hl
   rw [<- List.dropLast_concat_getLast hne];exact h1 _ _ (ih _ (by rw [List.length_dropLast];omega))
 exact this _ l rfl
theorem xJC (xs:List Tp):(zAZ xs).length=xs.length :=
 zAU (P:=fun xs=>(zAZ xs).length=xs.length) rfl (fun xs x ih=>by rw [zSB,List.length_append,List.length_append,ih];rfl) xs
def Nmd (xs:List Tp):Prop:=∀ (i:Nat) (x:Tp),xs[i]?=some x->x.n=(xF (xs.take i) x.m:Int)
theorem yLT (xs:List Tp):Nmd (zAZ xs):=by
 refine zAU (P:=fun xs=>Nmd (zAZ xs)) (fun i x h=>by simp [zAZ] at h) (fun xs x ih i y h=>?_) xs;rw [zSB] at h ⊢;by_cases hi:i<(zAZ xs).length
 ·rw [List.getElem?_append_left hi] at h;rw [List.take_append_of_le_length (by omega)];exact ih i y h
 ·by_cases he:i=(zAZ xs).length
  ·subst he;rw [List.getElem?_append_right (Nat.le_refl _),Nat.sub_self] at h;cases h
   rw [List.take_append_of_le_length (Nat.le_refl _),List.take_length]
  ·rw [List.getElem?_eq_none (by simp;omega)] at h;cases h
theorem yGD {i j:Nat} (h:xs[i]?=some x) (hij:i<j):xF (xs.take i) x.m<xF (xs.take j) x.m:=by
 have e:xs.take j=xs.take (i+1)++(xs.drop (i+1)).take (j-(i+1)):=by
  rw [<- List.take_add];congr 1;omega
 have e2:xs.take (i+1)=xs.take i++[x]:=by rw [List.take_add_one,h];rfl
 have:xF (xs.take (i+1)) x.m=xF (xs.take i) x.m+1:=by rw [e2,zAN,if_pos rfl]
 rw [e];unfold xF at *;rw [List.countP_append];omega
theorem Nmd.lt (h:Nmd xs) {i:Nat} {x:Tp} (hx:xs[i]?=some x):0<=x.n/\x.n<(xF xs x.m:Int):=by
 have:=yGD hx (j:=xs.length) (List.getElem?_eq_some_iff.1 hx).1;rw [List.take_length] at this;rw [h i x hx];omega
theorem Nmd.inc (h:Nmd xs):xs.Pairwise fun x y=>x.m=y.m->x.n<y.n:=by
 rw [List.pairwise_iff_getElem];intro i j hi hj hij hm;have h1:=h i _ (List.getElem?_eq_getElem hi);have h2:=h j _ (List.getElem?_eq_getElem hj);have:=yGD (List.getElem?_eq_getElem hi) hij;rw [h1,h2,<- hm];omega
def yLP (o:List Rd) (r:Rd):List Rd:=if r∈o then o else o++[r]
def wV (rs:List Rd):List Rd:=rs.foldl yLP []
theorem zNF {rs:List Rd} {r:Rd}:wV (rs++[r])=yLP (wV rs) r:=by simp [wV]
theorem zSH (rs:List Rd):∀ r,r∈wV rs↔r∈rs:=by
 refine zAU (P:=fun rs=>∀ r,r∈wV rs↔r∈rs) (fun r=>by simp [wV]) (fun rs x ih r=>?_) rs;rw [zNF];unfold yLP;split
 ·rename_i h;rw [ih,List.mem_append,List.mem_singleton];exact ⟨.inl,fun k=>k.elim id fun e=>by rw [e];exact (ih x).1 h⟩
 ·rw [List.mem_append,ih,List.mem_append]
def xU (xs:List Tp) (c:Int):List Rd:=(xs.filter fun x=>decide (x.c=c)).map (·.r)
theorem zJN {c:Int}:xU (xs++[x]) c=xU xs c++if x.c=c then [x.r] else []:=by
 unfold xU;rw [List.filter_append,List.map_append];by_cases h:x.c=c <;> simp [h]
end Go.Proofs.YtflfajphjmajpaaGreatDoor
