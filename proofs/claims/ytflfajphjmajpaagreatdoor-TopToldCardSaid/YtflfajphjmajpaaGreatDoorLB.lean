
import Derived.Test.YtflfajphjmajpaaGreatDoorLA
import Derived.Test.YtflfajphjmajpaaGreatDoorNE
namespace Go.Proofs.YtflfajphjmajpaaGreatDoor
variable {m:Int} {f:Lk->Int}
theorem yYO {m:Int} {n:Int}:∀ {ks:List Tp},(ks.Pairwise fun x y=>x.m=y.m->x.n<y.n)->ks.countP (fun x=>decide (x.m=m/\x.n=n))=if (zBC ks (m,n)).isNone=true then 0 else 1
 | [],_=>rfl
 | x::ks,h=>by
  obtain ⟨h1,h2⟩:=List.pairwise_cons.1 h;have ih:=yYO (m:=m) (n:=n) h2;rw [List.countP_cons];by_cases e:x.m=m/\x.n=n
  ·have z:ks.countP (fun x=>decide (x.m=m/\x.n=n))=0:=List.countP_eq_zero.2 fun y hy=>by
    simp only [decide_eq_true_eq];rintro ⟨e1,e2⟩;have:=h1 y hy (by omega);omega
   have f:zBC (x::ks) (m,n)=some x:=by
    unfold zBC zMN;rw [List.find?_cons,show decide ((x.m,x.n)=(m,n))=true from decide_eq_true (by rw [e.1,e.2])]
   rw [z,f,if_pos (decide_eq_true e),if_neg (by simp)]
  ·have f:zBC (x::ks) (m,n)=zBC ks (m,n):=by
    unfold zBC zMN;rw [List.find?_cons,show decide ((x.m,x.n)=(m,n))=false from decide_eq_false (fun h=>e (Prod.mk.inj h))]
   rw [f,<- ih,if_neg (by simpa using e)];rfl
theorem yES {ks:List Tp} {m:Int} (h:ks.Pairwise fun x y=>x.m=y.m->x.n<y.n) (h0:∀ x∈ks,0<=x.n):∀ N:Nat,zEZ ks m N+ks.countP (fun x=>decide (x.m=m/\x.n<(N:Int)))=N
 | 0=>by
  have z:ks.countP (fun x=>decide (x.m=m/\x.n<((0:Nat):Int)))=0:=List.countP_eq_zero.2 fun y hy=>by
   have:=h0 y hy;simp only [decide_eq_true_eq];omega
  rw [z];rfl
 | N+1=>by
  have ih:=yES h h0 (m:=m) N;have e:ks.countP (fun x=>decide (x.m=m/\x.n<((N+1:Nat):Int)))=ks.countP (fun x=>decide (x.m=m/\x.n<(N:Int)))+ks.countP (fun x=>decide (x.m=m/\x.n=(N:Int))):=by
   clear ih h h0;induction ks with
   | nil=>rfl
   | cons x ks ih =>
    rw [List.countP_cons,List.countP_cons,List.countP_cons,ih];have k:(if decide (x.m=m/\x.n<((N+1:Nat):Int))=true then 1 else 0)=(if decide (x.m=m/\x.n<(N:Int))=true then 1 else 0)+(if decide (x.m=m/\x.n=(N:Int))=true then 1 else 0:Nat):=by
     simp only [decide_eq_true_eq];split <;> split <;> (try split) <;> omega
    omega
  rw [yYW,e,yYO h];split <;> omega
theorem xBP {A:List Int} {all ks ls:List Tp} (hn:Nmd all) (hS:Split A all ks ls):zEZ ks m (xF all m)=xF ls m:=by
 have hp:ks.Pairwise fun x y=>x.m=y.m->x.n<y.n:=hn.inc.sublist hS.sub
 have h:=yES (m:=m) hp (fun x hx=>(zSD hn (hS.sub.subset hx)).1) (xF all m);have e:ks.countP (fun x=>decide (x.m=m/\x.n<(xF all m:Int)))=xF ks m:=by
  refine List.countP_congr fun x hx=>?_
  simp only [decide_eq_true_eq];refine ⟨fun h=>h.1,fun h=>⟨h, ?_⟩⟩
  rw [<- h];exact (zSD hn (hS.sub.subset hx)).2
 have:=hS.cnt m;omega
def zDW (f:Lk->Int) (o:List Lk) (m:Int):Int:=((o.filter fun x=>decide (x.m=m)).map f).sum
theorem zEE {o:List Lk} {x:Lk}:zDW f (o++[x]) m=zDW f o m+if x.m=m then f x else 0:=by
 unfold zDW;rw [List.filter_append,List.map_append,List.sum_append];by_cases h:x.m=m <;> simp [h]
theorem yXK (o:List Lk):(∀ x∈o,0<=f x/\f x<=1000000)->0<=zDW f o m/\zDW f o m<=1000000*(o.length:Int):=by
 refine zAU (P:=fun o=>(∀ x∈o,0<=f x/\f x<=1000000)->0<=zDW f o m/\zDW f o m<=1000000*(o.length:Int)) (fun _=>by simp [zDW]) (fun o x ih h=>?_) o;have h1:=ih fun y hy=>h y (List.mem_append_left _ hy)
 have h2:=h x (by simp);rw [zEE,List.length_append,List.length_singleton];split <;> omega
section
variable {A:List Int} {all ks ls:List Tp}
theorem yLI (hS:Split A all ks ls) {m:Nat}:∀ j:Nat,zDW (·.sales) (zUZ A all ls j) m=(if m<j then (xF ls m:Int) else 0)/\zDW (·.coins) (zUZ A all ls j) m=if m<j then uK A ls m else 0
 | 0=>⟨rfl,rfl⟩
 | j+1=>by
  obtain ⟨i1,i2⟩:=yLI hS (m:=m) j;unfold zUZ;have hb:=zHM (m:=(j:Int)) ls hS.prl;by_cases e:m=j
  ·subst e;rw [if_neg (Nat.lt_irrefl _)] at i1 i2;rw [if_pos (Nat.lt_succ_self _),if_pos (Nat.lt_succ_self _)];split
   ·have h2:(lkT A all ls m).m=(m:Int):=rfl;rw [zEE,zEE,i1,i2,if_pos h2,if_pos h2,Int.zero_add,Int.zero_add];exact ⟨rfl,rfl⟩
   ·rw [i1,i2];omega
  ·have h1:(m<j+1)=(m<j):=propext ⟨fun h=>by omega,fun h=>by omega⟩;simp only [h1];split
   ·have h2:¬ (lkT A all ls j).m=(m:Int):=by show ¬ (j:Int)=m;omega
    rw [zEE,zEE,if_neg h2,if_neg h2,Int.add_zero,Int.add_zero];exact ⟨i1,i2⟩
   ·exact ⟨i1,i2⟩
theorem yYK (hS:Split A all ks ls) (hl:all.length<=40):∀ j:Nat,(zUZ A all ls j).length<=j/\∀ x∈zUZ A all ls j,(0<=x.m/\x.m<j)/\(0<=x.sales/\x.sales<=1000000)/\0<=x.coins/\x.coins<=1000000
 | 0=>⟨Nat.le_refl _,fun x hx=>by cases hx⟩
 | j+1=>by
  obtain ⟨i1,i2⟩:=yYK hS hl j;have h1:=hS.cnt j;have h2:=zCZ (xs:=all) (m:=(j:Int));have hb:=zHM (m:=(j:Int)) ls hS.prl;unfold zUZ;split
  ·refine ⟨by rw [List.length_append];simp;omega,fun x hx=>?_⟩
   rcases List.mem_append.1 hx with hx | hx
   ·have:=i2 x hx;omega
   ·rw [List.mem_singleton.1 hx];show (0<=(j:Int)/\(j:Int)<_)/\(0<=(xF ls j:Int)/\(xF ls j:Int)<=_)/\0<=uK A ls j/\uK A ls j<=_;omega
  ·refine ⟨by omega,fun x hx=>?_⟩
   have:=i2 x hx;omega
theorem xBT {z:Int} (hn:Nmd all) (hS:Split A all ks ls) (hl:all.length<=40) (hz:z<=4) (hm:∀ x∈all,0<=x.m/\x.m<=3) (hp:∀ x∈all,0<=prT A x/\prT A x<=10000) (hg:∀ x∈all,zML z x):(zGV A all ks 4).all yQ=true:=by
 refine List.all_eq_true.2 fun r hr=>?_
 unfold zGV at hr;simp only [List.mem_append,List.mem_map,List.mem_range] at hr;rcases hr with ⟨x,hx,rfl⟩ | ⟨m,h4,rfl⟩
 ·have hx:=hS.sub.subset hx;have h1:=hm x hx;have h2:=hp x hx;have h3:=zSD hn hx;have h4:=zCZ (xs:=all) (m:=x.m);have h5:=(hg x hx).2;unfold zJZ at h5;simp only [Bool.and_eq_true,decide_eq_true_eq,wD] at h5;unfold yQ zGB;simp only [Bool.and_eq_true,wD,if_true];omega
 ·have h1:=zCZ (xs:=all) (m:=(m:Int));have h2:=zHM (m:=(m:Int)) all hp;unfold yQ zBJ;rw [if_neg (show ¬ (2:Int)=0 by omega),if_neg (show ¬ (2:Int)=1 by omega),if_pos rfl];simp only [Bool.and_eq_true,wD];omega
end
end Go.Proofs.YtflfajphjmajpaaGreatDoor
