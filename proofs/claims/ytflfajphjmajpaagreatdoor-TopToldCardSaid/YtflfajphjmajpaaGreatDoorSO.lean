
import Derived.Test.YtflfajphjmajpaaGreatDoorLayD
import Derived.Test.YtflfajphjmajpaaGreatDoorXA
namespace Go.Proofs.YtflfajphjmajpaaGreatDoor
open Go Go.Lay Go.Sort
section
variable {Z:St} {α:Type} {f g k len c b nx:Nat} {s:Option Nat} {log:List (Nat × Nat)} {enc:α->List Value} {cf:α->α->Int} {xs:List α}
theorem yLW {Z s:St} {f:FuncId} {args:List Value} {v:Value} (h:∃ N0,∀ N,N0<=N->zW Tryz.prog N (.func f) args Z.re=some (v,s)) (h1:Z.y<=s.y) (h2:s.low<Z.y):zJ Tryz.prog f args Z v ⟨s.heap,s.y,min Z.low s.low⟩:=by
 obtain ⟨N0,hN⟩:=h;refine ⟨N0,fun N hl=>?_⟩
 unfold uE;rw [show (⟨Z.heap,Z.y,Z.y⟩:St)=Z.re from rfl,hN N hl];show vW Z v s=_;unfold vW;have e1:(Nat.ble Z.y s.low && zQ RD v)=false:=by
  rw [Bool.and_eq_false_iff];left;rw [Bool.eq_false_iff];intro e;have:=(zP _ _).1 e;omega
 have e2:Nat.ble Z.y s.y=true:=(zP _ _).2 h1;rw [e1,cond_false,e2,cond_true,wL,zBD]
theorem zQF (hk:∀ x∈xs,(enc x).length=k):(xs.map enc).flatten.length=xs.length*k:=by
 induction xs with
 | nil=>simp
 | cons x l ih =>
  have h1:=hk x List.mem_cons_self;have h2:=ih fun y hy=>hk y (List.mem_cons_of_mem _ hy)
  rw [List.map_cons,List.flatten_cons,List.length_append,h1,h2,List.length_cons,Nat.add_mul];omega
theorem yXO (hF:zEX f=true) (hR:∀ rec args Z,zXJ rec f args Z=zWB rec k args Z) (hc:∀ x∈xs,∀ y∈xs,zJ Tryz.prog g [.agg ⟨enc x⟩,.agg ⟨enc y⟩] st0 (iV (cf x y)) st0) (hS:SWO (yG cf))
  (hT:∀ x∈xs,∀ y∈xs,yG cf x y=false->yG cf y x=false->enc x=enc y) (hk:∀ x,(enc x).length=k) (hi:∀ x∈xs,∀ v∈enc x,∃ n,v=iV n\/v=.int .u8 n) (hl:xs.length=len) (h0:0<len) (h1:len<=1000000)
  (hb:b<Z.y) (hg:yD Z.heap b=some (.cells (xs.map enc).flatten k ((s.getD 0,len*k)::log) nx false)) :
  ∃ Z',zJ Tryz.prog f [.slice (some ⟨b,0,s⟩) len c,.func (.func g) ⟨[]⟩ ⟨[]⟩] Z (.tuple ⟨[]⟩) Z'/\Only (·=b) Z Z'/\b<Z'.y/\yD Z'.heap b=some (.cells ((sortL (yG cf) xs).map enc).flatten k [(s.getD 0,len*k)] nx false):=by
 have hg:yD Z.re.heap b=some (.cells (xs.map enc).flatten k ((s.getD 0,len*k)::log) nx false):=hg;have e1:(xs.map enc).flatten.length=len*k:=by rw [zQF fun x _=>hk x,hl]
 have hp:=sortL_perm (lt:=yG cf) xs;have e2:((sortL (yG cf) xs).map enc).flatten.length=len*k:=by rw [zQF fun x _=>hk x,hp.length_eq,hl]
 have hble:Nat.ble (0+len*k) (len*k)=true:=(zP _ _).2 (by omega);have hr:yR Z.re ⟨b,0,s⟩ (len*k)=some (xs.map enc).flatten:=by
  unfold yR;simp only [hg,zZ,wR,Nat.beq_refl,cond_true,hble,List.drop_zero];rw [List.take_of_length_le (by omega)]
 have hcell:((sortL (yG cf) xs).map enc).flatten.all cellB=true:=List.all_eq_true.2 fun v hv=>by
  obtain ⟨l,hl',hv⟩:=List.mem_flatten.1 hv;obtain ⟨x,hx,rfl⟩:=List.mem_map.1 hl';obtain ⟨n,rfl | rfl⟩:=hi x (hp.mem_iff.1 hx) v hv <;> rfl
 have hw:yZ Z.re ⟨b,0,s⟩ ((sortL (yG cf) xs).map enc).flatten=some (Z.re.put b (.cells ((sortL (yG cf) xs).map enc).flatten k [(s.getD 0,len*k)] nx false)):=by
  unfold yZ;have hb2:Nat.ble ((sortL (yG cf) xs).map enc).flatten.length (len*k)=true:=(zP _ _).2 (by omega);simp only [hg,zZ,Nat.beq_refl,Nat.zero_add,hb2,hcell,Bool.not_false,Bool.and_self,cond_true,zBU,St.write_eq,List.take_zero,List.nil_append];rw [List.drop_of_length_le (by omega),List.append_nil]
 obtain ⟨N0,hN⟩:=xAQ (c:=c) hF hR hc hS hT (fun x _=>hk x) hi hl h0 h1 hr hw;refine ⟨_,yLW ⟨N0,hN⟩ (Nat.le_refl _) (by show min Z.y b<Z.y;omega), ?_,hb,by rw [St.put_get,if_pos rfl]⟩
 exact (Only.put (Z:=Z.re) (y:=.cells ((sortL (yG cf) xs).map enc).flatten k [(s.getD 0,len*k)] nx false) (S:=(·=b)) (.inr rfl)).lower (m:=0)
theorem yKI (hF:zEX f=true) (hR:∀ rec args Z,zXJ rec f args Z=zWB rec k args Z):zJ Tryz.prog f [.slice none 0 c,.func (.func g) ⟨[]⟩ ⟨[]⟩] Z (.tuple ⟨[]⟩) Z :=
 zNE ⟨1,fun N hN=>by
  obtain ⟨N,rfl⟩:∃ M,N=M+1:=⟨N-1,by omega⟩;rw [yKO hF,hR];rfl⟩ (Nat.le_refl _) rfl
end
end Go.Proofs.YtflfajphjmajpaaGreatDoor
