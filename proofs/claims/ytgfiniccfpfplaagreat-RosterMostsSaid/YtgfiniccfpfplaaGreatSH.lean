
import Derived.Test.YtgfiniccfpfplaaGreatSG
import Derived.Test.YtgfiniccfpfplaaGreatLayD
namespace Go.Proofs.YtgfiniccfpfplaaGreat
open Go Go.Lay
open Tryz renaming prog → Pg
set_option linter.unusedVariables false
set_option linter.unusedSimpArgs false
set_option maxRecDepth 20000
def zNQ (σ:St) (p:Option Addr) (l:Nat) (rs:List (List Int)):Prop:=∃ vs:List Value,SlV Pg σ 26 1 p l vs∧rs.length=l∧∀ (i:Nat) (r:List Int),rs[i]?=some r→∃ q c,vs[i]?=some (Value.slice q r.length c)∧yI σ q r.length r
section
variable {σ:St}
theorem zNQ.le {σ':St} {p:Option Addr} {l:Nat} {rs:List (List Int)} (h:zNQ σ p l rs) (k:Le σ σ'):zNQ σ' p l rs:=by
 obtain ⟨vs,h1,h2,h3⟩:=h
 exact ⟨vs,h1.le k,h2,fun i r hi=>by obtain ⟨q,c,g1,g2⟩:=h3 i r hi;exact ⟨q,c,g1,g2.le k⟩⟩
theorem zNQ.len {p:Option Addr} {l:Nat} {rs:List (List Int)} (h:zNQ σ p l rs):rs.length=l:=h.choose_spec.2.1
theorem zNQ.row {p:Option Addr} {l i:Nat} {rs:List (List Int)} (h:zNQ σ p l rs) (hi:i<l):∃ a,p=some a∧∃ r q c,rs[i]?=some r∧(∀ τ,Le σ τ→zB Pg τ 26 (zP a (Int.toNat (i:Int)*1))=some (.slice q r.length c))∧yI σ q r.length r:=by
 obtain ⟨vs,h1,h2,h3⟩:=h
 obtain ⟨a,rfl,_⟩:=h1.some hi
 obtain ⟨q,c,g1,g2⟩:=h3 i rs[i] (by simp)
 exact ⟨a,rfl,rs[i],q,c,by simp,fun τ hτ=>(h1.le hτ).at rfl g1,g2⟩
theorem zTX (zs:List Value):∀ N,(yW zs N).length=N*zs.length
 | 0=>by simp [yW]
 | N+1=>by simp [yW,zTX zs N,Nat.add_mul];omega
theorem zRV {zs:List Value} (h:zs.all cellB=true):∀ N,(yW zs N).all cellB=true
 | 0=>by simp [yW]
 | N+1=>by simp only [yW,List.all_append,zRV h N,h,Bool.and_self]
theorem yYK {α:Type} {f:α→Value} (hf:∀ x,(f x).cells.toList.all cellB=true) (r:List α):(vJ (r.map f)).all cellB=true:=by
 induction r with
 | nil=>rfl
 | cons x r ih=>rw [List.map_cons,show f x::r.map f=[f x]++r.map f from rfl,zCF,List.all_append,ih,Bool.and_true];simpa [vJ] using hf x

theorem growI_c {N:Nat} (hN:N≤1073741824):∃ p c σ',zE Pg 120 [.slice none 0 0,iV (N:Int)] σ (.slice p 0 c) σ'∧New σ σ'∧Buf σ' σ.next 1 N p 0 c []:=by
 have k0:xN Pg (evL [.slice none 0 0]) σ.re (.call { callee:=.builtin .cap,args:=⟨vL 1⟩,argTypes:=⟨[26]⟩ })=some (iV 0):=by kernel_rfl
 suffices hmain:zQ Pg 120 [.slice none 0 0,iV (N:Int)] σ.re fun v s=>New σ.re s∧∃ p c,v=.slice p 0 c∧Buf s σ.next 1 N p 0 c [] by
  obtain ⟨v,σ',h1,h2,p,c,rfl,h3⟩:=zQ.new hmain (by rintro v s s' ⟨p,c,rfl,h⟩ hl;exact ⟨p,c,rfl,h.le hl⟩) (by
   rintro v s hr ⟨p,c,rfl,h⟩
   refine ⟨p,c,rfl, ?_⟩
   rcases h with ⟨rfl,e1,_,e2,_⟩ | ⟨b,bc,rfl,_⟩
   ·exact .inl ⟨rfl,e1,rfl,e2,rfl⟩
   ·exact Bool.noConfusion (show false=true from hr))
  exact ⟨p,c,σ',h1,h2,h3⟩
 rcases Nat.eq_zero_or_pos N with h0 | h0
 ·subst h0
  exact yXZ k0 ⟨New.refl _,none,0,rfl,Buf.nil⟩
 have hz:∃ ei z,Pg.info? 3=some ei∧ei.zero=some z∧ei.bytes≤4096∧zT RD z=true∧Nat.beq z.cells.toList.length 1=true∧z.cells.toList=[iV 0]:=⟨_,_,rfl,rfl,by decide,rfl,rfl,rfl⟩
 obtain ⟨ei,z,hei,hz,hby,hrz,hzl,hzz⟩:=hz
 have hzc:(yW z.cells.toList N).length=N*1:=by rw [hzz];exact zTX _ N
 have hcb:(yW z.cells.toList N).all cellB=true:=by rw [hzz];exact zRV rfl N
 have g:=yXY (P:=Pg) (σ:=σ.re) (st:=26) (xt:=3) (e:=3) (n:=1) (N:=N) (k:=.i64) (q:=.i64) (z:=z) (by kernel_rfl) (by kernel_rfl) hei hz hby hrz hzl (by omega) hN h0 hzc hcb
 have o:Own (σ.re.row (yW z.cells.toList N) 1) σ.next (yW z.cells.toList N) 1:=zC _ _ _
 have s3:zBN Pg σ.re 26 (.slice none 0 0) none (some (iV 0)) none=some (.slice none 0 0):=by kernel_rfl
 obtain ⟨c6,s6,e6⟩:=yKU (P:=Pg) (t:=26) (e:=3) (N:=N) (c:=N+zAK) (q:=.i64) (by kernel_rfl) (by kernel_rfl) o h0 (zCI N) (zHA N)
 exact yYA k0 k0 s3 (by simpa using g) (by simpa using s6) ⟨New.row _ _ _,some ⟨σ.next,0,none⟩,c6,rfl,.inr ⟨σ.next,_,rfl,e6,o,hzc,Nat.zero_le _,by simp,Nat.le_refl _,h0⟩⟩
theorem concI_c {p:Option Addr} {l c:Nat} {rs:List (List Int)} (h:zNQ σ p l rs) (hl:l≤1073741824) (hN:rs.flatten.length≤1073741824) :
  ∃ p' c' σ',zE Pg 104 [.slice p l c] σ (.slice p' rs.flatten.length c') σ'∧New σ σ'∧yI σ' p' rs.flatten.length rs.flatten∧∀ b,AtP p' b→σ.next≤b:=by
 have hlen:=h.len
 have h0:=h.le (le0 σ)
 have hsum:∀ s,((rs.take s).flatten).length≤rs.flatten.length:=fun s=>by
  have e:rs.flatten.length=((rs.take s).flatten).length+((rs.drop s).flatten).length:=by rw [← List.length_append,← List.flatten_append,List.take_append_drop]
  omega
 refine zQ.newSl (yYX (P0:=fun n τ=>τ=σ.re∧n=(rs.flatten.length:Int)) (yJE (Inv:=fun k n i τ=>∃ s:Nat,i=s∧s+k=l∧τ=σ.re∧n=(((rs.take s).flatten).length:Int)) ?_ l 0 0 σ.re ⟨0,rfl,by omega,rfl,by simp⟩) ?_)
 ·rintro k n i τ ⟨s,rfl,hk,rfl,rfl⟩
  by_cases hs:s<l
  rotate_left
  ·exact yUC ⟨rfl,by rw [List.take_of_length_le (by omega)]⟩ (by omega)
  obtain ⟨a,rfl,r,q,d,hr,ld,hq⟩:=h0.row hs
  have e1:((rs.take (s+1)).flatten).length=((rs.take s).flatten).length+r.length:=by rw [vS hr];simp
  have:=hsum (s+1)
  exact yUD (ld _ (Le.refl _)) ⟨k-1,by omega,s+1,by omega,by omega,rfl,by rw [e1];omega⟩ (by omega) (by omega) (by omega) (by omega) (by omega)
 ·rintro n τ ⟨rfl,rfl⟩
  obtain ⟨p1,c1,σ1,k1,n1,b1⟩:=growI_c (σ:=σ.re) (N:=rs.flatten.length) hN
  refine yJC k1 (P2:=fun p' l' c' τ=>l'=rs.flatten.length∧New σ.re τ∧Buf τ σ.next 1 rs.flatten.length p' l' c' (vJ (rs.flatten.map yC))) (yJD (Inv:=fun k p' l' c' i τ=>∃ s:Nat,i=s∧s+k=l∧l'=((rs.take s).flatten).length∧New σ.re τ∧Buf τ σ.next 1 rs.flatten.length p' l' c' (vJ (((rs.take s).flatten).map yC))) ?_ l p1 0 c1 0 σ1 ⟨0,rfl,by omega,rfl,n1,by simpa [vJ] using b1⟩) ?_
  ·rintro k p' l' c' i τ ⟨s,rfl,hk,rfl,hNw,hb⟩
   by_cases hs:s<l
   rotate_left
   ·rw [List.take_of_length_le (by omega)] at hb ⊢
    exact yUA ⟨rfl,hNw,hb⟩ (by omega)
   obtain ⟨a,rfl,r,q,d,hr,ld,hq⟩:=(h0.le hNw.le).row hs
   have e1:((rs.take (s+1)).flatten).length=((rs.take s).flatten).length+r.length:=by rw [vS hr];simp
   have:=hsum (s+1)
   obtain ⟨τ2,g1,g2,g3,g4,g5⟩:=hb.push (P:=Pg) (st:=26) (xt:=26) (e:=3) (m:=r.length) (d:=d) (q:=q) (xs:=vJ (r.map yC)) (zJT (by kernel_rfl)) hq.1 (by omega) hN (yYK (fun _=>rfl) r)
   have N2:New σ.re τ2:=hNw.of_only g3 (fun b hbb=>(hb.bd b hbb).1)
   refine yUB (ld _ (Le.refl _)) g1 ⟨k-1,by omega,s+1,by omega,by omega,by rw [e1],N2, ?_⟩ (by omega)
   rw [vS hr,List.flatten_append,List.map_append,zCF]
   simpa using g2
  ·rintro p' l' c' τ ⟨rfl,hNw,hb⟩
   exact yJB ⟨hNw,p',c',rfl,hb.slv (List.length_map _) (by intro v hv;obtain ⟨x,_,rfl⟩:=List.mem_map.1 hv;exact zBQ x),fun b hbb=>(hb.bd b hbb).1⟩
end
end Go.Proofs.YtgfiniccfpfplaaGreat
