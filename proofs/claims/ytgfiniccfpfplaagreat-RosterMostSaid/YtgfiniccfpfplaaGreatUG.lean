import Derived.Test.YtgfiniccfpfplaaGreatUE
import Derived.Test.YtgfiniccfpfplaaGreatXF

namespace Go.Proofs.YtgfiniccfpfplaaGreat
open Go Go.Lay
set_option linter.unusedVariables false
set_option linter.unusedSimpArgs false
set_option maxRecDepth 20000
open Go.Sort (swp PermIn)
section
variable {Z:St} {b c:Nat} {s:Option Nat} {d:Array Rec} {g:FuncId} {gc:List Value} {lt:Rec->Rec->Bool} {V:Rec->Prop}
theorem revR_c {a B:Nat} (h:Dt Z b s d) (hv:xQ V d) (ha:a<B) (hB:B<=d.size) (hn:d.size<=1000000) :
  uH 110 [.slice (some ⟨b,0,s⟩) d.size c,iV (a:Int),iV (B:Int),.func (.func g) ⟨[]⟩ ⟨gc⟩] (.tuple ⟨[]⟩) Z b s d (Go.Sort.reverseRange d a B):=by
 refine uH.of h (revR_ra (P0:=fun τ=>W Z τ b s d (Go.Sort.reverseRange d a B)) (yRD (Inv:=fun k i j τ=>∃ (p q:Nat) (dk:Array Rec),i=p/\j=q/\k=q-p/\p<=B/\q<B/\W Z τ b s d dk/\dk.size=d.size/\Go.Sort.reverseLoop p q dk=Go.Sort.reverseRange d a B) ?_ (B-1-a) _ _ Z.re ⟨a,B-1,d,rfl,by omega,rfl,by omega,by omega,W.start h,rfl,rfl⟩) (fun τ hw=>yRC ⟨rfl,hw⟩) (by omega));rintro k i j τ ⟨p,q,dk,rfl,rfl,hk,hp,hq,w,hsz,ht⟩;by_cases hpq:p<q;rotate_left
 ·rw [Go.Sort.reverseLoop,if_neg hpq] at ht;exact revR_s1b (by rw [<- ht];exact w) (by omega)
 rw [Go.Sort.reverseLoop,if_pos hpq] at ht;have l1:=w.dt.ldN (i:=(q:Int)) (k:=q) rfl (by omega);have l2:=w.dt.ldN (i:=(p:Int)) (k:=p) rfl (by omega);obtain ⟨τ5,τ6,t1,t2,w6⟩:=w.swapN (i:=(p:Int)) (j:=(q:Int)) (p:=p) (q:=q) rfl rfl (by omega) (by omega);exact revR_s1a l1 l2 t1 t2 ⟨q-1-(p+1),by omega,p+1,q-1,_,by omega,by omega,rfl,by omega,by omega,w6,by rw [yX,hsz],ht⟩
def zGB:List UInt8:=[0,1,2,2,3,3,3,3,4,4,4,4,4,4,4,4,5,5,5,5,5,5,5,5,5,5,5,5,5,5,5,5]++List.replicate 32 6++List.replicate 64 7++List.replicate 128 8
theorem len8_len:zGB.length=256:=by decide
theorem yMW:∀ n:Fin 256,(zGB.getD n.val 0).toNat<=8/\(0<n.val->2 ^ (zGB.getD n.val 0).toNat<=2*n.val):=by decide +kernel
theorem index8 {n:Nat} (hn:n<256):zAD Tryz.prog 9 (.string ⟨⟨zGB⟩⟩) (iV (n:Int))=some (.int .u8 ((zGB.getD n 0).toNat:Int)):=by
 have hl:n<zGB.length:=by rw [len8_len];exact hn
 have e:zAD Tryz.prog 9 (.string ⟨⟨zGB⟩⟩) (iV (n:Int))=if 0<=(n:Int) then (((⟨⟨zGB⟩⟩:ByteArray)[(n:Int).toNat]?).map fun b=>Value.int .u8 b.toNat) else none:=by
  unfold zAD;have hu:Tryz.prog.underlying 9=some .string:=by kernel_rfl
  simp only [hu]
 rw [e,if_pos (by omega),Int.toNat_natCast];have hb:(⟨⟨zGB⟩⟩:ByteArray)[n]?=some (zGB.getD n 0):=by
  rw [getElem?_pos _ n (by show n<zGB.length;exact hl)];congr 1;rw [List.getD_eq_getElem?_getD,List.getElem?_eq_getElem hl];rfl
 rw [hb];rfl
end
end Go.Proofs.YtgfiniccfpfplaaGreat

namespace Go.Proofs.YtgfiniccfpfplaaGreat
open Go Go.Lay
open Tryz renaming prog -> Pg
set_option linter.unusedVariables false
set_option linter.unusedSimpArgs false
set_option maxRecDepth 20000
open Go.Sort (swp PermIn)
theorem mut2 {Z:St} {f:FuncId} {args:List Value} {S:Nat->Prop} {Q:Value->St->Prop} (h:zO Pg f args Z.re fun v s=>Only S Z.re s/\(s.low<Z.next\/zV RD v=false\/Q v Z)/\Q v s) (hQ:∀ v s m,Q v s->Q v ⟨s.heap,s.next,m⟩):∃ v Z',zD Pg f args Z v Z'/\Only S Z Z'/\Q v Z':=by
 obtain ⟨v,s,hN,h1,h2,h3⟩:=h;by_cases hlow:s.low<Z.next
 ·exact zO.mut ⟨v,s,hN,h1,.inl hlow,h3⟩ hQ
 ·cases hr:zV RD v with
  | false=>exact zO.mut ⟨v,s,hN,h1,.inr hr,h3⟩ hQ
  | true =>
   refine ⟨v,Z,zO.pure ⟨v,s,hN,rfl,by omega⟩ hr,Only.refl _ _, ?_⟩
   rcases h2 with h2 | h2 | h2
   ·exact absurd h2 hlow
   ·rw [hr] at h2;cases h2
   ·exact h2
theorem wrap8u (n:Int):zAF .u8 n=n % 256:=by
 have e1:(2:Int) ^ 8=256:=by decide
 rw [vT];simp only [IntKind.wrap,IntKind.bits,IntKind.signed,e1,Bool.false_and,Bool.false_eq_true,if_false]
theorem zWE (n:Int):zAF .u64 n=n % 18446744073709551616:=by
 have e1:(2:Int) ^ 64=18446744073709551616:=by decide
 rw [vT];simp only [IntKind.wrap,IntKind.bits,IntKind.signed,e1,Bool.false_and,Bool.false_eq_true,if_false]
theorem shlX {x z:Int} {o1 o2:Operand} (hz:0<=z):∃ y,zBX Pg .shl 166 o1 o2 (.int .u64 x) (.int .u64 z)=some (.int .u64 y):=by
 refine ⟨IntKind.u64.wrap (x*2 ^ (min z.toNat IntKind.u64.bits)), ?_⟩
 have e:Op.shift .shl .u64 x .u64 z=pure (.int .u64 (IntKind.u64.wrap (x*2 ^ (min z.toNat IntKind.u64.bits)))):=by unfold Op.shift;rw [if_neg (by omega)]
 show ((yA Pg (do eqGuard .shl 166 o1 o2 (.int .u64 x) (.int .u64 z);Op.shift .shl .u64 x .u64 z)).filter (zV RD))=_;rw [e];rfl
theorem shrX {x z:Int} {o1 o2:Operand} (hz:0<=z):∃ y,zBX Pg .shr 166 o1 o2 (.int .u64 x) (.int .u64 z)=some (.int .u64 y):=by
 refine ⟨x.fdiv (2 ^ (min z.toNat IntKind.u64.bits)), ?_⟩
 have e:Op.shift .shr .u64 x .u64 z=pure (.int .u64 (x.fdiv (2 ^ (min z.toNat IntKind.u64.bits)))):=by unfold Op.shift;rw [if_neg (by omega)]
 show ((yA Pg (do eqGuard .shr 166 o1 o2 (.int .u64 x) (.int .u64 z);Op.shift .shr .u64 x .u64 z)).filter (zV RD))=_;rw [e];rfl
theorem xorX {x z:Int} {o1 o2:Operand}:∃ y,zBX Pg .xor 166 o1 o2 (.int .u64 x) (.int .u64 z)=some (.int .u64 y):=by
 refine ⟨IntKind.u64.wrap ((BitVec.ofInt IntKind.u64.bits x ^^^ BitVec.ofInt IntKind.u64.bits z).toNat:Int), ?_⟩
 have e:Op.intBits .xor .u64 x z=pure (.int .u64 (IntKind.u64.wrap ((BitVec.ofInt IntKind.u64.bits x ^^^ BitVec.ofInt IntKind.u64.bits z).toNat:Int))):=rfl;show ((yA Pg (do eqGuard .xor 166 o1 o2 (.int .u64 x) (.int .u64 z);Op.intBits .xor .u64 x z)).filter (zV RD))=_;rw [e];rfl
theorem andX {x:Int} {m:Nat} {o1 o2:Operand} (hm:m<18446744073709551616):∃ y:Nat,zBX Pg .and 141 o1 o2 (.int .u64 x) (.int .u64 (m:Int))=some (.int .u64 (y:Int))/\y<=m:=by
 have e64:(2:Nat) ^ IntKind.u64.bits=18446744073709551616:=by decide
 have hb:(BitVec.ofInt IntKind.u64.bits (m:Int)).toNat=m:=by
  rw [BitVec.toNat_ofInt,e64];omega
 have hle:(BitVec.ofInt IntKind.u64.bits x &&& BitVec.ofInt IntKind.u64.bits (m:Int)).toNat<=m:=by
  rw [BitVec.toNat_and,hb];exact Nat.and_le_right
 refine ⟨(BitVec.ofInt IntKind.u64.bits x &&& BitVec.ofInt IntKind.u64.bits (m:Int)).toNat, ?_,hle⟩
 have e:Op.intBits .and .u64 x (m:Int)=pure (.int .u64 (IntKind.u64.wrap ((BitVec.ofInt IntKind.u64.bits x &&& BitVec.ofInt IntKind.u64.bits (m:Int)).toNat:Int))):=rfl;show ((yA Pg (do eqGuard .and 141 o1 o2 (.int .u64 x) (.int .u64 (m:Int));Op.intBits .and .u64 x (m:Int))).filter (zV RD))=_;rw [e,<- vT,zWE,Int.emod_eq_of_lt (by omega) (by omega)];rfl
theorem shrL {n:Nat} {o1 o2:Operand}:zBX Pg .shr 162 o1 o2 (.int .u64 (n:Int)) (.int .u64 8)=some (.int .u64 ((n / 256:Nat):Int)):=by
 have e:Op.shift .shr .u64 (n:Int) .u64 8=pure (.int .u64 ((n / 256:Nat):Int)):=by
  unfold Op.shift;rw [if_neg (by omega)];show pure (Value.int .u64 (Int.fdiv (n:Int) (2 ^ (min (8:Int).toNat IntKind.u64.bits))))=_;rw [show (2:Int) ^ (min (8:Int).toNat IntKind.u64.bits)=((256:Nat):Int) by decide,<- Int.ofNat_fdiv]
 show ((yA Pg (do eqGuard .shr 162 o1 o2 (.int .u64 (n:Int)) (.int .u64 8);Op.shift .shr .u64 (n:Int) .u64 8)).filter (zV RD))=_;rw [e];rfl
theorem shlP {n:Nat} {o1 o2:Operand} (h:n<=16):zBX Pg .shl 141 o1 o2 (.int .u64 1) (iV (n:Int))=some (.int .u64 ((2 ^ n:Nat):Int)):=by
 have e:Op.shift .shl .u64 1 .i64 (n:Int)=pure (.int .u64 (IntKind.u64.wrap (1*2 ^ (min (n:Int).toNat IntKind.u64.bits)))):=by unfold Op.shift;rw [if_neg (by omega)]
 have e2:IntKind.u64.wrap (1*2 ^ (min (n:Int).toNat IntKind.u64.bits))=((2 ^ n:Nat):Int):=by
  have hp:2 ^ n<=2 ^ 16:=Nat.pow_le_pow_right (by omega) h;have h16:(2:Nat) ^ 16=65536:=by decide
  rw [Int.toNat_natCast,show min n IntKind.u64.bits=n from Nat.min_eq_left (by show n<=64;omega),<- vT,zWE,Int.one_mul];have e3:(2:Int) ^ n=((2 ^ n:Nat):Int):=by simp
  rw [e3];obtain ⟨k,hk⟩:∃ k:Nat,k=2 ^ n:=⟨_,rfl⟩;rw [<- hk] at hp ⊢;omega
 show ((yA Pg (do eqGuard .shl 141 o1 o2 (.int .u64 1) (iV (n:Int));Op.shift .shl .u64 1 .i64 (n:Int))).filter (zV RD))=_;rw [e,e2];rfl
theorem yYV {n:Nat} (hn:n<256):zAD Pg 9 (.string ⟨⟨zGB⟩⟩) (.int .u8 (n:Int))=some (.int .u8 ((zGB.getD n 0).toNat:Int)):=by
 have h:=index8 hn;have e:zAD Pg 9 (.string ⟨⟨zGB⟩⟩) (.int .u8 (n:Int))=zAD Pg 9 (.string ⟨⟨zGB⟩⟩) (iV (n:Int)):=by
  unfold zAD;have hu:Pg.underlying 9=some .string:=by kernel_rfl
  simp only [hu]
 rw [e,h]
section
variable {Z:St} {b c:Nat} {s:Option Nat} {d:Array Rec} {g:FuncId} {gc:List Value} {lt:Rec->Rec->Bool} {V:Rec->Prop}
theorem yWN {x:Nat} (hx:x<65536):∃ n:Nat,n<=16/\(0<x->2 ^ n<=2*x)/\zD Pg 98 [.int .u64 (x:Int)] Z (iV (n:Int)) Z:=by
 by_cases h:x<256
 ·obtain ⟨p1,p2⟩:=yMW ⟨x,h⟩;refine ⟨(zGB.getD x 0).toNat,by simp only at p1;omega,fun h0=>p2 h0, ?_⟩
  refine (yZN (n1:=((zGB.getD x 0).toNat:Int)) (bLen64_rh (z1:=(x:Int)) (n2:=((zGB.getD x 0).toNat:Int)) (by rw [wrap8u];omega) (yYV h) ⟨by rw [Int.zero_add],Nat.le_refl _⟩ (by omega) (by omega) (by omega) (by simp only at p1;omega) (by simp only at p1;omega)).pure ⟨rfl,Nat.le_refl _⟩).pure
 ·have h2:x / 256<256:=by omega
  obtain ⟨p1,p2⟩:=yMW ⟨x / 256,h2⟩;simp only at p1 p2;refine ⟨8+(zGB.getD (x / 256) 0).toNat,by omega,fun _=>?_, ?_⟩
  ·have:=p2 (by omega);rw [Nat.pow_add,show (2:Nat) ^ 8=256 from rfl];omega
  ·refine (yZN (n1:=((8+(zGB.getD (x / 256) 0).toNat:Nat):Int)) (bLen64_rg (n1:=((x / 256:Nat):Int)) (z2:=((x / 256:Nat):Int)) (n3:=((zGB.getD (x / 256) 0).toNat:Int)) shrL (by rw [wrap8u];omega) (yYV h2) ⟨by congr 1,Nat.le_refl _⟩ (by omega) (by omega) (by omega) (by omega) (by omega)).pure ⟨rfl,Nat.le_refl _⟩).pure
theorem nextP_c {l:Nat} (h0:0<l) (hl:l<65536):∃ m:Nat,1<=m/\m<=2*l/\zD Pg 122 [iV (l:Int)] Z (.int .u64 (m:Int)) Z:=by
 obtain ⟨n,h1,h2,h3⟩:=yWN (Z:=Z.re) (x:=l) hl;exact ⟨2 ^ n,Nat.pow_pos (by omega),h2 h0,(nextP_ra (z1:=(l:Int)) (by rw [zWE];omega) h3 (shlP h1) ⟨rfl,Nat.le_refl _⟩).pure⟩
theorem xorN_c {r:Nat} {n:Int} (o:Own Z r [.int .u64 n] 1):∃ n' Z',zD Pg 123 [.pointer (some ⟨r,0,none⟩)] Z (.int .u64 n') Z'/\Only (·=r) Z Z'/\Own Z' r [.int .u64 n'] 1:=by
 obtain ⟨n2,b2⟩:=shlX (x:=n) (z:=13) (o1:=.tmp 8) (o2:=.const (.int .u64 13)) (by omega);obtain ⟨n3,b3⟩:=xorX (x:=n) (z:=n2) (o1:=.tmp 5) (o2:=.tmp 9);obtain ⟨n6,b6⟩:=shrX (x:=n3) (z:=7) (o1:=.tmp 17) (o2:=.const (.int .u64 7)) (by omega);obtain ⟨n7,b7⟩:=xorX (x:=n3) (z:=n6) (o1:=.tmp 14) (o2:=.tmp 18);obtain ⟨n10,b10⟩:=shlX (x:=n7) (z:=17) (o1:=.tmp 26) (o2:=.const (.int .u64 17)) (by omega);obtain ⟨n11,b11⟩:=xorX (x:=n7) (z:=n10) (o1:=.tmp 23) (o2:=.tmp 27);have o0:Own Z.re r [.int .u64 n] 1:=o.re;have s1:=o0.store (P:=Pg) (k:=0) (t:=166) (v:=.int .u64 n3) (vs:=[.int .u64 n3]) (ds:=[.int .u64 n3]) rfl zVL rfl (by simp) rfl;have o1:Own (Z.re.own r [.int .u64 n3] 1) r [.int .u64 n3] 1:=o0.put;have s2:=o1.store (P:=Pg) (k:=0) (t:=166) (v:=.int .u64 n7) (vs:=[.int .u64 n7]) (ds:=[.int .u64 n7]) rfl zVL rfl (by simp) rfl;have o2:Own ((Z.re.own r [.int .u64 n3] 1).own r [.int .u64 n7] 1) r [.int .u64 n7] 1:=o1.put;have s3:=o2.store (P:=Pg) (k:=0) (t:=166) (v:=.int .u64 n11) (vs:=[.int .u64 n11]) (ds:=[.int .u64 n11]) rfl zVL rfl (by simp) rfl;have o3:Own (((Z.re.own r [.int .u64 n3] 1).own r [.int .u64 n7] 1).own r [.int .u64 n11] 1) r [.int .u64 n11] 1:=o2.put;have hr:=o.lt;obtain ⟨v,Z',k1,k2,n',rfl,k3⟩:=zO.mut (P:=Pg) (f:=123) (args:=[.pointer (some ⟨r,0,none⟩)]) (Z:=Z) (S:=(·=r)) (Q:=fun v s=>∃ n',v=.int .u64 n'/\Own s r [.int .u64 n'] 1)
  (xorN_ra (o0.ld rfl yJC rfl) b2 b3 s1 (o1.ld rfl yJC rfl) b6 b7 s2 (o2.ld rfl yJC rfl) b10 b11 s3 (o3.ld rfl yJC rfl)
   ⟨(((Only.own (S:=(·=r)) (.inr rfl)).trans' (Only.own (S:=(·=r)) (.inr rfl)) (fun b _ h=>.inl h)).trans' (Only.own (S:=(·=r)) (.inr rfl)) (fun b _ h=>.inl h)),.inl (by simp [St.own];omega),n11,rfl,o3⟩)
  (by rintro v s m ⟨n',rfl,h⟩;exact ⟨n',rfl,h.low⟩)
 exact ⟨n',Z',k1,k2,k3⟩
theorem W.other {τ τ':St} {dk:Array Rec} {S:Nat->Prop} (w:W Z τ b s d dk) (hb:b<Z.next) (o:Only S τ τ') (hS:∀ x,S x->Z.next<=x) (hl:τ'.low<=τ.low):W Z τ' b s d dk:=by
 refine ⟨w.only.trans' o (fun x _ h=>.inr (hS x h)),w.dt.only o (fun h=>by have:=hS b h;omega), ?_⟩
 rcases w.low with h | h
 ·exact .inl (by omega)
 ·exact .inr h
theorem breakP_c {a B:Nat} (h:Dt Z b s d) (ha:a<=B) (hB:B<=d.size) (hn:d.size<=60000) (hv:xQ V d) :
  ∃ d',PermIn a B d d'/\xQ V d'/\uH 108 [.slice (some ⟨b,0,s⟩) d.size c,iV (a:Int),iV (B:Int),.func (.func g) ⟨[]⟩ ⟨gc⟩] (.tuple ⟨[]⟩) Z b s d d':=by
 suffices hmain:zO Pg 108 [.slice (some ⟨b,0,s⟩) d.size c,iV (a:Int),iV (B:Int),.func (.func g) ⟨[]⟩ ⟨gc⟩] Z.re fun v τ=>v=.tuple ⟨[]⟩/\∃ d',W Z τ b s d d'/\PermIn a B d d'/\xQ V d' by
  obtain ⟨v,τ,hN,e,d',w,r1,r2⟩:=hmain
  exact ⟨d',r1,r2,uH.of h ⟨v,τ,hN,e,w⟩⟩
 by_cases h8:B-a<8
 ·exact breakP_rb ⟨rfl,d,W.start h,Go.Sort.permIn_refl _ _ _,hv⟩ (by omega) (by omega)
 obtain ⟨l,hl⟩:∃ l,l=B-a:=⟨_,rfl⟩;have el:(B:Int)-(a:Int)=(l:Int):=by omega
 have e4:Int.tdiv (l:Int) 4=((l / 4:Nat):Int):=by rw [Int.tdiv_eq_ediv_of_nonneg (by omega)];omega
 have w4:IntKind.wrap .i64 (Int.tdiv (l:Int) 4)=Int.tdiv (l:Int) 4:=by rw [<- vT,e4,zWF (by omega) (by omega)]
 have ez:zAF .u64 ((B:Int)-(a:Int))=(l:Int):=by rw [el,zWE];omega
 have hbn:=h.1;obtain ⟨m,hm1,hm2,km⟩:=nextP_c (Z:=(Z.re.row [.int .u64 0] 1).own Z.re.next [.int .u64 (l:Int)] 1) (l:=l) (by omega) (by omega);have o1:Own ((Z.re.row [.int .u64 0] 1).own Z.re.next [.int .u64 (l:Int)] 1) Z.next [.int .u64 (l:Int)] 1:=(zC _ _ _).put;have O1:Only (·=Z.next) Z.re ((Z.re.row [.int .u64 0] 1).own Z.re.next [.int .u64 (l:Int)] 1):=(Only.row (S:=(·=Z.next)) _ _ _).trans' (Only.own (S:=(·=Z.next)) (.inr rfl)) (fun b _ h=>.inl h);have w1:W Z ((Z.re.row [.int .u64 0] 1).own Z.re.next [.int .u64 (l:Int)] 1) b s d d:=(W.start h).other hbn O1 (fun x hx=>by omega) (by simp [St.own]);refine breakP_ra ez (by rw [el];exact km) (by rw [el];exact w4) (P0:=fun τ=>∃ d',W Z τ b s d d'/\PermIn a B d d'/\xQ V d')
  (by
   rw [el];refine yIX (Inv:=fun k i τ=>∃ (p:Nat) (dk:Array Rec) (n:Int),i=p/\p+k=a+l / 4*2+2/\a<=p/\W Z τ b s d dk/\PermIn a B d dk/\xQ V dk/\Own τ Z.next [.int .u64 n] 1) ?_ 3 _ _ ⟨a+l / 4*2-1,d,_,by rw [e4];omega,by omega,by omega,w1,Go.Sort.permIn_refl _ _ _,hv,o1⟩;rintro k i τ ⟨p,dk,n,rfl,hk,hap,w,hperm,hall,o⟩;have hsz:dk.size=d.size:=hperm.1;by_cases hp:p<=a+l / 4*2+1;rotate_left
   ·exact yWE w4 ⟨dk,w,hperm,hall⟩ (by rw [e4];omega) (by rw [e4];omega) (by rw [e4];omega) (by rw [e4];omega)
   obtain ⟨n',τ',kx,ox,oo⟩:=xorN_c o;have w2:=w.other hbn ox (fun x hx=>by omega) (zET kx);obtain ⟨y,by1,by2⟩:=andX (x:=n') (m:=m-1) (o1:=.tmp 38) (o2:=.tmp 40) (by omega);have em:zAF .u64 (Int.sub (m:Int) 1)=((m-1:Nat):Int):=by
    rw [show Int.sub (m:Int) 1=(m:Int)-1 from rfl,zWE];omega
   have key:∀ (q:Nat) (j:Int),j=(q:Int)->a<=q->q<B->∃ τ1 τ2,zQ Pg (evL [.pointer (some (zM ⟨b,0,s⟩ (Int.toNat (p:Int)*3))),zFA dk[q]!]) τ' (.store 45 (.tmp 0) (.tmp 1))=some (undef,τ1) /\
     zQ Pg (evL [.pointer (some (zM ⟨b,0,s⟩ (Int.toNat j*3))),zFA dk[p]!]) τ1 (.store 45 (.tmp 0) (.tmp 1))=some (undef,τ2) /\
     ∃ k',k' < k/\∃ (p':Nat) (dk':Array Rec) (n:Int),(p:Int)+1=p'/\p'+k'=a+l / 4*2+2/\a<=p'/\W Z τ2 b s d dk'/\PermIn a B d dk'/\xQ V dk'/\Own τ2 Z.next [.int .u64 n] 1:=by
    intro q j hj h1 h2
    obtain ⟨τ1,e1,d1,q1,l1⟩:=w2.dt.st (i:=(p:Int)) dk[q]! (by omega) (by omega)
    obtain ⟨τ2,e2,d2,q2,l2⟩:=d1.st (i:=j) dk[p]! (by omega) (by rw [Array.size_setIfInBounds];omega)
    have es:(dk.setIfInBounds (p:Int).toNat dk[q]!).setIfInBounds j.toNat dk[p]! = swp dk p q:=by rw [hj,Int.toNat_natCast,Int.toNat_natCast];rfl
    rw [es] at d2
    exact ⟨τ1,τ2,e1,e2,k-1,by omega,p+1,swp dk p q,n',by omega,by omega,by omega,⟨(w2.only.trans' q1 (fun b _ h=>.inl h)).trans' q2 (fun b _ h=>.inl h),d2,.inl l2⟩,
     Go.Sort.permIn_trans _ _ _ a B hperm (Go.Sort.swp_permIn dk a B p q (by omega) (by omega) h1 h2 (by omega)),hall.swp (by omega) (by omega),q2.own' (q1.own' oo (fun e=>by omega)) (fun e=>by omega)⟩
   have lp:=w2.dt.ldN (i:=(p:Int)) (k:=p) rfl (by omega);by_cases hy:l<=y
   ·obtain ⟨τ1,τ2,e1,e2,hk'⟩:=key (a+(y-l)) ((a:Int)+((y:Int)-(l:Int))) (by omega) (by omega) (by omega);have lq:=w2.dt.ldN (i:=(a:Int)+((y:Int)-(l:Int))) (k:=a+(y-l)) (by omega) (by omega);exact yWG w4 kx em by1 lq lp e1 e2 hk' (by rw [e4];omega) (by rw [e4];omega) (by rw [e4];omega) (by rw [e4];omega) (by omega) (by omega) (by omega) (by omega) (by omega) (by omega)
   ·obtain ⟨τ1,τ2,e1,e2,hk'⟩:=key (a+y) ((a:Int)+(y:Int)) (by omega) (by omega) (by omega);have lq:=w2.dt.ldN (i:=(a:Int)+(y:Int)) (k:=a+y) (by omega) (by omega);exact yWF w4 kx em by1 lq lp e1 e2 hk' (by rw [e4];omega) (by rw [e4];omega) (by rw [e4];omega) (by rw [e4];omega) (by omega) (by omega) (by omega) (by omega) (by omega))
  (fun τ hw=>yIW ⟨rfl,hw⟩) (by omega) (by omega) (by rw [el,e4];omega) (by rw [el,e4];omega) (by rw [el,e4];omega)
end
end Go.Proofs.YtgfiniccfpfplaaGreat
