import Derived.Test.YtgfiniccfpfplaaGreatSB
import Derived.Test.YtgfiniccfpfplaaGreatOk
import Derived.Test.YtgfiniccfpfplaaGreatLayC

namespace Go.Proofs.YtgfiniccfpfplaaGreat
open Go Go.Lay
open Tryz renaming prog -> Pg
set_option linter.unusedVariables false
set_option maxRecDepth 20000
section
variable {Z:St}
theorem zBH {n:Nat} {cs:List Value} (h:WT Pg Z (n+1) 3 cs):∃ i,cs=[yB i]:=by
 unfold WT at h;simp only [Tryz.underlying3] at h;obtain ⟨i,h,_⟩:=h;exact ⟨i,h⟩
theorem zWD {n:Nat} {t e:TypeId} {cs:List Value} {k:Nat} (hu:Pg.underlying t=some (.slice e)) (hk:Pg.cellsOf e=k) (h:WT Pg Z (n+1) t cs) :
  ∃ p len cap rs,cs=[.slice p len cap]/\len<=maxLen/\SlP Z k p len rs/\rs.length=len*k/\∀ i,i<len->WT Pg Z n e ((rs.drop (i*k)).take k):=by
 unfold WT at h;simp only [hu,hk] at h;rcases h with rfl | ⟨b,len,cap,rs,rfl,h1,h2,h3,h4,h5,h6⟩
 ·exact ⟨none,0,0,[],rfl,by decide,SlP.nil _ _,by simp,fun i hi=>by omega⟩
 ·refine ⟨_,len,cap,rs,rfl,h1,⟨h3, ?_,h5⟩,h3,h6⟩
  simp only [yO,h4,yD,wT,Nat.zero_add,List.drop_zero,List.take_length];show (bif Nat.ble rs.length rs.length then some rs else none)=some rs;rw [show Nat.ble rs.length rs.length=true from by simp];rfl
theorem yHC {α:Type} {k:Nat} {Q:List Value->Prop} {f:α->List Value} (hq:∀ cs,Q cs->∃ x,cs=f x):∀ (len:Nat) (rs:List Value),rs.length=len*k->(∀ i,i<len->Q ((rs.drop (i*k)).take k))->∃ xs:List α,xs.length=len/\rs=xs.flatMap f
 | 0,rs,hl,_=>⟨[],rfl,by simpa using hl⟩
 | len+1,rs,hl,h=>by
  obtain ⟨x,hx⟩:=hq _ (h 0 (by omega));obtain ⟨xs,h1,h2⟩:=yHC (k:=k) hq len (rs.drop k) (by simp [hl,Nat.add_mul]) (fun i hi=>by
   have:=h (i+1) (by omega);rwa [Nat.add_mul,Nat.one_mul,Nat.add_comm (i*k),<- List.drop_drop] at this)
  refine ⟨x::xs,by simp [h1], ?_⟩
  simp only [List.flatMap_cons,<- h2,<- hx];simp
theorem yEW {α:Type} (f:α->List Value) (xs:List α):vA (xs.map fun x=>.agg ⟨f x⟩)=xs.flatMap f:=by
 induction xs with
 | nil=>rfl
 | cons x xs ih=>rw [List.map_cons,List.flatMap_cons,<- ih];simp [vA,Value.cells]
theorem flat_one (xs:List Int):vA (xs.map yB)=xs.flatMap fun x=>[yB x]:=by
 induction xs with
 | nil=>rfl
 | cons x xs ih=>rw [List.map_cons,List.flatMap_cons,<- ih];rfl
theorem yQA {n:Nat} {t e:TypeId} {p:Option Addr} {l c k:Nat} (hu:Pg.underlying t=some (.slice e)) (hk:Pg.cellsOf e=k) (h:WT Pg Z (n+1) t [.slice p l c]):zTA Z k p l c:=by
 unfold WT at h;simp only [hu,hk] at h;rcases h with h | ⟨b,len,cap,rs,h1,h2,h3,h4,h5,h6,h7⟩
 ·obtain ⟨rfl,rfl,rfl⟩:p=none/\l=0/\c=0:=by simpa using h
  exact .inl ⟨rfl,rfl,rfl⟩
 ·obtain ⟨rfl,rfl,rfl⟩:p=some ⟨b,0,none⟩/\l=len/\c=cap:=by simpa using h1
  exact .inr ⟨b,rs,1,true,rfl,by rw [<- zSP h3.2];exact h3.1,h3.2,h5,h4,h6⟩
theorem zVI {n:Nat} {cs:List Value} (h:WT Pg Z (n+2) 26 cs):∃ p l c xs,cs=[.slice p l c]/\yG Z p l xs/\zTA Z 1 p l c:=by
 obtain ⟨p,l,c,rs,e1,_,s1,l1,w1⟩:=zWD Tryz.underlying26 (k:=1) (by kernel_rfl) h;subst e1;have ha:=yQA Tryz.underlying26 (k:=1) (by kernel_rfl) h;obtain ⟨xs,n1,rfl⟩:=yHC (f:=fun x:Int=>[yB x]) (fun cs h=>zBH h) l rs l1 w1;refine ⟨p,l,c,xs,rfl,⟨by rw [flat_one];exact s1,by simpa using n1,fun v hv=>?_⟩,ha⟩
 obtain ⟨x,_,rfl⟩:=List.mem_map.1 hv;exact zAX x
theorem wt_dty {n:Nat} {cs:List Value} (h:WT Pg Z (n+3) 92 cs):∃ x:Dty,cs=zF x.day x.on x.lo x.hi x.route:=by
 unfold WT at h;simp only [Tryz.underlying92] at h;obtain ⟨hl,h⟩:=h;have hl:cs.length=5:=hl.trans (by kernel_rfl);obtain ⟨c1,c2,c3,c4,c5,rfl⟩:∃ c1 c2 c3 c4 c5,cs=[c1,c2,c3,c4,c5]:=by
  match cs,hl with
  | [c1,c2,c3,c4,c5],_=>exact ⟨_,_,_,_,_,rfl⟩
 have k3:Pg.cellsOf 3=1:=by kernel_rfl
 have k90:Pg.cellsOf 90=2:=by kernel_rfl
 simp only [List.mem_cons,List.not_mem_nil,or_false,forall_eq_or_imp,forall_eq,k3,k90] at h;obtain ⟨⟨_,h1⟩,⟨_,h2⟩,⟨_,h3⟩,⟨_,h5⟩⟩:=h;obtain ⟨x1,h1⟩:=zBH h1;obtain ⟨x2,h2⟩:=zBH h2;obtain ⟨x5,h5⟩:=zBH h5;unfold WT at h3;simp only [Tryz.underlying90] at h3;obtain ⟨_,h3⟩:=h3;simp only [List.mem_cons,List.not_mem_nil,or_false,forall_eq_or_imp,forall_eq,k3] at h3;obtain ⟨⟨_,h3⟩,⟨_,h4⟩⟩:=h3;obtain ⟨x3,h3⟩:=zBH h3;obtain ⟨x4,h4⟩:=zBH h4;obtain rfl:c1=yB x1:=by simpa using h1
 obtain rfl:c2=yB x2:=by simpa using h2
 obtain rfl:c3=yB x3:=by simpa using h3
 obtain rfl:c4=yB x4:=by simpa using h4
 obtain rfl:c5=yB x5:=by simpa using h5
 exact ⟨⟨x1,x2,x3,x4,x5⟩,rfl⟩
theorem wt_dtys {n:Nat} {cs:List Value} (h:WT Pg Z (n+4) 22 cs):∃ p l c xs,cs=[.slice p l c]/\yAR Z 92 p l xs/\zTA Z 5 p l c:=by
 obtain ⟨p,l,c,rs,e1,_,s1,l1,w1⟩:=zWD Tryz.underlying22 (k:=5) (by kernel_rfl) h;subst e1;have ha:=yQA Tryz.underlying22 (k:=5) (by kernel_rfl) h;obtain ⟨xs,n1,rfl⟩:=yHC (f:=fun x:Dty=>zF x.day x.on x.lo x.hi x.route) (fun cs h=>wt_dty h) l rs l1 w1;refine ⟨p,l,c,xs,rfl,⟨?_,by simpa using n1,fun v hv=>?_⟩,ha⟩
 ·rw [yEW fun x:Dty=>zF x.day x.on x.lo x.hi x.route];exact s1
 ·obtain ⟨x,_,rfl⟩:=List.mem_map.1 hv;exact .inr ⟨agg92,zKB,_,rfl,rfl⟩
def DrvA (Z:St) (v:Value) (x:Drv):Prop:=∃ p l c q m d r n e,v=.agg ⟨zL p l c q m d r n e x.off x.row x.used⟩/\(yG Z p l x.knows/\zTA Z 1 p l c)/\(yG Z q m x.leave/\zTA Z 1 q m d)/\yG Z r n x.wish
theorem DrvA.v {v:Value} {x:Drv} (h:DrvA Z v x):zVG Z v x:=by
 obtain ⟨p,l,c,q,m,d,r,n,e,h1,h2,h3,h4⟩:=h;exact ⟨p,l,c,q,m,d,r,n,e,h1,h2.1,h3.1,h4⟩
theorem wt_drv {n:Nat} {cs:List Value} (h:WT Pg Z (n+3) 76 cs):∃ (x:Drv) (p q r:Option Addr) (l c m d j e:Nat),cs=zL p l c q m d r j e x.off x.row x.used/\(yG Z p l x.knows/\zTA Z 1 p l c)/\(yG Z q m x.leave/\zTA Z 1 q m d)/\yG Z r j x.wish:=by
 unfold WT at h;simp only [Tryz.underlying76] at h;obtain ⟨hl,h⟩:=h;have hl:cs.length=6:=hl.trans (by kernel_rfl);obtain ⟨c1,c2,c3,c4,c5,c6,rfl⟩:∃ c1 c2 c3 c4 c5 c6,cs=[c1,c2,c3,c4,c5,c6]:=by
  match cs,hl with
  | [c1,c2,c3,c4,c5,c6],_=>exact ⟨_,_,_,_,_,_,rfl⟩
 have k3:Pg.cellsOf 3=1:=by kernel_rfl
 have k26:Pg.cellsOf 26=1:=by kernel_rfl
 simp only [List.mem_cons,List.not_mem_nil,or_false,forall_eq_or_imp,forall_eq,k3,k26] at h;obtain ⟨⟨_,h1⟩,⟨_,h2⟩,⟨_,h3⟩,⟨_,h4⟩,⟨_,h5⟩,⟨_,h6⟩⟩:=h;obtain ⟨p1,l1,e1,x1,h1,i1,a1⟩:=zVI h1;obtain ⟨p2,l2,e2,x2,h2,i2,a2⟩:=zVI h2;obtain ⟨p3,l3,e3,x3,h3,i3,_⟩:=zVI h3;obtain ⟨x4,h4⟩:=zBH h4;obtain ⟨x5,h5⟩:=zBH h5;obtain ⟨x6,h6⟩:=zBH h6;obtain rfl:c1=.slice p1 l1 e1:=by simpa using h1
 obtain rfl:c2=.slice p2 l2 e2:=by simpa using h2
 obtain rfl:c3=.slice p3 l3 e3:=by simpa using h3
 obtain rfl:c4=yB x4:=by simpa using h4
 obtain rfl:c5=yB x5:=by simpa using h5
 obtain rfl:c6=yB x6:=by simpa using h6
 exact ⟨⟨x1,x2,x3,x4,x5,x6⟩,p1,p2,p3,l1,e1,l2,e2,l3,e3,rfl,⟨i1,a1⟩,⟨i2,a2⟩,i3⟩
structure DrvsA (Z:St) (p:Option Addr) (l c:Nat) (xs:List Drv):Prop where
 vs:∃ vs:List Value,SlV Pg Z 76 6 p l vs/\xs.length=l/\∀ (i:Nat) (x:Drv),xs[i]?=some x->∃ v,vs[i]?=some v/\DrvA Z v x
 arg:zTA Z 6 p l c
theorem DrvsA.p {p:Option Addr} {l c:Nat} {xs:List Drv} (h:DrvsA Z p l c xs):zUY Z 76 p l xs:=by
 obtain ⟨vs,h1,h2,h3⟩:=h.vs;exact ⟨vs,h1,h2,fun i x hx=>by obtain ⟨v,g1,g2⟩:=h3 i x hx;exact ⟨v,g1,g2.v⟩⟩
theorem wt_drvs {n:Nat} {cs:List Value} (h:WT Pg Z (n+4) 23 cs):∃ p l c xs,cs=[.slice p l c]/\DrvsA Z p l c xs:=by
 obtain ⟨p,l,c,rs,e1,_,s1,l1,w1⟩:=zWD Tryz.underlying23 (k:=6) (by kernel_rfl) h;subst e1;have ha:=yQA Tryz.underlying23 (k:=6) (by kernel_rfl) h;obtain ⟨xs,n1,rfl⟩:=yHC (f:=fun x:{x:List Value × Drv // ∃ p q r l c m d j e,x.1=zL p l c q m d r j e x.2.off x.2.row x.2.used/\(yG Z p l x.2.knows/\zTA Z 1 p l c)/\(yG Z q m x.2.leave/\zTA Z 1 q m d)/\yG Z r j x.2.wish}=>x.1.1) (fun cs h=>by
  obtain ⟨x,p,q,r,l,c,m,d,j,e,h1,h2⟩:=wt_drv h;exact ⟨⟨⟨cs,x⟩,p,q,r,l,c,m,d,j,e,h1,h2⟩,rfl⟩) l rs l1 w1
 refine ⟨p,l,c,xs.map fun x=>x.1.2,rfl,⟨⟨xs.map fun x=>.agg ⟨x.1.1⟩,⟨?_,by simpa using n1,fun v hv=>?_⟩,by simpa using n1,fun i x hx=>?_⟩,ha⟩⟩
 ·have:vA (xs.map fun x=>Value.agg ⟨x.1.1⟩)=xs.flatMap fun x=>x.1.1:=yEW (fun x:{x:List Value × Drv // ∃ p q r l c m d j e,x.1=zL p l c q m d r j e x.2.off x.2.row x.2.used/\(yG Z p l x.2.knows/\zTA Z 1 p l c)/\(yG Z q m x.2.leave/\zTA Z 1 q m d)/\yG Z r j x.2.wish}=>x.1.1) xs
  rw [this];exact s1
 ·obtain ⟨x,_,rfl⟩:=List.mem_map.1 hv;obtain ⟨p,q,r,l,c,m,d,j,e,h1,_⟩:=x.2;exact .inr ⟨agg76,uY,_,rfl,by rw [h1];rfl⟩
 ·rw [List.getElem?_map] at hx;cases hy:xs[i]? with
  | none=>rw [hy] at hx;cases hx
  | some y =>
   rw [hy] at hx;obtain rfl:y.1.2=x:=by simpa using hx
   obtain ⟨p,q,r,l,c,m,d,j,e,h1,h2⟩:=y.2;exact ⟨.agg ⟨y.1.1⟩,by rw [List.getElem?_map,hy];rfl,p,l,c,q,m,d,r,j,e,by rw [h1],h2⟩
theorem wt_week {n:Nat} {cs:List Value} (h:WT Pg Z (n+5) 25 cs):∃ (w:Wk) (p q:Option Addr) (l c m d:Nat),cs=wkc w.days p l c q m d w.rest w.run w.hours/\WkP Z 92 76 w p l q m/\zTA Z 5 p l c/\DrvsA Z q m d w.drivers:=by
 unfold WT at h;simp only [Tryz.underlying25] at h;obtain ⟨hl,h⟩:=h;have hl:cs.length=6:=hl.trans (by kernel_rfl);obtain ⟨c1,c2,c3,c4,c5,c6,rfl⟩:∃ c1 c2 c3 c4 c5 c6,cs=[c1,c2,c3,c4,c5,c6]:=by
  match cs,hl with
  | [c1,c2,c3,c4,c5,c6],_=>exact ⟨_,_,_,_,_,_,rfl⟩
 have k3:Pg.cellsOf 3=1:=by kernel_rfl
 have k22:Pg.cellsOf 22=1:=by kernel_rfl
 have k23:Pg.cellsOf 23=1:=by kernel_rfl
 simp only [List.mem_cons,List.not_mem_nil,or_false,forall_eq_or_imp,forall_eq,k3,k22,k23] at h;obtain ⟨⟨_,h1⟩,⟨_,h2⟩,⟨_,h3⟩,⟨_,h4⟩,⟨_,h5⟩,⟨_,h6⟩⟩:=h;obtain ⟨x1,h1⟩:=zBH h1;obtain ⟨p,l,c,xs,h2,i2,a2⟩:=wt_dtys h2;obtain ⟨q,m,d,ys,h3,i3⟩:=wt_drvs h3;obtain ⟨x4,h4⟩:=zBH h4;obtain ⟨x5,h5⟩:=zBH h5;obtain ⟨x6,h6⟩:=zBH h6;obtain rfl:c1=yB x1:=by simpa using h1
 obtain rfl:c2=.slice p l c:=by simpa using h2
 obtain rfl:c3=.slice q m d:=by simpa using h3
 obtain rfl:c4=yB x4:=by simpa using h4
 obtain rfl:c5=yB x5:=by simpa using h5
 obtain rfl:c6=yB x6:=by simpa using h6
 exact ⟨⟨x1,xs,ys,x4,x5,x6⟩,p,q,l,c,m,d,rfl,⟨i2,i3.p⟩,a2,i3⟩
theorem not_agg {U:Inj} {av v:Value} (h:VR U av v) (hv:∀ cs,v≠.agg cs):∀ cs,av≠.agg cs:=by
 rintro cs rfl;cases h with
 | atom h=>simp [uF] at h
 | agg _ _=>exact hv _ rfl
theorem sl_not {W:World} {t e:TypeId} {v:Value} (hu:Pg.underlying t=some (.slice e)) (h:Value.okWide Pg W .any 0 t v):∀ cs,v≠.agg cs:=by
 rintro cs rfl;unfold Value.okWide at h;rw [hu] at h;simp [Cell.okWide,Cell.ok,hu] at h
theorem yOZ {v:Value} {p:Option Addr} {l c:Nat} (h:v.cells.toList=[.slice p l c]) (hn:∀ cs,v≠.agg cs):v=.slice p l c:=by
 cases v with
 | agg cs=>exact absurd rfl (hn cs)
 | _=>first | (simp [Value.cells] at h;done) | simpa [Value.cells] using h
end
end Go.Proofs.YtgfiniccfpfplaaGreat

namespace Go.Proofs.YtgfiniccfpfplaaGreat.Aw
open Go Go.Lay
set_option maxRecDepth 100000
def b1:Blk:=.cells [.int .i64 0,.int .i64 300,.int .i64 700,.int .i64 720,.int .i64 1,.int .i64 0,.int .i64 900,.int .i64 1300,.int .i64 1340,.int .i64 2,.int .i64 1,.int .i64 400,.int .i64 800,.int .i64 800,.int .i64 1,.int .i64 2,.int .i64 500,.int .i64 900,.int .i64 910,.int .i64 1] 5 [(0,20)] 1 false
def b2:Blk:=.cells [.int .i64 1,.int .i64 2] 1 [(0,2)] 1 false
def b3:Blk:=.cells [.int .i64 1] 1 [(0,1)] 1 false
def b4:Blk:=.cells [.int .i64 0] 1 [(0,1)] 1 false
def b5:Blk:=.cells [.int .i64 2] 1 [(0,1)] 1 false
def b6:Blk:=.cells [.slice (some ⟨2,0,none⟩) 2 2,.slice none 0 0,.slice (some ⟨3,0,none⟩) 1 1,.int .i64 (-700),.int .i64 0,.int .i64 0,.slice (some ⟨4,0,none⟩) 1 1,.slice (some ⟨5,0,none⟩) 1 1,.slice (some ⟨6,0,none⟩) 1 1,.int .i64 (-5000),.int .i64 0,.int .i64 0,.slice (some ⟨7,0,none⟩) 2 2,.slice none 0 0,.slice none 0 0,.int .i64 (-200),.int .i64 0,.int .i64 0] 6 [(0,18)] 1 false
def b7:Blk:=.cells [.int .i64 0,.int .i64 0,.int .i64 1,.int .i64 1] 1 [(0,4)] 1 false
def b8:Blk:=.cells [.int .i64 720,.int .i64 1340,.int .i64 800,.int .i64 910] 1 [(0,4)] 1 false
def b9:Blk:=.cells [.int .u8 2,.int .i64 0,.int .i64 1] 3 [(0,3)] 1 false
def b10:Blk:=.cells [.slice (some ⟨73,0,none⟩) 2 2,.slice none 0 0,.slice (some ⟨74,0,none⟩) 1 1,.int .i64 (-700),.int .i64 0,.int .i64 0,.slice (some ⟨75,0,none⟩) 1 1,.slice (some ⟨76,0,none⟩) 1 1,.slice (some ⟨77,0,none⟩) 1 1,.int .i64 (-5000),.int .i64 0,.int .i64 0,.slice (some ⟨78,0,none⟩) 2 2,.slice none 0 0,.slice none 0 0,.int .i64 (-200),.int .i64 0,.int .i64 0] 6 [(0,18)] 1 false
def b11:Blk:=.cells [.int .i64 0,.int .i64 2,.int .i64 1,.int .i64 0] 1 [(0,4)] 1 false
def b12:Blk:=.cells [.int .i64 1,.int .i64 1,.int .i64 0] 1 [(0,3)] 1 false
def b13:Blk:=.cells [.slice (some ⟨286,0,none⟩) 2 2,.slice none 0 0,.slice (some ⟨287,0,none⟩) 1 1,.int .i64 (-700),.int .i64 0,.int .i64 0,.slice (some ⟨288,0,none⟩) 1 1,.slice (some ⟨289,0,none⟩) 1 1,.slice (some ⟨290,0,none⟩) 1 1,.int .i64 (-5000),.int .i64 0,.int .i64 0,.slice (some ⟨291,0,none⟩) 2 2,.slice none 0 0,.slice none 0 0,.int .i64 (-200),.int .i64 0,.int .i64 0] 6 [(0,18)] 1 false
def b14:Blk:=.cells [.int .i64 0,.int .i64 1,.int .i64 2] 1 [(2,3),(1,2),(0,1)] 3 false
def b15:Blk:=.cells [.int .i64 0,.int .i64 1,.int .i64 2] 1 [(0,3)] 1 false
def s0:St:=⟨.leaf,0,0⟩
def s1:St:=⟨(ins .leaf [(1,b1),(2,b2),(3,b3),(4,b3),(5,b4),(6,b5),(7,b2),(8,b6)]),9,0⟩
def s2:St:=⟨(ins s1.heap [(9,b7)]),10,10⟩
def s3:St:=⟨(ins s2.heap [(10,b8)]),11,10⟩
def s4:St:=⟨s3.heap,11,11⟩
def s5:St:=⟨(ins s3.heap [(36,b9)]),71,11⟩
def s6:St:=⟨s5.heap,71,71⟩
def s7:St:=⟨(ins s5.heap [(72,b1),(73,b2),(74,b3),(75,b3),(76,b4),(77,b5),(78,b2),(79,b10)]),80,71⟩
def s8:St:=⟨s7.heap,80,80⟩
def s9:St:=⟨(ins s7.heap [(243,b11),(283,b12)]),284,80⟩
def s10:St:=⟨s9.heap,284,284⟩
def s11:St:=⟨(ins s9.heap [(285,b1),(286,b2),(287,b3),(288,b3),(289,b4),(290,b5),(291,b2),(292,b13)]),293,284⟩
def s12:St:=⟨(ins s11.heap [(293,b11)]),294,294⟩
def s13:St:=⟨(ins s12.heap [(298,b14)]),305,294⟩
def s14:St:=⟨(ins .leaf [(283,b12),(305,b12)]),306,306⟩
def s15:St:=⟨(ins .leaf [(298,b14),(306,b15)]),307,307⟩
end Go.Proofs.YtgfiniccfpfplaaGreat.Aw

namespace Go.Proofs.YtgfiniccfpfplaaGreat.Aw
open Go Go.Lay
set_option maxRecDepth 100000
def e1:Ent:=⟨false,45,[],s0,.agg ⟨[.int .i64 3,.slice (some ⟨1,0,none⟩) 4 4,.slice (some ⟨8,0,none⟩) 3 3,.int .i64 600,.int .i64 2,.int .i64 1200]⟩,s1⟩
def e2:Ent:=⟨false,46,[],s2,.slice (some ⟨10,0,none⟩) 4 4,s3⟩
def e3:Ent:=⟨false,18,[.agg ⟨[.int .i64 3,.slice (some ⟨1,0,none⟩) 4 4,.slice (some ⟨8,0,none⟩) 3 3,.int .i64 600,.int .i64 2,.int .i64 1200]⟩,.slice (some ⟨9,0,none⟩) 4 4,.slice (some ⟨10,0,none⟩) 4 4],s4,.tuple ⟨[.slice (some ⟨36,0,none⟩) 1 9223372036854775809,.int .i64 0]⟩,s5⟩
def e4:Ent:=⟨false,45,[],s6,.agg ⟨[.int .i64 3,.slice (some ⟨72,0,none⟩) 4 4,.slice (some ⟨79,0,none⟩) 3 3,.int .i64 600,.int .i64 2,.int .i64 1200]⟩,s7⟩
def e5:Ent:=⟨false,25,[.agg ⟨[.int .i64 3,.slice (some ⟨72,0,none⟩) 4 4,.slice (some ⟨79,0,none⟩) 3 3,.int .i64 600,.int .i64 2,.int .i64 1200]⟩],s8,.tuple ⟨[.slice (some ⟨243,0,none⟩) 4 4,.slice (some ⟨283,0,none⟩) 3 9223372036854775811,.int .i64 0]⟩,s9⟩
def e6:Ent:=⟨false,45,[],s10,.agg ⟨[.int .i64 3,.slice (some ⟨285,0,none⟩) 4 4,.slice (some ⟨292,0,none⟩) 3 3,.int .i64 600,.int .i64 2,.int .i64 1200]⟩,s11⟩
def e7:Ent:=⟨false,32,[.agg ⟨[.int .i64 3,.slice (some ⟨285,0,none⟩) 4 4,.slice (some ⟨292,0,none⟩) 3 3,.int .i64 600,.int .i64 2,.int .i64 1200]⟩,.slice (some ⟨293,0,none⟩) 4 4,.int .i64 3],s12,.tuple ⟨[.slice (some ⟨298,0,some 2⟩) 3 9223372036854775811,.int .i64 0]⟩,s13⟩
def e8:Ent:=⟨true,30,[.slice (some ⟨283,0,none⟩) 3 9223372036854775811,.slice (some ⟨305,0,none⟩) 3 3],s14,.bool true,s14⟩
def e9:Ent:=⟨true,30,[.slice (some ⟨298,0,some 2⟩) 3 9223372036854775811,.slice (some ⟨306,0,none⟩) 3 3],s15,.bool true,s15⟩
def tbl1:List Ent:=[e1,e2,e3,e4,e5,e6,e7,e8,e9]
end Go.Proofs.YtgfiniccfpfplaaGreat.Aw

namespace Go.Proofs.YtgfiniccfpfplaaGreat.Aw
open Go Go.Lay
set_option maxRecDepth 100000
theorem e1_ok:zBZ Tryz.prog e1:=zEQ zAV zCA 100000 (by kernel_rfl)
theorem e2_ok:zBZ Tryz.prog e2:=zEQ zAV zCA 100000 (by kernel_rfl)
theorem e3_ok:zBZ Tryz.prog e3:=zEQ zAV zCA 100000 (by kernel_rfl)
theorem e4_ok:zBZ Tryz.prog e4:=zEQ zAV zCA 100000 (by kernel_rfl)
end Go.Proofs.YtgfiniccfpfplaaGreat.Aw

namespace Go.Proofs.YtgfiniccfpfplaaGreat.Aw
open Go Go.Lay
set_option maxRecDepth 100000
theorem e5_ok:zBZ Tryz.prog e5:=zEQ zAV zCA 100000 (by kernel_rfl)
end Go.Proofs.YtgfiniccfpfplaaGreat.Aw

namespace Go.Proofs.YtgfiniccfpfplaaGreat.Aw
open Go Go.Lay
set_option maxRecDepth 100000
theorem e6_ok:zBZ Tryz.prog e6:=zEQ zAV zCA 100000 (by kernel_rfl)
theorem e7_ok:zBZ Tryz.prog e7:=zEQ zAV zCA 100000 (by kernel_rfl)
theorem e8_ok:zBZ Tryz.prog e8:=yOE zAV zCA 100000 (by kernel_rfl)
theorem e9_ok:zBZ Tryz.prog e9:=yOE zAV zCA 100000 (by kernel_rfl)
theorem tbl1_ok:zLO Tryz.prog tbl1:=zAS e1_ok (zAS e2_ok (zAS e3_ok (zAS e4_ok (zAS e5_ok (zAS e6_ok (zAS e7_ok (zAS e8_ok (zAS e9_ok (zCA)))))))))
theorem shut:ShutF Tryz.prog 15:=closed_of zAV tbl1_ok (N:=100000) (by kernel_rfl)
end Go.Proofs.YtgfiniccfpfplaaGreat.Aw
