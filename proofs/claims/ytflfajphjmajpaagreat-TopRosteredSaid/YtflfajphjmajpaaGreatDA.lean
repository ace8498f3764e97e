import Derived.Test.YtflfajphjmajpaaGreatFJ
set_option maxRecDepth 20000
namespace Go.Proofs.YtflfajphjmajpaaGreat
open Go Go.Lay
variable{n t m te:Nat}{cs:List Value}{e:TypeId}{U:Type}{v:Value}
section
variable{E:St}
theorem vD(h:WT Tryz.prog E (n+1) 3 cs):∃i,cs=[yK i]:=by
 unfold WT at h;simp only[Tryz.underlying3]at h;obtain⟨i,h,_⟩:=h;exact⟨i,h⟩
theorem zNI{t:TypeId}{k:Nat}(hu:Tryz.prog.underlying t=some (.slice e))(hk:Tryz.prog.cellsOf e=k)(h:WT Tryz.prog E (n+1) t cs) :
  ∃p len cap rs,cs=[.slice p len cap]/\len<=maxLen/\SlP E k p len rs/\rs.length=len*k/\∀i,i<len->WT Tryz.prog E n e ((rs.drop (i*k)).take k):=by
 unfold WT at h;simp only[hu,hk]at h;rcases h with rfl|⟨b,len,cap,rs,rfl,h1,h2,h3,h4,h5,h6⟩
 .exact⟨none,0,0,[],rfl,by decide,SlP.nil _ _,by simp,λi hi=>by omega⟩
 .refine⟨_,len,cap,rs,rfl,h1,⟨h3, ?_,h5⟩,h3,h6⟩
  simp only[xG,h4,yO,vP,Nat.zero_add,List.drop_zero,List.take_length];show(bif Nat.ble rs.length rs.length then some rs else none)=some rs;rw[show Nat.ble rs.length rs.length=true from by simp];rfl
theorem zYE{U:Type}{k:Nat}{Q:List Value->Prop}{f:U->List Value}(hq:∀cs,Q cs->∃x,cs=f x):∀(len:Nat) (rs:List Value),rs.length=len*k->(∀i,i<len->Q ((rs.drop (i*k)).take k))->∃xs:List U,xs.length=len/\rs=xs.flatMap f
 |0,rs,hl,_=>⟨[],rfl,by simpa using hl⟩
 |len+1,rs,hl,h=>by
  obtain⟨x,hx⟩:=hq _ (h 0 (by omega));obtain⟨xs,h1,h2⟩:=zYE (k:=k) hq len (rs.drop k) (by simp[hl,Nat.add_mul]) (λi hi=>by
   have:=h (i+1) (by omega);rwa [Nat.add_mul,Nat.one_mul,Nat.add_comm (i*k),<- List.drop_drop]at this)
  refine⟨x::xs,by simp[h1], ?_⟩
  simp only[List.flatMap_cons,<- h2,<- hx];simp
theorem yOX(f:U->List Value)(xs:List U):wD (xs.map λx=>.agg ⟨f x⟩)=xs.flatMap f:=by
 induction xs with
 |nil=>rfl
 |cons x xs ih=>rw[List.map_cons,List.flatMap_cons,<- ih];simp[wD,Value.cells]
theorem wCJ(xs:List Int):wD (xs.map yK)=xs.flatMap λx=>[yK x]:=by
 induction xs with
 |nil=>rfl
 |cons x xs ih=>rw[List.map_cons,List.flatMap_cons,<- ih];rfl
theorem wOU(h:WT Tryz.prog E (n+1) 5 cs):∃i:Int,cs=[.int .u8 i]/\0<=i/\i<=255:=by
 unfold WT at h;simp only[Tryz.underlying5]at h;obtain⟨i,h,hk⟩:=h;refine⟨i,h, ?_⟩
 rw[show IntKind.u8.min=0 by decide,show IntKind.u8.max=255 by decide]at hk;exact hk
theorem wLL(h:WT Tryz.prog E (n+1) 100 cs):∃i:Int,cs=[.int .u16 i]/\0<=i/\i<=65535:=by
 unfold WT at h;simp only[Tryz.underlying100]at h;obtain⟨i,h,hk⟩:=h;refine⟨i,h, ?_⟩
 rw[show IntKind.u16.min=0 by decide,show IntKind.u16.max=65535 by decide]at hk;exact hk
theorem yCY(h:WT Tryz.prog E (n+2) 48 cs):∃p l c xs,cs=[.slice p l c]/\yM E p l xs:=by
 obtain⟨p,l,c,rs,e1,_,s1,l1,w1⟩:=zNI Tryz.underlying48 (k:=1) (by kernel_rfl) h;subst e1;obtain⟨xs,n1,rfl⟩:=zYE (f:=λx:Int=>[yK x]) (λcs h=>vD h) l rs l1 w1;refine⟨p,l,c,xs,rfl,by rw[wCJ];exact s1,by simpa using n1,λv hv=>?_⟩
 obtain⟨x,_,rfl⟩:=List.mem_map.1 hv;exact vU x
theorem xAH{e:Nat}{k:IntKind}{lo hi:Int}(hu:Tryz.prog.underlying t=some (.slice e))(hk:Tryz.prog.cellsOf e=1)(ha:xI Tryz.prog e=some false)(hw:∀cs,WT Tryz.prog E (n+1) e cs->∃i:Int,cs=[.int k i]/\lo<=i/\i<=hi)(h:WT Tryz.prog E (n+2) t cs):∃p l c,∃xs:List Int,cs=[.slice p l c]/\SlV Tryz.prog E e 1 p l (xs.map λx=>.int k x)/\∀x∈xs,lo<=x/\x<=hi:=by
 obtain⟨p,l,c,rs,e1,_,s1,l1,w1⟩:=zNI hu hk h;obtain⟨xs,n1,rfl⟩:=zYE (f:=λx:{x:Int // lo<=x/\x<=hi}=>[Value.int k x.1]) (λcs h=>by
  obtain⟨i,e,h⟩:=hw cs h;exact⟨⟨i,h⟩,e⟩) l rs l1 w1
 have hf:wD ((xs.map (·.1)).map λx=>Value.int k x)=xs.flatMap λx=>[Value.int k x.1]:=by
  clear n1 s1 l1 w1;induction xs with
  |nil=>rfl
  |cons x xs ih=>rw[List.map_cons,List.map_cons,List.flatMap_cons,<- ih];rfl
 refine⟨p,l,c,xs.map (·.1),e1,⟨by rw[hf];exact s1,by simpa using n1,λv hv=>?_⟩,λx hx=>?_⟩
 .obtain⟨x,_,rfl⟩:=List.mem_map.1 hv;exact .inl ⟨ha,rfl,rfl⟩
 .obtain⟨x,_,rfl⟩:=List.mem_map.1 hx;exact x.2
theorem xMW{f:U->Value}{ts:Nat}(hu:Tryz.prog.underlying t=some (.slice ts))(hk:Tryz.prog.cellsOf ts=1)(ha:xI Tryz.prog ts=some false)(hw:∀cs,WT Tryz.prog E n ts cs->∃p l c,∃xs:List U,cs=[.slice p l c]/\SlV Tryz.prog E te m p l (xs.map f))(h:WT Tryz.prog E (n+1) t cs):∃p l c R,cs=[.slice p l c]/\zDR E ts te m f p l R:=by
 obtain⟨p,l,c,rs,e1,_,s1,l1,w1⟩:=zNI hu hk h;obtain⟨xs,n1,rfl⟩:=zYE (f:=λx:{x:Value×List U // ∃q d,x.1=.slice q x.2.length d/\SlV Tryz.prog E te m q x.2.length (x.2.map f)}=>[x.1.1]) (λcs h=>by
  obtain⟨q,l,d,ys,e,g⟩:=hw cs h;have hl:ys.length=l:=by have:=g.2.1;rwa [List.length_map]at this
  subst hl;exact⟨⟨⟨_,ys⟩,q,d,rfl,g⟩,e⟩) l rs l1 w1
 refine⟨p,l,c,xs.map λx=>x.1.2,e1,xs.map λx=>x.1.1,⟨?_,by simpa using n1,λv hv=>?_⟩,by simpa using n1,λi r hi=>?_⟩
 .have:wD (xs.map λx=>x.1.1)=xs.flatMap λx=>[x.1.1]:=by
   clear n1 s1 l1 w1;induction xs with
   |nil=>rfl
   |cons x xs ih =>
    rw[List.map_cons,List.flatMap_cons,<- ih];obtain⟨q,d,e,_⟩:=x.2;simp only[wD,List.flatMap_cons,e];rfl
  rw[this];exact s1
 .obtain⟨x,_,rfl⟩:=List.mem_map.1 hv;obtain⟨q,d,e,_⟩:=x.2;exact .inl ⟨ha,rfl,by rw[e];rfl⟩
 .rw[List.getElem?_map]at hi;cases hy:xs[i]? with
  |none=>rw[hy]at hi;cases hi
  |some y =>
   rw[hy]at hi;obtain rfl:y.1.2=r:=by simpa using hi
   obtain⟨q,d,e,g⟩:=y.2;exact⟨q,d,by rw[List.getElem?_map,hy];exact congrArg some e,g⟩
theorem wOW(h:WT Tryz.prog E (n+2) 56 cs):∃x y:Int,cs=[yK x,yK y]:=by
 unfold WT at h;simp only[Tryz.underlying56]at h;obtain⟨hl,h⟩:=h;have hl:cs.length=2:=hl.trans (by kernel_rfl);obtain⟨c1,c2,rfl⟩:∃c1 c2,cs=[c1,c2]:=by
  match cs,hl with
  |[c1,c2],_=>exact⟨_,_,rfl⟩
 have k3:Tryz.prog.cellsOf 3=1:=by kernel_rfl
 simp only[List.mem_cons,List.not_mem_nil,or_false,forall_eq_or_imp,forall_eq,k3]at h;obtain⟨⟨_,h1⟩,⟨_,h2⟩⟩:=h;obtain⟨x,h1⟩:=vD h1;obtain⟨y,h2⟩:=vD h2;obtain rfl:c1=yK x:=by simpa using h1
 obtain rfl:c2=yK y:=by simpa using h2
 exact⟨x,y,rfl⟩
theorem wOV(h:WT Tryz.prog E (n+2) 60 cs):∃x y:Int,cs=[yK x,yK y]:=by
 unfold WT at h;simp only[Tryz.underlying60]at h;obtain⟨hl,h⟩:=h;have hl:cs.length=2:=hl.trans (by kernel_rfl);obtain⟨c1,c2,rfl⟩:∃c1 c2,cs=[c1,c2]:=by
  match cs,hl with
  |[c1,c2],_=>exact⟨_,_,rfl⟩
 have k3:Tryz.prog.cellsOf 3=1:=by kernel_rfl
 simp only[List.mem_cons,List.not_mem_nil,or_false,forall_eq_or_imp,forall_eq,k3]at h;obtain⟨⟨_,h1⟩,⟨_,h2⟩⟩:=h;obtain⟨x,h1⟩:=vD h1;obtain⟨y,h2⟩:=vD h2;obtain rfl:c1=yK x:=by simpa using h1
 obtain rfl:c2=yK y:=by simpa using h2
 exact⟨x,y,rfl⟩
theorem wLM(h:WT Tryz.prog E (n+3) 58 cs):∃x:Rl,cs=rlL x:=by
 unfold WT at h;simp only[Tryz.underlying58]at h;obtain⟨hl,h⟩:=h;have hl:cs.length=3:=hl.trans (by kernel_rfl);obtain⟨c1,c2,c3,rfl⟩:∃c1 c2 c3,cs=[c1,c2,c3]:=by
  match cs,hl with
  |[c1,c2,c3],_=>exact⟨_,_,_,rfl⟩
 have k3:Tryz.prog.cellsOf 3=1:=by kernel_rfl
 have k56:Tryz.prog.cellsOf 56=2:=by kernel_rfl
 simp only[List.mem_cons,List.not_mem_nil,or_false,forall_eq_or_imp,forall_eq,k3,k56]at h;obtain⟨⟨_,h1⟩,⟨_,h2⟩⟩:=h;obtain⟨x,h1⟩:=vD h1;obtain⟨y,z,h2⟩:=wOW h2;obtain rfl:c1=yK x:=by simpa using h1
 obtain⟨rfl,rfl⟩:c2=yK y/\c3=yK z:=by simpa using h2
 exact⟨⟨x,y,z⟩,rfl⟩
theorem xMX{f:U->List Value}(hu:Tryz.prog.underlying t=some (.slice te))(hk:Tryz.prog.cellsOf te=m)(ha:xI Tryz.prog te=some true)(hs:yR Tryz.prog te=some m)(hf:∀x,(f x).length=m)(hw:∀cs,WT Tryz.prog E n te cs->∃x,cs=f x)(h:WT Tryz.prog E (n+1) t cs):∃p l c,∃xs:List U,cs=[.slice p l c]/\SlV Tryz.prog E te m p l (xs.map λx=>.agg ⟨f x⟩):=by
 obtain⟨p,l,c,rs,e1,_,s1,l1,w1⟩:=zNI hu hk h;obtain⟨xs,n1,rfl⟩:=zYE hw l rs l1 w1;refine⟨p,l,c,xs,e1,by rw[yOX f];exact s1,by simpa using n1,λv hv=>?_⟩
 obtain⟨x,_,rfl⟩:=List.mem_map.1 hv;exact .inr ⟨ha,hs,_,rfl,hf x⟩
theorem wLN(h:WT Tryz.prog E (n+2) 23 cs):∃x:Lw,cs=lwL x:=by
 unfold WT at h;simp only[Tryz.underlying23]at h;obtain⟨hl,h⟩:=h;have hl:cs.length=8:=hl.trans (by kernel_rfl);obtain⟨c1,c2,c3,c4,c5,c6,c7,c8,rfl⟩:∃c1 c2 c3 c4 c5 c6 c7 c8,cs=[c1,c2,c3,c4,c5,c6,c7,c8]:=by
  match cs,hl with
  |[c1,c2,c3,c4,c5,c6,c7,c8],_=>exact⟨_,_,_,_,_,_,_,_,rfl⟩
 have k3:Tryz.prog.cellsOf 3=1:=by kernel_rfl
 simp only[List.mem_cons,List.not_mem_nil,or_false,forall_eq_or_imp,forall_eq,k3]at h;obtain⟨⟨_,h1⟩,⟨_,h2⟩,⟨_,h3⟩,⟨_,h4⟩,⟨_,h5⟩,⟨_,h6⟩,⟨_,h7⟩,⟨_,h8⟩⟩:=h;obtain⟨x1,h1⟩:=vD h1;obtain rfl:c1=yK x1:=by simpa using h1
 obtain⟨x2,h2⟩:=vD h2;obtain rfl:c2=yK x2:=by simpa using h2
 obtain⟨x3,h3⟩:=vD h3;obtain rfl:c3=yK x3:=by simpa using h3
 obtain⟨x4,h4⟩:=vD h4;obtain rfl:c4=yK x4:=by simpa using h4
 obtain⟨x5,h5⟩:=vD h5;obtain rfl:c5=yK x5:=by simpa using h5
 obtain⟨x6,h6⟩:=vD h6;obtain rfl:c6=yK x6:=by simpa using h6
 obtain⟨x7,h7⟩:=vD h7;obtain rfl:c7=yK x7:=by simpa using h7
 obtain⟨x8,h8⟩:=vD h8;obtain rfl:c8=yK x8:=by simpa using h8
 exact⟨⟨x1,x2,x3,x4,x5,x6,x7,x8⟩,rfl⟩
theorem wLQ(h:WT Tryz.prog E (n+6) 27 cs):∃(L:Lw) (b k:Option Addr) (bl bc kl kc:Nat) (B:List (List Rl)) (K:List (List Int)),cs=dnc L b bl bc k kl kc/\DnP E 59 58 b bl k kl B K:=by
 unfold WT at h;simp only[Tryz.underlying27]at h;obtain⟨hl,h⟩:=h;have hl:cs.length=10:=hl.trans (by kernel_rfl);obtain⟨c1,c2,c3,c4,c5,c6,c7,c8,c9,c10,rfl⟩:∃c1 c2 c3 c4 c5 c6 c7 c8 c9 c10,cs=[c1,c2,c3,c4,c5,c6,c7,c8,c9,c10]:=by
  match cs,hl with
  |[c1,c2,c3,c4,c5,c6,c7,c8,c9,c10],_=>exact⟨_,_,_,_,_,_,_,_,_,_,rfl⟩
 have k23:Tryz.prog.cellsOf 23=8:=by kernel_rfl
 have k24:Tryz.prog.cellsOf 24=1:=by kernel_rfl
 have k25:Tryz.prog.cellsOf 25=1:=by kernel_rfl
 simp only[List.mem_cons,List.not_mem_nil,or_false,forall_eq_or_imp,forall_eq,k23,k24,k25]at h;obtain⟨⟨_,h1⟩,⟨_,h2⟩,⟨_,h3⟩⟩:=h;obtain⟨L,h1⟩:=wLN h1;obtain⟨b,bl,bc,B,h2,i2⟩:=xMW (f:=rlV) Tryz.underlying24 (by kernel_rfl) (by kernel_rfl) (λcs h=>xMX (f:=rlL) (m:=3) Tryz.underlying59 (by kernel_rfl) wPV xYR (λ_=>rfl) (λcs h=>wLM h) h) h2;obtain⟨k,kl,kc,K,h3,i3⟩:=xMW (f:=yK) Tryz.underlying25 (by kernel_rfl) xF (λcs h=>yCY h) h3;obtain⟨rfl,rfl,rfl,rfl,rfl,rfl,rfl,rfl⟩:c1=yK L.p/\c2=yK L.d/\c3=yK L.s/\c4=yK L.b/\c5=yK L.o/\c6=yK L.f/\c7=yK L.l/\c8=yK L.n:=by simpa using h1
 obtain rfl:c9=.slice b bl bc:=by simpa using h2
 obtain rfl:c10=.slice k kl kc:=by simpa using h3
 exact⟨L,b,k,bl,bc,kl,kc,B,K,rfl,i2,i3⟩
theorem wLO(h:WT Tryz.prog E (n+3) 62 cs):∃x:Dty,cs=zP x.day x.on x.lo x.hi x.route:=by
 unfold WT at h;simp only[Tryz.underlying62]at h;obtain⟨hl,h⟩:=h;have hl:cs.length=5:=hl.trans (by kernel_rfl);obtain⟨c1,c2,c3,c4,c5,rfl⟩:∃c1 c2 c3 c4 c5,cs=[c1,c2,c3,c4,c5]:=by
  match cs,hl with
  |[c1,c2,c3,c4,c5],_=>exact⟨_,_,_,_,_,rfl⟩
 have k3:Tryz.prog.cellsOf 3=1:=by kernel_rfl
 have k60:Tryz.prog.cellsOf 60=2:=by kernel_rfl
 simp only[List.mem_cons,List.not_mem_nil,or_false,forall_eq_or_imp,forall_eq,k3,k60]at h;obtain⟨⟨_,h1⟩,⟨_,h2⟩,⟨_,h3⟩,⟨_,h4⟩⟩:=h;obtain⟨x1,h1⟩:=vD h1;obtain⟨x2,h2⟩:=vD h2;obtain⟨x3,x4,h3⟩:=wOV h3;obtain⟨x5,h4⟩:=vD h4;obtain rfl:c1=yK x1:=by simpa using h1
 obtain rfl:c2=yK x2:=by simpa using h2
 obtain⟨rfl,rfl⟩:c3=yK x3/\c4=yK x4:=by simpa using h3
 obtain rfl:c5=yK x5:=by simpa using h4
 exact⟨⟨x1,x2,x3,x4,x5⟩,rfl⟩
theorem wLP(h:WT Tryz.prog E (n+3) 83 cs):∃(x:Drv) (p q r:Option Addr) (l c m d j e:Nat),cs=yH p l c q m d r j e x.off x.row x.used/\yM E p l x.qa/\yM E q m x.qb/\yM E r j x.qc:=by
 unfold WT at h;simp only[Tryz.underlying83]at h;obtain⟨hl,h⟩:=h;have hl:cs.length=6:=hl.trans (by kernel_rfl);obtain⟨c1,c2,c3,c4,c5,c6,rfl⟩:∃c1 c2 c3 c4 c5 c6,cs=[c1,c2,c3,c4,c5,c6]:=by
  match cs,hl with
  |[c1,c2,c3,c4,c5,c6],_=>exact⟨_,_,_,_,_,_,rfl⟩
 have k3:Tryz.prog.cellsOf 3=1:=by kernel_rfl
 have k48:Tryz.prog.cellsOf 48=1:=by kernel_rfl
 simp only[List.mem_cons,List.not_mem_nil,or_false,forall_eq_or_imp,forall_eq,k3,k48]at h;obtain⟨⟨_,h1⟩,⟨_,h2⟩,⟨_,h3⟩,⟨_,h4⟩,⟨_,h5⟩,⟨_,h6⟩⟩:=h;obtain⟨p1,l1,e1,x1,h1,i1⟩:=yCY h1;obtain⟨p2,l2,e2,x2,h2,i2⟩:=yCY h2;obtain⟨p3,l3,e3,x3,h3,i3⟩:=yCY h3;obtain⟨x4,h4⟩:=vD h4;obtain⟨x5,h5⟩:=vD h5;obtain⟨x6,h6⟩:=vD h6;obtain rfl:c1=.slice p1 l1 e1:=by simpa using h1
 obtain rfl:c2=.slice p2 l2 e2:=by simpa using h2
 obtain rfl:c3=.slice p3 l3 e3:=by simpa using h3
 obtain rfl:c4=yK x4:=by simpa using h4
 obtain rfl:c5=yK x5:=by simpa using h5
 obtain rfl:c6=yK x6:=by simpa using h6
 exact⟨⟨x1,x2,x3,x4,x5,x6⟩,p1,p2,p3,l1,e1,l2,e2,l3,e3,rfl,i1,i2,i3⟩
theorem wGA(h:WT Tryz.prog E (n+4) 29 cs):∃p l c xs,cs=[.slice p l c]/\yJR E 83 p l xs:=by
 obtain⟨p,l,c,rs,e1,_,s1,l1,w1⟩:=zNI Tryz.underlying29 (k:=6) (by kernel_rfl) h;obtain⟨xs,n1,rfl⟩:=zYE (f:=λx:{x:List Value×Drv // ∃p q r l c m d j e,x.1=yH p l c q m d r j e x.2.off x.2.row x.2.used/\yM E p l x.2.qa/\yM E q m x.2.qb/\yM E r j x.2.qc}=>x.1.1) (λcs h=>by
  obtain⟨x,p,q,r,l,c,m,d,j,e,h1,h2⟩:=wLP h;exact⟨⟨⟨cs,x⟩,p,q,r,l,c,m,d,j,e,h1,h2⟩,rfl⟩) l rs l1 w1
 refine⟨p,l,c,xs.map λx=>x.1.2,e1,xs.map λx=>.agg ⟨x.1.1⟩,⟨?_,by simpa using n1,λv hv=>?_⟩,by simpa using n1,λi x hx=>?_⟩
 .rw[yOX (λx:{x:List Value×Drv // ∃p q r l c m d j e,x.1=yH p l c q m d r j e x.2.off x.2.row x.2.used/\yM E p l x.2.qa/\yM E q m x.2.qb/\yM E r j x.2.qc}=>x.1.1) xs];exact s1
 .obtain⟨x,_,rfl⟩:=List.mem_map.1 hv;obtain⟨p,q,r,l,c,m,d,j,e,h1,_⟩:=x.2;exact .inr ⟨by kernel_rfl,by kernel_rfl,_,rfl,by rw[h1];rfl⟩
 .rw[List.getElem?_map]at hx;cases hy:xs[i]? with
  |none=>rw[hy]at hx;cases hx
  |some y =>
   rw[hy]at hx;obtain rfl:y.1.2=x:=by simpa using hx
   obtain⟨p,q,r,l,c,m,d,j,e,h1,h2⟩:=y.2;exact⟨.agg ⟨y.1.1⟩,by rw[List.getElem?_map,hy];rfl,p,l,c,q,m,d,r,j,e,by rw[h1],h2⟩
theorem wFZ(h:WT Tryz.prog E (n+6) 31 cs):∃(w:Wk) (p q:Option Addr) (l c m d:Nat),cs=wkc w.J p l c q m d w.rest w.run w.N/\WkP E 62 83 w p l q m:=by
 unfold WT at h;simp only[Tryz.underlying31]at h;obtain⟨hl,h⟩:=h;have hl:cs.length=6:=hl.trans (by kernel_rfl);obtain⟨c1,c2,c3,c4,c5,c6,rfl⟩:∃c1 c2 c3 c4 c5 c6,cs=[c1,c2,c3,c4,c5,c6]:=by
  match cs,hl with
  |[c1,c2,c3,c4,c5,c6],_=>exact⟨_,_,_,_,_,_,rfl⟩
 have k3:Tryz.prog.cellsOf 3=1:=by kernel_rfl
 have k28:Tryz.prog.cellsOf 28=1:=by kernel_rfl
 have k29:Tryz.prog.cellsOf 29=1:=by kernel_rfl
 simp only[List.mem_cons,List.not_mem_nil,or_false,forall_eq_or_imp,forall_eq,k3,k28,k29]at h;obtain⟨⟨_,h1⟩,⟨_,h2⟩,⟨_,h3⟩,⟨_,h4⟩,⟨_,h5⟩,⟨_,h6⟩⟩:=h;obtain⟨x1,h1⟩:=vD h1;obtain⟨p,l,c,xs,h2,i2⟩:=xMX (f:=λx:Dty=>zP x.day x.on x.lo x.hi x.route) (m:=5) Tryz.underlying28 (by kernel_rfl) (by kernel_rfl) (by kernel_rfl) (λ_=>rfl) (λcs h=>wLO h) h2;obtain⟨q,m,d,ys,h3,i3⟩:=wGA h3;obtain⟨x4,h4⟩:=vD h4;obtain⟨x5,h5⟩:=vD h5;obtain⟨x6,h6⟩:=vD h6;obtain rfl:c1=yK x1:=by simpa using h1
 obtain rfl:c2=.slice p l c:=by simpa using h2
 obtain rfl:c3=.slice q m d:=by simpa using h3
 obtain rfl:c4=yK x4:=by simpa using h4
 obtain rfl:c5=yK x5:=by simpa using h5
 obtain rfl:c6=yK x6:=by simpa using h6
 exact⟨⟨x1,xs,ys,x4,x5,x6⟩,p,q,l,c,m,d,rfl,i2,i3⟩
theorem xNX{Z:Inj}{av:Value}(h:VR Z av v)(hv:∀cs,v≠.agg cs):∀cs,av≠.agg cs:=by
 rintro cs rfl;cases h with
 |atom h=>simp[zAC]at h
 |agg _ _=>exact hv _ rfl
theorem xYO{W:World}{t:TypeId}(hu:Tryz.prog.underlying t=some (.slice e))(h:Value.okWide Tryz.prog W .any 0 t v):∀cs,v≠.agg cs:=by
 rintro cs rfl;unfold Value.okWide at h;rw[hu]at h;simp[Cell.okWide,Cell.ok,hu]at h
theorem yCG{p:Option Addr}{l c:Nat}(h:v.cells.toList=[.slice p l c])(hn:∀cs,v≠.agg cs):v=.slice p l c:=by
 cases v with
 |agg cs=>exact absurd rfl (hn cs)
 |_=>first|(simp[Value.cells]at h;done)|simpa [Value.cells] using h
end
end Go.Proofs.YtflfajphjmajpaaGreat
