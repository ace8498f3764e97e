
namespace Go.Proofs.YtflfajphjmajpaaGreat
variable{k D j i:Nat}
structure Dty where
 day:Int
 on:Int
 lo:Int
 hi:Int
 route:Int
 deriving DecidableEq,Inhabited
structure Drv where
 qa:List Int
 qb:List Int
 qc:List Int
 off:Int
 row:Int
 used:Int
 deriving Inhabited
structure Wk where
 J:Int
 L:List Dty
 M:List Drv
 rest:Int
 run:Int
 N:Int
structure Std where
 free:Int
 row:Int
 used:Int
 day:Int
 deriving DecidableEq,Inhabited
def before(d:Drv):Std:=⟨d.off,d.row,d.used, -1⟩
def take(s:Std)(d:Dty)(e:Int):Std :=
 if s.day=d.day then⟨s.free,s.row,s.used+(e-d.on),s.day⟩else⟨d.day*1440+e,(if s.day=d.day-1 then s.row else 0)+1,s.used+(e-d.on),d.day⟩
def holds(w:Wk)(q:Nat)(x:Drv)(d:Dty)(s:Std):Bool :=
 match q with
 |0=>x.qa.contains d.route
 |1=>!x.qb.contains d.day
 |2=>decide (s.day≠d.day)
 |3=>decide (s.day=d.day)||decide (w.rest<=d.day*1440+d.on-s.free)
 |_=>decide (s.day=d.day)||decide ((take s d d.on).row<=w.run)
section
variable(w:Wk)(ros tru:Nat->Int)
def dty(w:Wk)(i:Nat):Dty:=w.L.getD i default
def drQ(w:Wk)(k:Nat):Drv:=w.M.getD k default
def his(k:Nat)(D:Nat)(i:Nat):Bool:=decide (ros i=(k:Int))&&decide ((dty w i).day=(D:Int))
def onL(k D j:Nat):List Nat:=(List.range j).filter (his w ros k D)
def zDE(k D:Nat):Option Nat:=(onL w ros k D w.L.length).head?
def zDT(k D:Nat):Bool:=(zDE w ros k D).isSome
def zDM(tru:Nat->Int)(s:Std)(i:Nat):Std:=take s (dty w i) (tru i)
def wH(k:Nat):Nat->Std
 |0=>before (drQ w k)
 |D+1=>(onL w ros k D w.L.length).foldl (zDM w tru) (wH k D)
def xZ(k D j:Nat):Std:=(onL w ros k D j).foldl (zDM w tru) (wH w ros tru k D)
def zDW(k:Nat):Nat->Int
 |0=>if zDT w ros k 0 then 1+(drQ w k).row else 0
 |D+1=>if zDT w ros k (D+1)then 1+zDW k D else 0
def vO(k:Nat):Nat->Int
 |0=>(drQ w k).off
 |D+1=>match zDE w ros k D with
  |some i=>1440*(D:Int)+tru i
  |none=>vO k D
def zLU(k:Nat):Nat->Int
 |0=>-1
 |D+1=>if zDT w ros k D then(D:Int)else zLU k D
def yCU(k:Nat):Nat->Int
 |0=>(drQ w k).row
 |D+1=>if zDT w ros k D then zDW w ros k D else yCU k D
end
section
variable{w:Wk}{ros tru:Nat->Int}
theorem wKT:onL w ros k D (j+1)=if his w ros k D j then onL w ros k D j++[j]else onL w ros k D j:=by
 unfold onL;rw[List.range_succ,List.filter_append];cases h:his w ros k D j <;> simp[h]
theorem zWD:i∈onL w ros k D j↔i<j/\ros i=(k:Int)/\(dty w i).day=(D:Int):=by
 unfold onL;rw[List.mem_filter,List.mem_range];unfold his;simp
theorem zAS:xZ w ros tru k D (j+1)=if his w ros k D j then zDM w tru (xZ w ros tru k D j) j else xZ w ros tru k D j:=by
 unfold xZ;rw[wKT];split
 .rw[List.foldl_append];rfl
 .rfl
theorem zIE{k:Nat}:∀{D:Nat},zLU w ros k D<(D:Int)/\-1<=zLU w ros k D
 |0=>by simp[zLU]
 |D+1=>by
  have:=zIE (k:=k) (D:=D);unfold zLU;split <;> omega
theorem zKU:zLU w ros k (D+1)=(D:Int)↔zDT w ros k D=true:=by
 unfold zLU;have:=zIE (w:=w) (ros:=ros) (k:=k) (D:=D);constructor
 .intro h;split at h
  .assumption
  .omega
 .intro h;rw[if_pos h]
theorem zYT{D:Nat}:∀{l:List Nat} {s:Std},s.day=(D:Int)->(∀i∈l,(dty w i).day=(D:Int))->∃u,l.foldl (zDM w tru) s=⟨s.free,s.row,u,s.day⟩
 |[],s,_,_=>⟨s.used,rfl⟩
 |i::l,s,hs,hl=>by
  have hi:=hl i List.mem_cons_self;rw[List.foldl_cons];have e:zDM w tru s i=⟨s.free,s.row,s.used+(tru i-(dty w i).on),s.day⟩:=by
   unfold zDM take;rw[if_pos (by omega)]
  rw[e];obtain⟨u,hu⟩:=zYT (l:=l) (s:=⟨s.free,s.row,s.used+(tru i-(dty w i).on),s.day⟩) hs λx hx=>hl x (List.mem_cons_of_mem _ hx)
  exact⟨u,hu⟩
theorem yNI:∀{l:List Nat} {s:Std},(l.foldl (zDM w tru) s).used=s.used+(l.map λi=>tru i-(dty w i).on).sum
 |[],s=>by simp
 |i::l,s=>by
  rw[List.foldl_cons,yNI,List.map_cons,List.sum_cons];have:(zDM w tru s i).used=s.used+(tru i-(dty w i).on):=by unfold zDM take;split <;> rfl
  rw[this];omega
theorem zPT{k:Nat}:∀{D:Nat},(wH w ros tru k D).free=vO w ros tru k D/\(wH w ros tru k D).row=yCU w ros k D/\(wH w ros tru k D).day=zLU w ros k D
 |0=>⟨rfl,rfl,rfl⟩
 |D+1=>by
  obtain⟨h1,h2,h3⟩:=zPT (k:=k) (D:=D);have hl:=zIE (w:=w) (ros:=ros) (k:=k) (D:=D);have ef:wH w ros tru k (D+1)=(onL w ros k D w.L.length).foldl (zDM w tru) (wH w ros tru k D):=rfl;have hmem:∀i∈onL w ros k D w.L.length,(dty w i).day=(D:Int):=λi hi=>(zWD.1 hi).2.2
  rw[ef];unfold vO yCU zLU zDT zDE;cases hL:onL w ros k D w.L.length with
  |nil=>exact⟨h1,h2,h3⟩
  |cons i l =>
   rw[hL]at hmem;have hi:=hmem i List.mem_cons_self;rw[List.foldl_cons];have hrow:(if zLU w ros k D=(D:Int)-1 then yCU w ros k D else 0)+1=zDW w ros k D:=by
    have hw:zDT w ros k D=true:=by unfold zDT zDE;rw[hL];rfl
    cases D with
    |zero =>
     unfold zDW;rw[if_pos hw,if_pos (by rfl)];unfold yCU;omega
    |succ D =>
     unfold zDW;rw[if_pos hw];by_cases hp:zDT w ros k D=true
     .rw[if_pos (by have:=(zKU (w:=w) (ros:=ros) (k:=k) (D:=D)).2 hp;omega)];unfold yCU;rw[if_pos hp];omega
     .rw[if_neg (λe=>hp ((zKU (w:=w) (ros:=ros) (k:=k) (D:=D)).1 (by omega)))];have:zDW w ros k D=0:=by cases D <;> (unfold zDW;rw[if_neg hp])
      rw[this];rfl
   have e:zDM w tru (wH w ros tru k D) i=⟨1440*(D:Int)+tru i,zDW w ros k D,(wH w ros tru k D).used+(tru i-(dty w i).on),(D:Int)⟩:=by
    unfold zDM take;rw[if_neg (by rw[h3,hi];omega),h3,h2,hi,hrow];congr 1;omega
   rw[e];obtain⟨u,hu⟩:=zYT (w:=w) (tru:=tru) (D:=D) (l:=l) (s:=⟨1440*(D:Int)+tru i,zDW w ros k D,(wH w ros tru k D).used+(tru i-(dty w i).on),(D:Int)⟩) rfl λx hx=>hmem x (List.mem_cons_of_mem _ hx)
   rw[hu];simp only[List.head?_cons,Option.isSome_some,if_true];exact⟨trivial,trivial,trivial⟩
theorem yGR:((xZ w ros tru k D j).day=(D:Int)↔onL w ros k D j≠[])/\(onL w ros k D j=[]->xZ w ros tru k D j=wH w ros tru k D):=by
  obtain⟨h1,h2,h3⟩:=zPT (w:=w) (ros:=ros) (tru:=tru) (k:=k) (D:=D);have hl:=zIE (w:=w) (ros:=ros) (k:=k) (D:=D);refine⟨?_,λh=>by unfold xZ;rw[h];rfl⟩
  unfold xZ;have hmem:∀i∈onL w ros k D j,(dty w i).day=(D:Int):=λi hi=>(zWD.1 hi).2.2
  cases hL:onL w ros k D j with
  | nil => simp only[List.foldl_nil,ne_eq,not_true];constructor
           . intro h;omega
           . intro h;exact h.elim
  |cons i l =>
    rw[hL]at hmem;have hi:=hmem i List.mem_cons_self;rw[List.foldl_cons];obtain⟨s,hs⟩:∃s,s=zDM w tru (wH w ros tru k D) i:=⟨_,rfl⟩;have hsd:s.day=(D:Int):=by rw[hs];unfold zDM take;rw[if_neg (by rw[h3,hi];omega)];exact hi
    rw[<- hs];obtain⟨u,hu⟩:=zYT (w:=w) (tru:=tru) (D:=D) (l:=l) (s:=s) hsd λx hx=>hmem x (List.mem_cons_of_mem _ hx)
    rw[hu];simp[hsd]
theorem xUT(hi:i<w.L.length)(hh:his w ros k D i=true):zDE w ros k D=some i↔onL w ros k D i=[]:=by
 have key:∀(n:Nat),i<n->((onL w ros k D n).head?=some i↔onL w ros k D i=[]):=by
  intro n;induction n with
  |zero=>intro h;omega
  |succ n ih =>
   intro h;rw[wKT];by_cases e:i=n
   .subst e;rw[if_pos hh];cases hL:onL w ros k D i with
    |nil=>simp
    |cons a l =>
     have:a∈onL w ros k D i:=by rw[hL];simp
     have:=(zWD.1 this).1;simp;omega
   .have ih:=ih (by omega);have hne:onL w ros k D n≠[]:=by
     intro h0;have:i∈onL w ros k D n:=zWD.2 ⟨by omega,by unfold his at hh;simp at hh;exact hh⟩;rw[h0]at this;cases this
    split
    .cases hL:onL w ros k D n with
     |nil=>exact absurd hL hne
     |cons a l=>rw[hL]at ih;simpa using ih
    .exact ih
 exact key _ hi
def wQ(w:Wk)(ros tru:Nat->Int)(q k i:Nat):Bool :=
 if q=5 then decide (w.N<(drQ w k).used+(((List.range w.L.length).filter λi=>decide (ros i=(k:Int))).map λi=>tru i-(dty w i).on).sum)
 else decide (ros i=(k:Int))&&(match q with
  |0=>!(drQ w k).qa.contains (dty w i).route
  |1=>(drQ w k).qb.contains (dty w i).day
  |2=>!decide (zDE w ros k (dty w i).day.toNat=some i)
  |3=>decide (zDE w ros k (dty w i).day.toNat=some i)&&decide (1440*(dty w i).day+(dty w i).on-vO w ros tru k (dty w i).day.toNat<w.rest)
  |_=>decide (zDE w ros k (dty w i).day.toNat=some i)&&decide (w.run<zDW w ros k (dty w i).day.toNat))
theorem zQE{q:Nat}(hi:i<w.L.length)(hr:ros i=(k:Int))(hD:(dty w i).day=(D:Int))(hq:q<5):holds w q (drQ w k) (dty w i) (xZ w ros tru k D i)=!wQ w ros tru q k i:=by
 have hh:his w ros k D i=true:=by unfold his;simp[hr,hD]
 have hf:=xUT hi hh;obtain⟨d1,d2⟩:=yGR (w:=w) (ros:=ros) (tru:=tru) (k:=k) (D:=D) (j:=i);obtain⟨s1,s2,s3⟩:=zPT (w:=w) (ros:=ros) (tru:=tru) (k:=k) (D:=D);have hl:=zIE (w:=w) (ros:=ros) (k:=k) (D:=D);have eD:(dty w i).day.toNat=D:=by rw[hD];simp
 unfold wQ;rw[if_neg (by omega),decide_eq_true hr,Bool.true_and,eD];match q,hq with
 |0,_=>simp[holds]
 |1,_=>simp[holds]
 |2,_ =>
  simp only[holds,Bool.not_not];apply decide_eq_decide.2;rw[hf,hD];constructor
  .intro h;by_cases e:onL w ros k D i=[]
   .exact e
   .exact absurd (d1.2 e) h
  .intro h h2;exact d1.1 h2 h
 |3,_ =>
  simp only[holds];rw[hD];by_cases e:onL w ros k D i=[]
  .rw[decide_eq_true (hf.2 e),d2 e,s1,s3];rw[decide_eq_false (by omega:¬zLU w ros k D=(D:Int)),Bool.false_or,Bool.true_and];by_cases h:1440*(D:Int)+(dty w i).on-vO w ros tru k D<w.rest
   .rw[decide_eq_true h,decide_eq_false (by omega)];rfl
   .rw[decide_eq_false h,decide_eq_true (by omega)];rfl
  .rw[decide_eq_false (λh=>e (hf.1 h)),decide_eq_true (d1.2 e)];rfl
 |4,_ =>
  simp only[holds];rw[hD];by_cases e:onL w ros k D i=[]
  .rw[decide_eq_true (hf.2 e),d2 e,s3];rw[decide_eq_false (by omega:¬zLU w ros k D=(D:Int)),Bool.false_or,Bool.true_and];have hw:zDT w ros k D=true:=by unfold zDT;rw[hf.2 e];rfl
   have er:(take (wH w ros tru k D) (dty w i) (dty w i).on).row=zDW w ros k D:=by
    unfold take;rw[if_neg (by rw[s3,hD];omega)];simp only;rw[s3,s2,hD];cases D with
    |zero =>
     unfold zDW;rw[if_pos hw,if_pos (by rfl)];unfold yCU;omega
    |succ D =>
     unfold zDW;rw[if_pos hw];by_cases hp:zDT w ros k D=true
     .rw[if_pos (by have:=(zKU (w:=w) (ros:=ros) (k:=k) (D:=D)).2 hp;omega)];unfold yCU;rw[if_pos hp];omega
     .rw[if_neg (λe=>hp ((zKU (w:=w) (ros:=ros) (k:=k) (D:=D)).1 (by omega)))];have:zDW w ros k D=0:=by cases D <;> (unfold zDW;rw[if_neg hp])
      rw[this];rfl
   rw[er];by_cases h:w.run<zDW w ros k D
   .rw[decide_eq_true h,decide_eq_false (by omega)];rfl
   .rw[decide_eq_false h,decide_eq_true (by omega)];rfl
  .rw[decide_eq_false (λh=>e (hf.1 h)),decide_eq_true (d1.2 e)];rfl
 |n+5,h=>omega
end
end Go.Proofs.YtflfajphjmajpaaGreat
