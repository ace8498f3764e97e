
import Derived.Test.YtflfajphjmajpaaGreatPD
namespace Go.Proofs.YtflfajphjmajpaaGreat
structure RM(w:Wk)(D:Nat)(s t:Std):Prop where
 used:s.used=t.used
 day:s.day=t.day
 le:s.day<=(D:Int)
 row:(D:Int)-1<=s.day->s.row=t.row
 free:s.free=t.free\/s.free<=1440*(D:Int)-w.rest/\t.free<=1440*(D:Int)-w.rest
section
variable{w:Wk}{D:Nat}{s t:Std}{d:Dty}
theorem RM.holds(h:RM w D s t)(hd:d.day=(D:Int))(ho:0<=d.on){q:Nat}{x:Drv}:holds w q x d s=holds w q x d t:=by
 have h1:=h.day;match q with
 |0=>rfl
 |1=>rfl
 |2=>simp only[YtflfajphjmajpaaGreat.holds,h1]
 |3 =>
  simp only[YtflfajphjmajpaaGreat.holds,h1];congr 1;apply decide_eq_decide.2;have:=h.free;omega
 |q+4 =>
  simp only[YtflfajphjmajpaaGreat.holds,h1];by_cases e:t.day=d.day
  .rw[decide_eq_true e];rfl
  .congr 1;have e2:(take s d d.on).row=(take t d d.on).row:=by
    unfold take;rw[if_neg (by omega),if_neg e];simp only;by_cases e3:t.day=d.day-1
    .rw[if_pos (by omega),if_pos e3,h.row (by omega)]
    .rw[if_neg (by omega),if_neg e3]
   rw[e2]
theorem RM.take(h:RM w D s t)(hd:d.day=(D:Int)){e:Int}:RM w D (take s d e) (take t d e):=by
 have h1:=h.day;have h2:=h.used;have h3:=h.le;unfold YtflfajphjmajpaaGreat.take;by_cases e1:t.day=d.day
 .rw[if_pos (by omega),if_pos e1];exact⟨by simp only;omega,by simp only;omega,by simp only;omega,h.row,h.free⟩
 .rw[if_neg (by omega),if_neg e1];refine⟨by simp only;omega,rfl,by simp only;omega, ?_,.inl rfl⟩
  intro _;simp only;by_cases e3:t.day=d.day-1
  .rw[if_pos (by omega),if_pos e3,h.row (by omega)]
  .rw[if_neg (by omega),if_neg e3]
theorem RM.past(h:RM w D s t):RM w (D+1) s (zWC w D t):=by
 have h1:=h.day;have h2:=h.used;have h3:=h.le;have h4:=h.free;unfold zWC;by_cases e:t.day=(D:Int)
 .rw[if_pos e];exact⟨h2,h1,by omega,λ_=>h.row (by omega),by omega⟩
 .rw[if_neg e];refine⟨h2,h1,by omega,λh=>by omega, ?_⟩
  simp only;omega
theorem RM.may(h:RM w D s t){k i:Nat}(hd:(dty w i).day=(D:Int))(ho:0<=(dty w i).on):zHB w k i s=zHB w k i t:=by
 unfold zHB;congr 1
 .congr 1;funext q;exact h.holds hd ho
 .rw[(h.take hd).used]
end
structure Val(w:Wk)(n:Nat):Prop extends Days w n where
 on:∀i,i<w.L.length->0<=(dty w i).on/\(dty w i).on<=(dty w i).hi
 used:∀k,k<w.M.length->(drQ w k).used<=w.N
section
variable{w:Wk}{leaves:Bool}{wf:Nat->List Int->List Int}{ros:Nat->Int}
def okI(w:Wk)(leaves:Bool)(ros:Nat->Int)(D i:Nat):Bool:=if ros i=-1 then leaves else zHB w (ros i).toNat i (xZ w ros (late w) (ros i).toNat D i)
theorem zLD:∀{l l':List Nat} {a a':List Int} {st:Nat->Std},l.length=a.length->zAT w leaves (l++l') (a++a') st=(zAT w leaves l a st).bind (zAT w leaves l' a')
 |[],l',[],a',st,_=>rfl
 |i::l,l',r::a,a',st,h=>by
  have h:l.length=a.length:=by simpa using h
  rw[List.cons_append,List.cons_append];unfold zAT;split
  .split
   .exact zLD h
   .rfl
  .split
   .exact zLD h
   .rfl
theorem zEI:∀{l:List Nat} {a:List Int} {st st':Nat->Std},zAT w leaves l a st=some st'->a.length=l.length/\∀r∈a, -1<=r/\r<(w.M.length:Int)
 |[],[],_,_,_=>⟨rfl,λr h=>by cases h⟩
 |[],_::_,_,_,h=>by cases h
 |_::_,[],_,_,h=>by cases h
 |i::l,r::a,st,st',h=>by
  unfold zAT at h;split at h
  .rename_i e;split at h
   .obtain⟨h1,h2⟩:=zEI h;refine⟨by simp[h1], ?_⟩
    intro x hx;rcases List.mem_cons.1 hx with hx|hx
    .omega
    .exact h2 x hx
   .cases h
  .split at h
   .rename_i g;obtain⟨h1,h2⟩:=zEI h;refine⟨by simp[h1], ?_⟩
    intro x hx;rcases List.mem_cons.1 hx with hx|hx
    .omega
    .exact h2 x hx
   .cases h
theorem yUK{D j:Nat}:yS w D (j+1)=if(dty w j).day=(D:Int)then yS w D j++[j]else yS w D j:=by
 unfold yS;rw[List.range_succ,List.filter_append];by_cases h:(dty w j).day=(D:Int)
 .simp[h]
 .simp[h]
theorem xOT{n D:Nat}(hv:Val w n)(hr:Ros w ros){st:Nat->Std}(hs:∀k,k<w.M.length->RM w D (wH w ros (late w) k D) (st k)):∀{j:Nat},j<=w.L.length ->
  (∃st',zAT w leaves (yS w D j) ((yS w D j).map ros) st=some st'/\(∀k,k<w.M.length->RM w D (xZ w ros (late w) k D j) (st' k))/\∀i,i<j->(dty w i).day=(D:Int)->okI w leaves ros D i=true) \/
  (zAT w leaves (yS w D j) ((yS w D j).map ros) st=none/\¬∀i,i<j->(dty w i).day=(D:Int)->okI w leaves ros D i=true)
 |0,_=>.inl ⟨st,rfl,hs,λi h=>absurd h (by omega)⟩
 |j+1,hj=>by
  have ih:=xOT hv hr hs (j:=j) (by omega);rw[yUK];by_cases hd:(dty w j).day=(D:Int)
  .rw[if_pos hd,List.map_append,zLD (by simp)];rcases ih with ⟨st',h1,h2,h3⟩|⟨h1,h2⟩
   .rw[h1];show(∃st'',zAT w leaves [j] [ros j] st'=some st''/\_)\/(zAT w leaves [j] [ros j] st'=none/\_);have hrr:=hr.ros j (by omega);have hone:zAT w leaves [j] [ros j] st'=if ros j=-1 then(if leaves then some st' else none)else if 0<=ros j/\ros j<(w.M.length:Int)/\zHB w (ros j).toNat j (st' (ros j).toNat)=true then some (yGQ w st' (ros j).toNat j)else none:=rfl;rw[hone];by_cases e:ros j=-1
    .rw[if_pos e];have ho:okI w leaves ros D j=leaves:=by unfold okI;rw[if_pos e]
     cases leaves with
     |true =>
      refine .inl ⟨st',rfl, ?_, ?_⟩
      .intro k hk;rw[zAS,if_neg (by unfold his;simp;omega)];exact h2 k hk
      .intro i hi hdi;by_cases e2:i=j
       .subst e2;exact ho
       .exact h3 i (by omega) hdi
     |false =>
      refine .inr ⟨rfl, ?_⟩;intro h;have:=h j (by omega) hd;rw[ho]at this;cases this
    .rw[if_neg e];have hk:(ros j).toNat<w.M.length:=by omega
     have hm:=(h2 _ hk).may (k:=(ros j).toNat) hd (hv.on j (by omega)).1;have ho:okI w leaves ros D j=zHB w (ros j).toNat j (st' (ros j).toNat):=by unfold okI;rw[if_neg e,hm]
     by_cases hmb:zHB w (ros j).toNat j (st' (ros j).toNat)=true
     .rw[if_pos ⟨by omega,by omega,hmb⟩];refine .inl ⟨_,rfl, ?_, ?_⟩
      .intro k hk2;rw[zAS];unfold yGQ upd;by_cases ek:k=(ros j).toNat
       .have ek2:his w ros k D j=true:=by unfold his;simp[hd];omega
        rw[if_pos ek2,if_pos ek];subst ek;exact(h2 _ hk).take hd
       .rw[if_neg (by unfold his;simp;omega),if_neg ek];exact h2 k hk2
      .intro i hi hdi;by_cases e2:i=j
       .subst e2;rw[ho];exact hmb
       .exact h3 i (by omega) hdi
     .rw[if_neg (λh=>hmb h.2.2)];refine .inr ⟨rfl, ?_⟩;intro h;have:=h j (by omega) hd;rw[ho]at this;exact hmb this
   .rw[h1];exact .inr ⟨rfl,λh=>h2 λi hi=>h i (by omega)⟩
  .rw[if_neg hd];have hI:∀k,xZ w ros (late w) k D (j+1)=xZ w ros (late w) k D j:=by
    intro k;rw[zAS,if_neg (by unfold his;simp[hd])]
   rcases ih with ⟨st',h1,h2,h3⟩|⟨h1,h2⟩
   .refine .inl ⟨st',h1,λk hk=>by rw[hI];exact h2 k hk, ?_⟩;intro i hi hdi;by_cases e2:i=j
    .subst e2;exact absurd hdi hd
    .exact h3 i (by omega) hdi
   .exact .inr ⟨h1,λh=>h2 λi hi=>h i (by omega)⟩
def xP(w:Wk):Nat->Nat->List Nat
 |0,D=>[]
 |r+1,D=>yS w D w.L.length++xP w r (D+1)
def zNN(w:Wk)(wf:Nat->List Int->List Int)(ros:Nat->Int):Nat->Nat->List Int
 |0,D=>zEM
 |r+1,D=>zAM (zNN w wf ros r (D+1)) (wf D ((yS w D w.L.length).map ros))
theorem xLI{n:Nat}(hv:Val w n)(hr:Ros w ros):∀{r D:Nat} {st:Nat->Std} {v:List Int},(∀k,k<w.M.length->RM w D (wH w ros (late w) k D) (st k)) ->
  (Ch w leaves wf r D st ((xP w r D).map ros) v↔(∀d i,D<=d->d<D+r->i<w.L.length->(dty w i).day=(d:Int)->okI w leaves ros d i=true)/\v=zNN w wf ros r D)
 |0,D,st,v,hs=>by
  unfold Ch xP zNN;constructor
  .intro h;exact⟨λd i h1 h2=>by omega,h.2⟩
  .intro h;exact⟨rfl,h.2⟩
 |r+1,D,st,v,hs=>by
  unfold Ch;have hday:=xOT (leaves:=leaves) hv hr hs (Nat.le_refl _);have hfl:(xP w (r+1) D).map ros=(yS w D w.L.length).map ros++(xP w r (D+1)).map ros:=by
   show(yS w D w.L.length++xP w r (D+1)).map ros=_;rw[List.map_append]
  rw[hfl];constructor
  .rintro⟨a,b,st',u,h1,h2,h3,h4⟩;have hl:=(zEI h1).1;obtain⟨ha,hb⟩:=List.append_inj h3 (by rw[List.length_map,hl]);subst ha hb;rcases hday with ⟨st2,g1,g2,g3⟩|⟨g1,_⟩
   .rw[g1]at h1;cases h1
    have hp:∀k,k<w.M.length->RM w (D+1) (wH w ros (late w) k (D+1)) (zDN w D st' k):=by
     intro k hk;unfold zDN;rw[if_pos hk];exact(g2 k hk).past
    obtain⟨k1,k2⟩:=(xLI hv hr hp).1 h2;refine⟨?_,by rw[h4,k2];rfl⟩
    intro d i h5 h6 h7 h8;by_cases e:d=D
    .subst e;exact g3 i h7 h8
    .exact k1 d i (by omega) (by omega) h7 h8
   .rw[g1]at h1;cases h1
  .rintro⟨h1,h2⟩;rcases hday with ⟨st2,g1,g2,g3⟩|⟨_,g2⟩
   .have hp:∀k,k<w.M.length->RM w (D+1) (wH w ros (late w) k (D+1)) (zDN w D st2 k):=by
     intro k hk;unfold zDN;rw[if_pos hk];exact(g2 k hk).past
    refine⟨_,_,st2,zNN w wf ros r (D+1),g1,(xLI hv hr hp).2 ⟨λd i h3 h4=>h1 d i (by omega) (by omega),rfl⟩,rfl,h2⟩
   .exact absurd (λi hi=>h1 D i (Nat.le_refl _) (by omega) hi) g2
theorem yUU:∀{r D:Nat} {st:Nat->Std} {who v:List Int},Ch w leaves wf r D st who v->who.length=(xP w r D).length/\∀x∈who, -1<=x/\x<(w.M.length:Int)
 |0,_,_,_,_,h=>by rw[h.1];exact⟨rfl,λx h=>by cases h⟩
 |r+1,D,st,who,v,h=>by
  obtain⟨a,b,st',u,h1,h2,h3,_⟩:=h;obtain⟨g1,g2⟩:=yUU h2;obtain⟨g3,g4⟩:=zEI h1;rw[h3];refine⟨by unfold xP;rw[List.length_append,List.length_append,g1,g3], ?_⟩
  intro x hx;rcases List.mem_append.1 hx with hx|hx
  .exact g4 x hx
  .exact g2 x hx
theorem zXZ(hv:∀i,i<w.L.length->(dty w i).on<=(dty w i).hi){k D:Nat}:∀{j m:Nat},j<=m->m<=w.L.length->(xZ w ros (late w) k D j).used<=(xZ w ros (late w) k D m).used
  | j, 0, h, _ => by have:j=0:=by omega
                     subst this;exact Int.le_refl _
  |j,m+1,h,hm=>by
    by_cases e:j=m+1
    . subst e;exact Int.le_refl _
    . have ih:=zXZ hv (k:=k) (D:=D) (j:=j) (m:=m) (by omega) (by omega);rw[zAS];have:=hv m (by omega);split
      . have:(zDM w (late w) (xZ w ros (late w) k D m) m).used=(xZ w ros (late w) k D m).used+(late w m-(dty w m).on):=by unfold zDM take;split <;> rfl
        unfold late at this ⊢;unfold late at ih;omega
      . exact ih
theorem yNJ(hv : ∀i,i<w.L.length->(dty w i).on<=(dty w i).hi){k:Nat}:∀{D E2:Nat},D<=E2->(wH w ros (late w) k D).used<=(wH w ros (late w) k E2).used
  | D, 0, h => by have:D=0:=by omega
                  subst this;exact Int.le_refl _
  |D,E2+1,h=>by
    by_cases e:D=E2+1
    . subst e;exact Int.le_refl _
    . have ih:=yNJ hv (k:=k) (D:=D) (E2:=E2) (by omega);have:=zXZ (ros:=ros) hv (k:=k) (D:=E2) (Nat.zero_le _) (Nat.le_refl _);exact Int.le_trans ih this
theorem xTZ{n:Nat}(hv:Val w n)(hr:Ros w ros):(∀d i,0<=d->d<0+n->i<w.L.length->(dty w i).day=(d:Int)->okI w leaves ros d i=true)↔zAF w ros (late w)/\(leaves=false->∀i,i<w.L.length->ros i≠-1):=by
 constructor
 .intro h;have hday:∀i,i<w.L.length->∃d:Nat,d<n/\(dty w i).day=(d:Int):=by
   intro i hi;have:=hv.duty i hi;exact⟨(dty w i).day.toNat,by omega,by omega⟩
  refine⟨?_, ?_⟩
  .intro q k i hk hq;rcases hq with ⟨h1,h2⟩|⟨h1,h2⟩
   .by_cases e:ros i=(k:Int)
    .obtain⟨d,hd,hdi⟩:=hday i h2;have ho:=h d i (by omega) (by omega) h2 hdi;unfold okI at ho;rw[if_neg (by omega)]at ho;have e2:(ros i).toNat=k:=by omega
     rw[e2]at ho;unfold zHB at ho;rw[Bool.and_eq_true]at ho;have ho:=List.all_eq_true.1 ho.1 q (List.mem_range.2 h1);rw[zQE h2 e hdi h1]at ho;simpa using ho
    .unfold wQ;rw[if_neg (by omega),decide_eq_false e,Bool.false_and]
   .subst h1 h2;unfold wQ;rw[if_pos rfl,<- yGO hv.toDays];apply decide_eq_false;have hu:∀D:Nat,D<=n->(wH w ros (late w) k D).used<=w.N:=by
     intro D;induction D with
     |zero=>intro _;exact hv.used k hk
     |succ D ih =>
      intro hD;have hj:∀j:Nat,j<=w.L.length->(xZ w ros (late w) k D j).used<=w.N:=by
       intro j;induction j with
       |zero=>intro _;exact ih (by omega)
       |succ j ihj =>
        intro hj;rw[zAS];split
        .rename_i hh;unfold his at hh;simp only[Bool.and_eq_true,decide_eq_true_eq]at hh;have ho:=h D j (by omega) (by omega) (by omega) hh.2;unfold okI at ho;rw[if_neg (by omega)]at ho;have e2:(ros j).toNat=k:=by omega
         rw[e2]at ho;unfold zHB at ho;rw[Bool.and_eq_true]at ho;exact of_decide_eq_true ho.2
        .exact ihj (by omega)
      exact hj w.L.length (Nat.le_refl _)
    have:=hu n (Nat.le_refl _);omega
  .intro hl i hi e;obtain⟨d,hd,hdi⟩:=hday i hi;have ho:=h d i (by omega) (by omega) hi hdi;unfold okI at ho;rw[if_pos e,hl]at ho;cases ho
 .rintro⟨h1,h2⟩ d i _ hd hi hdi;unfold okI;have hrr:=hr.ros i hi;by_cases e:ros i=-1
  .rw[if_pos e];cases leaves with
   |true=>rfl
   |false=>exact absurd e (h2 rfl i hi)
  .rw[if_neg e];have hk:ros i=((ros i).toNat:Int):=by omega
   unfold zHB;rw[Bool.and_eq_true];refine⟨?_, ?_⟩
   .apply List.all_eq_true.2;intro q hq;have hq:=List.mem_range.1 hq;rw[zQE hi hk hdi hq,h1 q _ i (by omega) (.inl ⟨hq,hi⟩)];rfl
   .apply decide_eq_true;have hs:xZ w ros (late w) (ros i).toNat d (i+1)=take (xZ w ros (late w) (ros i).toNat d i) (dty w i) (dty w i).hi:=by
     rw[zAS,if_pos (by unfold his;simp[hdi];omega)];rfl
    rw[<- hs];have hon:=λi hi=>(hv.on i hi).2
    have a1:=zXZ (ros:=ros) hon (k:=(ros i).toNat) (D:=d) (j:=i+1) (m:=w.L.length) (by omega) (Nat.le_refl _);have a2:=yNJ (ros:=ros) hon (k:=(ros i).toNat) (D:=d+1) (E2:=n) (by omega);have a3:=h1 5 (ros i).toNat 0 (by omega) (.inr ⟨rfl,rfl⟩);unfold wQ at a3;rw[if_pos rfl,<- yGO hv.toDays]at a3;have a3:=of_decide_eq_false a3;have a4:xZ w ros (late w) (ros i).toNat d w.L.length=wH w ros (late w) (ros i).toNat (d+1):=rfl;rw[a4]at a1;omega
theorem zXB{n:Nat}(hv:Val w n)(hr:Ros w ros){st:Nat->Std}(hs:∀k,k<w.M.length->st k=before (drQ w k)){v:List Int}:Ch w leaves wf n 0 st ((xP w n 0).map ros) v↔(zAF w ros (late w)/\(leaves=false->∀i,i<w.L.length->ros i≠-1))/\v=zNN w wf ros n 0:=by
 rw[xLI hv hr,xTZ hv hr];intro k hk;rw[hs k hk];exact⟨rfl,rfl,by show(-1:Int)<=0;omega,λ_=>rfl,.inl rfl⟩
end
end Go.Proofs.YtflfajphjmajpaaGreat
