
import Derived.Test.YtflfajphjmajpaaGreatPE
namespace Go.Proofs.YtflfajphjmajpaaGreat
variable{n:Nat}
section
variable{w:Wk}{leaves:Bool}{wf:Nat->List Int->List Int}{ros:Nat->Int}
theorem zQH{D j i:Nat}:i∈yS w D j↔i<j/\(dty w i).day=(D:Int):=by
 unfold yS;rw[List.mem_filter,List.mem_range,decide_eq_true_eq]
theorem zQG:∀{r D i:Nat},i∈xP w r D↔i<w.L.length/\∃d:Nat,D<=d/\d<D+r/\(dty w i).day=(d:Int)
 |0,D,i=>by
  unfold xP;constructor
  .intro h;cases h
  .rintro⟨_,d,h1,h2,_⟩;omega
 |r+1,D,i=>by
  unfold xP;rw[List.mem_append,zQH,zQG];constructor
  .rintro(⟨h1,h2⟩|⟨h1,d,h2,h3,h4⟩)
   .exact⟨h1,D,Nat.le_refl _,by omega,h2⟩
   .exact⟨h1,d,by omega,by omega,h4⟩
  .rintro⟨h1,d,h2,h3,h4⟩;by_cases e:d=D
   .subst e;exact .inl ⟨h1,h4⟩
   .exact .inr ⟨h1,d,by omega,by omega,h4⟩
theorem zOJ:∀{r D:Nat},(xP w r D).Nodup
 |0,D=>List.Pairwise.nil
 |r+1,D=>by
  unfold xP;rw[List.nodup_append];refine⟨?_,zOJ, ?_⟩
  .unfold yS;exact(List.pairwise_lt_range.imp λh=>Nat.ne_of_lt h).filter _
  .intro a ha b hb e;subst e;obtain⟨_,h1⟩:=zQH.1 ha;obtain⟨_,d,h2,_,h3⟩:=zQG.1 hb;omega
theorem xKU(hd:Days w n):(xP w n 0).Perm (List.range w.L.length):=by
 rw[List.perm_ext_iff_of_nodup zOJ List.nodup_range];intro i;rw[zQG,List.mem_range];constructor
 .intro h;exact h.1
 .intro h;have:=hd.duty i h;exact⟨h,(dty w i).day.toNat,by omega,by omega,by omega⟩
theorem yBH(hd:Days w n)(h:∀x∈(xP w n 0).map ros, -1<=x/\x<(w.M.length:Int)):Ros w ros:=by
 refine⟨λi hi=>h _ (List.mem_map.2 ⟨i, ?_,rfl⟩)⟩
 have:=hd.duty i hi;exact zQG.2 ⟨hi,(dty w i).day.toNat,by omega,by omega,by omega⟩
def zHE(who:List Int):Int:=(who.filter λr=>decide (r≠-1)).length
def zFT(D:Nat)(who:List Int):List Int:=[zHE who,0,0,0,0,0]
def zOR(w:Wk)(ros:Nat->Int):Int:=((List.range w.L.length).filter λi=>decide (ros i≠-1)).length
def zBY(w:Wk)(D:Nat)(who:List Int):List Int:=(List.range 6).map λk=>if k<w.M.length/\(drQ w k).qc.contains (D:Int)=true/\who.contains (k:Int)=false then 1 else 0
theorem yLT{a b:List Int}:zHE (a++b)=zHE a+zHE b:=by
 unfold zHE;rw[List.filter_append,List.length_append];omega
theorem xLG{l:List Nat}:zHE (l.map ros)=((l.filter λi=>decide (ros i≠-1)).length:Nat):=by
 unfold zHE;rw[List.filter_map,List.length_map];rfl
theorem yBE:∀{r D:Nat},zNN w zFT ros r D=[zHE ((xP w r D).map ros),0,0,0,0,0]
 |0,D=>rfl
 |r+1,D=>by
  show zAM (zNN w zFT ros r (D+1)) (zFT D _)=[zHE ((yS w D w.L.length++xP w r (D+1)).map ros),0,0,0,0,0];rw[yBE,List.map_append,yLT];unfold zFT zAM;simp[Int.add_comm]
theorem ySJ(hd:Days w n):zNN w zFT ros n 0=[zOR w ros,0,0,0,0,0]:=by
 rw[yBE,xLG];unfold zOR;rw[((xKU hd).filter _).length_eq]
def wFL(w:Wk)(ros:Nat->Int):Prop:=∀i,i<w.L.length->ros i≠-1
def wQA(w:Wk)(n:Nat):Option (List Int×List Int)->Prop
 |none=>∀ros,Ros w ros->zAF w ros (late w)->¬wFL w ros
 |some (who,v)=>who.length=(xP w n 0).length/\∀ros,(xP w n 0).map ros=who->Ros w ros/\zAF w ros (late w)/\wFL w ros
def wPZ(w:Wk)(n:Nat):Option (List Int×List Int)->Prop
 |none=>False
 |some (who,v)=>who.length=(xP w n 0).length/\∀ros,(xP w n 0).map ros=who->Ros w ros/\zAF w ros (late w)/\v=[zOR w ros,0,0,0,0,0]
theorem wNT(hv:Val w n){st:Nat->Std}(hs:∀k,k<w.M.length->st k=before (drQ w k)){e:Option (List Int×List Int)}(h:wN 6 (Ch w false (zBY w) n 0 st) e):wQA w n e:=by
 cases e with
 |none =>
  intro ros hr hl hf;exact h _ _ ((zXB hv hr hs).2 ⟨⟨hl,λ_=>hf⟩,rfl⟩)
 |some p =>
  obtain⟨who,v⟩:=p;obtain⟨h1,h2⟩:=h;obtain⟨h4,h5⟩:=yUU h1;refine⟨h4, ?_⟩
  intro ros hros;subst hros;have hr:=yBH hv.toDays h5;obtain⟨⟨k1,k2⟩,k3⟩:=(zXB hv hr hs).1 h1;exact⟨hr,k1,k2 rfl⟩
theorem xJX(hv:Val w n):Ros w (λ_=>-1)/\zAF w (λ_=>-1) (late w):=by
 refine⟨⟨λi hi=>⟨Int.le_refl _,by show(-1:Int)<_;omega⟩⟩, ?_⟩
 intro q k i hk hq;unfold wQ;by_cases h:q=5
 .rw[if_pos h];have:((List.range w.L.length).filter λi=>decide ((-1:Int)=(k:Int)))=[]:=by
   apply List.filter_eq_nil_iff.2;intro a _ h;have:=of_decide_eq_true h;omega
  have hu:=hv.used k hk;apply decide_eq_false;rw[this];show ¬w.N<(drQ w k).used+0;omega
 .rw[if_neg h,decide_eq_false (by show ¬(-1:Int)=(k:Int);omega),Bool.false_and]
theorem wMW(hv:Val w n){st:Nat->Std}(hs:∀k,k<w.M.length->st k=before (drQ w k)){e:Option (List Int×List Int)}(h:wN 6 (Ch w true zFT n 0 st) e):wPZ w n e:=by
 cases e with
 |none =>
  obtain⟨h1,h2⟩:=xJX hv;exact h _ _ ((zXB hv h1 hs).2 ⟨⟨h2,λh=>by cases h⟩,rfl⟩)
 |some p =>
  obtain⟨who,v⟩:=p;obtain⟨h1,h2⟩:=h;obtain⟨h4,h5⟩:=yUU h1;refine⟨h4, ?_⟩
  intro ros hros;subst hros;have hr:=yBH hv.toDays h5;obtain⟨⟨k1,k2⟩,k3⟩:=(zXB hv hr hs).1 h1;rw[ySJ hv.toDays]at k3;exact⟨hr,k1,k3⟩
end
end Go.Proofs.YtflfajphjmajpaaGreat
