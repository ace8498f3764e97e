import Derived.Test.YtgfiniccfpfplaaGreatTA
import Derived.Test.YtgfiniccfpfplaaGreatTy
import Derived.Test.YtgfiniccfpfplaaGreatXQ
import Derived.Test.YtgfiniccfpfplaaGreatLayD
set_option linter.unusedVariables false
set_option linter.unusedSimpArgs false
set_option maxRecDepth 20000
namespace Go.Proofs.YtgfiniccfpfplaaGreat
open Go Go.Lay
open Tryz renaming prog -> Pg
theorem yJV {ox oy:Operand} {t:TypeId} {a b:Int} (h:b≠0):vO Pg .rem t ox oy (iV a) (iV b)=some (iV (a.tmod b)):=by
 simp [vO,zDP,yLI,h]
abbrev zNS (x:Int):Value:=.int .u8 x
section
variable {Z z:St} {w:Wk} {p q r pw:Option Addr} {l m c d rl rc lw cw:Nat} {xs ws:List Int}
theorem xYL (h:WkP z 92 76 w p l q m) (hw:SlV Pg z 5 1 pw lw (ws.map zNS)) (hb:∀ x∈ws,0<=x/\x<=255) (hl:l<=12) (hm6:m<=6) :
  ∃ out p' c' z',zD Pg 39 [.agg ⟨wkc w.M p l c q m d w.rest w.run w.j⟩,.slice pw lw cw] z (.slice p' l c') z'/\New z z'/\yC z' p' l out/\∀ y∈out, -1<=y/\y<(m:Int):=by
 obtain ⟨t1,ht1⟩:∃ t1,t1=z.re.row (wkc w.M p l c q m d w.rest w.run w.j) 6:=⟨_,rfl⟩;have n1:t1.y=z.y+1:=by rw [ht1];rfl
 have M1:New z.re t1:=by rw [ht1];exact New.row _ _ _
 have w1:Row t1 ⟨z.y,0,none⟩ (wkc w.M p l c q m d w.rest w.run w.j):=by rw [ht1];exact xH z.re _ _
 suffices hmain:zO Pg 39 [.agg ⟨wkc w.M p l c q m d w.rest w.run w.j⟩,.slice pw lw cw] z.re fun v s=>New z.re s/\∃ out p' c',v=.slice p' l c'/\yC s p' l out/\∀ y∈out, -1<=y/\y<(m:Int) by
  obtain ⟨v,s,h1,h2,out,p',c',rfl,h3,h4⟩:=zO.new hmain (by
   rintro v s s' ⟨out,p',c',e,g1,g2⟩ hle;exact ⟨out,p',c',e,SlV.le g1 hle,g2⟩) (by
   rintro v s hr ⟨out,p',c',rfl,g1,g2⟩;cases p' with
   | some a=>exact Bool.noConfusion (show false=true from hr)
   | none=>exact ⟨out,none,c',rfl,zCG g1,g2⟩)
  exact ⟨out,p',c',s,h1,h2,h3,h4⟩
 let Jn:Nat->Option Addr->Nat->Nat->St->Prop:=fun j p5 l5 c5 y=>∃ out:List Int,New z.re y/\Row y ⟨z.y,0,none⟩ (wkc w.M p l c q m d w.rest w.run w.j)/\Ax y (z.y+1) 1 p5 l5 c5 (out.map yA)/\l5=j/\out.length=j/\∀ y∈out, -1<=y/\y<(m:Int)
 have hL:yDK pw lw cw z.y none 0 0 0 t1 (fun p5 l5 c5 y=>Jn l p5 l5 c5 y):=by
  refine yTQ (Inv:=fun k p5 l5 c5 i y=>∃ j:Nat,i=(j:Int)/\j+k=l/\Jn j p5 l5 c5 y) ?_ l none 0 0 0 t1 ⟨0,rfl,by omega,[],M1,w1,Ax.nil,rfl,rfl,fun y hy=>by cases hy⟩;rintro k p5 l5 c5 i y ⟨j,rfl,hk,out,J1,J2,J3,rfl,J4,J5⟩;have h1:zB Pg y 22 ⟨z.y,1,none⟩=some (.slice p l c):=J2.ld zBF rfl;have h2:zB Pg y 23 ⟨z.y,2,none⟩=some (.slice q m d):=J2.ld zEZ rfl;by_cases hj:l5<l;rotate_left
  ·have:l5=l:=by omega
   subst this;exact xKS h1 ⟨out,J1,J2,J3,rfl,J4,J5⟩ (by omega)
  have yn:z.y<y.y:=J2.lt;have step:∀ x:Int, -1<=x/\x<(m:Int)->∃ p4 c4 s4,yF Pg 26 26 (.slice p5 l5 c5) (.slice (some ⟨y.y,0,none⟩) 1 1) (y.row [iV x] 1)=some (.slice p4 (l5+1) c4,s4)/\∃ k',k' < k/\∃ j':Nat,(l5:Int)+1=(j':Int)/\j'+k'=l/\Jn j' p4 (l5+1) c4 s4:=fun x hx=>by
   obtain ⟨t3,ht3⟩:∃ t3,t3=y.row [iV x] 1:=⟨_,rfl⟩;have M3:New y t3:=by rw [ht3];exact New.row _ _ _
   have r3:Row t3 ⟨y.y,0,none⟩ [iV x]:=by rw [ht3];exact xH _ _ _
   have nx3:=M3.nx;obtain ⟨p4,c4,s4,ap4,A4,O4,b4⟩:=Ax.append (P:=Pg) (k:=1) (m:=1) (n0:=z.y+1) zAU (J3.le M3.le) (r3.sl rfl) (by omega) rfl (by omega);have N4:New z.re s4:=(J1.trans M3).of_only O4 (fun b hb=>by have:=(J3.bd b hb).1;show z.y<=b;omega);have w4:=O4.rw' (J2.le M3.le) (fun hb=>by have hb:AtP p5 z.y:=hb;have:=(J3.bd _ hb).1;omega);rw [ht3] at ap4;exact ⟨p4,c4,s4,ap4,k-1,by omega,l5+1,by omega,by omega,out++[x],N4,w4,by rw [List.map_append];exact A4,rfl,by simp [J4],fun y hy=>by
    rcases List.mem_append.1 hy with hy | hy
    ·exact J5 y hy
    ·rw [List.mem_singleton.1 hy];exact hx⟩
  by_cases g1:0<lw;rotate_left
  ·obtain ⟨p4,c4,s4,ap4,nx⟩:=step (-1) ⟨by omega,by omega⟩;exact xKT h1 ap4 nx (by omega) (by omega) ⟨by omega,by omega⟩
  by_cases g2:0<m;rotate_left
  ·obtain ⟨p4,c4,s4,ap4,nx⟩:=step (-1) ⟨by omega,by omega⟩;exact xKU h1 h2 ap4 nx (by omega) (by omega) (by omega) ⟨by omega,by omega⟩
  have hw1:SlV Pg y 5 1 pw lw (ws.map zNS):=SlV.le hw ((le0 z).trans J1.le);have hmod:l5 % lw<lw:=Nat.mod_lt _ g1;obtain ⟨aw,rfl,x,hx,ldx⟩:=xZ (f:=zNS) hw1 hmod;have hxb:=hb x (List.mem_of_getElem? hx);have eT:(l5:Int).tmod (lw:Int)=((l5 % lw:Nat):Int):=by rw [Int.tmod_eq_emod_of_nonneg (by omega)];omega
  have rm1:vO Pg .rem 3 (.tmp 25) (.tmp 27) (iV (l5:Int)) (iV (lw:Int))=some (iV ((l5 % lw:Nat):Int)):=by rw [yJV (by omega),eT]
  have rm2:vO Pg .rem 3 (.tmp 31) (.tmp 35) (iV x) (iV ((m:Int)+1))=some (iV (x.tmod ((m:Int)+1))):=yJV (by omega);have e2:x.tmod ((m:Int)+1)=x % ((m:Int)+1):=Int.tmod_eq_emod_of_nonneg (by omega);have e3:=Int.emod_nonneg x (show (m:Int)+1≠0 by omega);have e4:=Int.emod_lt_of_pos x (show 0<(m:Int)+1 by omega);obtain ⟨p4,c4,s4,ap4,nx⟩:=step (x.tmod ((m:Int)+1)-1) ⟨by omega,by omega⟩;exact xKV h1 h2 rm1 ldx rm2 ap4 nx (by omega) (by omega) (by omega) ⟨by omega,by omega⟩ ⟨by omega,by omega⟩ ⟨by omega,by omega⟩ ⟨by omega,by omega⟩ ⟨by omega,by omega⟩
 subst ht1;refine xTW hL ?_
 rintro p5 l5 c5 y ⟨out,J1,J2,J3,rfl,J4,J5⟩;exact yTP ⟨J1,out,p5,c5,rfl,Ax.slv (by rw [zAQ _ .i64];exact J3) (by simp [J4]) (fun v hv=>by obtain ⟨x,_,rfl⟩:=List.mem_map.1 hv;exact vY x),J5⟩
end
section
variable {n0 c':Nat} {p':Option Addr}
section
variable {Z z:St} {w:Wk} {p q r pw:Option Addr} {l m c d rl rc lw cw:Nat} {xs ws:List Int}
theorem xZM (h:WkP Z 92 76 w p l q m) {i:Nat} (hi:i<l):∃ a,p=some a/\zB Pg Z 90 (zJ a (Int.toNat (i:Int)*5+2))=some (.agg ⟨[iV (dtQ w i).lo,iV (dtQ w i).hi]⟩):=by
 have hd:=h.dty;have hln:=h.len.1;obtain ⟨a,rfl,hr⟩:=hd.some hi;refine ⟨a,rfl, ?_⟩
 have hx:(w.N.map uK)[i]?=some (uK (dtQ w i)):=by
  rw [List.getElem?_map];unfold dtQ;rw [List.getD_eq_getElem?_getD,List.getElem?_eq_getElem (by omega:i<w.N.length)];rfl
 obtain ⟨g1,g2⟩:=yBQ hd.2.2 hx;rw [Int.toNat_natCast];refine hr.loadN wDK yUW ?_ rfl (by omega);have e:((wD (w.N.map uK)).drop (i*5+2)).take 2=((((wD (w.N.map uK)).drop (i*5)).take 5).drop 2).take 2:=by
  rw [List.drop_take,List.drop_drop,List.take_take];rfl
 rw [e,g1];rfl
theorem xEL (h:WkP z 92 76 w p l q m) (hs:Sane w l m) (hw:SlV Pg z 5 1 pw lw (ws.map zNS)) (hb:∀ x∈ws,0<=x/\x<=255) (hl:l<=12) :
  ∃ out p' c' z',zD Pg 38 [.agg ⟨wkc w.M p l c q m d w.rest w.run w.j⟩,.slice pw lw cw] z (.slice p' l c') z'/\New z z'/\Ax z' (z.y+1) 1 p' l c' (out.map yA)/\out.length=l/\∀ i,i<l->(dtQ w i).lo<=zY out i/\zY out i<=(dtQ w i).hi:=by
 obtain ⟨t1,ht1⟩:∃ t1,t1=z.re.row (wkc w.M p l c q m d w.rest w.run w.j) 6:=⟨_,rfl⟩;have n1:t1.y=z.y+1:=by rw [ht1];rfl
 have M1:New z.re t1:=by rw [ht1];exact New.row _ _ _
 have w1:Row t1 ⟨z.y,0,none⟩ (wkc w.M p l c q m d w.rest w.run w.j):=by rw [ht1];exact xH z.re _ _
 suffices hmain:zO Pg 38 [.agg ⟨wkc w.M p l c q m d w.rest w.run w.j⟩,.slice pw lw cw] z.re fun v s=>New z.re s/\∃ out p' c',v=.slice p' l c'/\Ax s (z.y+1) 1 p' l c' (out.map yA)/\out.length=l/\∀ i,i<l->(dtQ w i).lo<=zY out i/\zY out i<=(dtQ w i).hi by
  obtain ⟨v,s,h1,h2,out,p',c',rfl,h3,h4⟩:=zO.new hmain (by
   rintro v s s' ⟨out,p',c',e,g1,g2⟩ hle;exact ⟨out,p',c',e,g1.le hle,g2⟩) (by
   rintro v s hr ⟨out,p',c',rfl,g1,g2⟩;cases p' with
   | some a=>exact Bool.noConfusion (show false=true from hr)
   | none =>
    rcases g1 with g1 | ⟨b,e,_⟩
    ·refine ⟨out,none,c',rfl, ?_,g2⟩
     have hc:out.map yA=[]/\l=0/\c'=0:=by
      generalize out.map yA=cs at g1 ⊢;cases g1
      exact ⟨rfl,rfl,rfl⟩
     rw [hc.1,hc.2.1,hc.2.2];exact .inl .nil
    ·cases e)
  exact ⟨out,p',c',s,h1,h2,h3,h4⟩
 let Jn:Nat->Option Addr->Nat->Nat->St->Prop:=fun j p5 l5 c5 y=>∃ out:List Int,New z.re y/\Row y ⟨z.y,0,none⟩ (wkc w.M p l c q m d w.rest w.run w.j)/\Ax y (z.y+1) 1 p5 l5 c5 (out.map yA)/\l5=j/\out.length=j/\∀ i,i<j->(dtQ w i).lo<=zY out i/\zY out i<=(dtQ w i).hi
 have hL:yDC pw lw cw z.y none 0 0 0 t1 (fun p5 l5 c5 y=>Jn l p5 l5 c5 y):=by
  refine yTJ (Inv:=fun k p5 l5 c5 i y=>∃ j:Nat,i=(j:Int)/\j+k=l/\Jn j p5 l5 c5 y) ?_ l none 0 0 0 t1 ⟨0,rfl,by omega,[],M1,w1,Ax.nil,rfl,rfl,fun y hy=>by omega⟩;rintro k p5 l5 c5 i y ⟨j,rfl,hk,out,J1,J2,J3,rfl,J4,J5⟩;have h1:zB Pg y 22 ⟨z.y,1,none⟩=some (.slice p l c):=J2.ld zBF rfl;by_cases hj:l5<l;rotate_left
  ·have:l5=l:=by omega
   subst this;exact xKO h1 ⟨out,J1,J2,J3,rfl,J4,J5⟩ (by omega)
  have yn:z.y<y.y:=J2.lt;have hy:=h.le ((le0 z).trans J1.le);obtain ⟨pa,rfl,lo⟩:=xZM hy hj;have hd:=hs.duty l5 (by omega);have step:∀ x:Int,(dtQ w l5).lo<=x/\x<=(dtQ w l5).hi->∃ p4 c4 s4,yF Pg 26 26 (.slice p5 l5 c5) (.slice (some ⟨y.y+1,0,none⟩) 1 1) (((y.row [iV 0,iV 0] 2).own y.y [iV (dtQ w l5).lo,iV (dtQ w l5).hi] 2).row [iV x] 1)=some (.slice p4 (l5+1) c4,s4)/\∃ k',k' < k/\∃ j':Nat,(l5:Int)+1=(j':Int)/\j'+k'=l/\Jn j' p4 (l5+1) c4 s4:=fun x hx=>by
   obtain ⟨t2,ht2⟩:∃ t2,t2=(y.row [iV 0,iV 0] 2).own y.y [iV (dtQ w l5).lo,iV (dtQ w l5).hi] 2:=⟨_,rfl⟩;have n2:t2.y=y.y+1:=by rw [ht2];rfl
   have M2:New y t2:=by rw [ht2];exact (New.row _ _ _).own (Nat.le_refl _)
   obtain ⟨t3,ht3⟩:∃ t3,t3=t2.row [iV x] 1:=⟨_,rfl⟩;have M3:New y t3:=by rw [ht3];exact M2.row'
   have r3:Row t3 ⟨y.y+1,0,none⟩ [iV x]:=by rw [ht3,<- n2];exact xH _ _ _
   have nx3:=M3.nx;obtain ⟨p4,c4,s4,ap4,A4,O4,b4⟩:=Ax.append (P:=Pg) (k:=1) (m:=1) (n0:=z.y+1) zAU (J3.le M3.le) (r3.sl rfl) (by omega) rfl (by omega);have N4:New z.re s4:=(J1.trans M3).of_only O4 (fun b hb=>by have:=(J3.bd b hb).1;show z.y<=b;omega);have w4:=O4.rw' (J2.le M3.le) (fun hb=>by have hb:AtP p5 z.y:=hb;have:=(J3.bd _ hb).1;omega);rw [ht3,ht2] at ap4;exact ⟨p4,c4,s4,ap4,k-1,by omega,l5+1,by omega,by omega,out++[x],N4,w4,by rw [List.map_append];exact A4,rfl,by simp [J4],fun i hi=>by
    unfold zY;rw [List.getD_eq_getElem?_getD];by_cases e:i<l5
    ·rw [List.getElem?_append_left (by omega),<- List.getD_eq_getElem?_getD];exact J5 i e
    ·have:i=l5:=by omega
     subst this;rw [List.getElem?_append_right (by omega),J4,Nat.sub_self];exact hx⟩
  by_cases g1:0<lw;rotate_left
  ·obtain ⟨p4,c4,s4,ap4,nx⟩:=step (dtQ w l5).hi ⟨by omega,by omega⟩;exact xKP h1 lo ap4 nx (by omega) ⟨by omega,by omega⟩ (by omega) ⟨by omega,by omega⟩
  have hw1:SlV Pg y 5 1 pw lw (ws.map zNS):=SlV.le hw ((le0 z).trans J1.le);have hmod:l5 % lw<lw:=Nat.mod_lt _ g1;have hw2:SlV Pg ((y.row [iV 0,iV 0] 2).own y.y [iV (dtQ w l5).lo,iV (dtQ w l5).hi] 2) 5 1 pw lw (ws.map zNS):=SlV.le hw1 ((New.row _ _ _).own (b:=y.y) (Nat.le_refl _)).le;obtain ⟨aw,rfl,x,hx,ldx⟩:=xZ (f:=zNS) hw2 hmod;have hxb:=hb x (List.mem_of_getElem? hx);have eT:(l5:Int).tmod (lw:Int)=((l5 % lw:Nat):Int):=by rw [Int.tmod_eq_emod_of_nonneg (by omega)];omega
  have rm1:vO Pg .rem 3 (.tmp 30) (.tmp 32) (iV (l5:Int)) (iV (lw:Int))=some (iV ((l5 % lw:Nat):Int)):=by rw [yJV (by omega),eT]
  have rm2:vO Pg .rem 3 (.tmp 36) (.tmp 42) (iV x) (iV ((dtQ w l5).hi-(dtQ w l5).lo+1))=some (iV (x.tmod ((dtQ w l5).hi-(dtQ w l5).lo+1))):=yJV (by omega);have e2:x.tmod ((dtQ w l5).hi-(dtQ w l5).lo+1)=x % ((dtQ w l5).hi-(dtQ w l5).lo+1):=Int.tmod_eq_emod_of_nonneg (by omega);have e3:=Int.emod_nonneg x (show (dtQ w l5).hi-(dtQ w l5).lo+1≠0 by omega);have e4:=Int.emod_lt_of_pos x (show 0<(dtQ w l5).hi-(dtQ w l5).lo+1 by omega);obtain ⟨p4,c4,s4,ap4,nx⟩:=step ((dtQ w l5).lo+x.tmod ((dtQ w l5).hi-(dtQ w l5).lo+1)) ⟨by omega,by omega⟩;exact xKQ h1 lo rm1 ldx rm2 ap4 nx (by omega) ⟨by omega,by omega⟩ (by omega) ⟨by omega,by omega⟩ ⟨by omega,by omega⟩ ⟨by omega,by omega⟩ ⟨by omega,by omega⟩ ⟨by omega,by omega⟩ ⟨by omega,by omega⟩
 subst ht1;refine xTM hL ?_
 rintro p5 l5 c5 y ⟨out,J1,J2,J3,rfl,J4,J5⟩;exact yTI ⟨J1,out,p5,c5,rfl,J3,J4,J5⟩
theorem yMK (h:Ax Z n0 1 p' l c' (xs.map yA)) (hl:xs.length=l):yC Z p' l xs :=
 Ax.slv (by rw [zAQ _ .i64];exact h) (by simpa using hl) (fun v hv=>by obtain ⟨x,_,rfl⟩:=List.mem_map.1 hv;exact vY x)
theorem wBJ {i:Nat} {x:Int} (h:Ax Z n0 1 p' l c' (xs.map yA)) (hl:xs.length=l) (hi:i<l):∃ a Z',p'=some a/\zQ Pg (evL [.pointer (some (zJ a (Int.toNat (i:Int)*1))),iV x]) Z (.store 3 (.tmp 0) (.tmp 1))=some (undef,Z')/\Ax Z' n0 1 p' l c' ((xs.set i x).map yA)/\Only (AtP p') Z Z':=by
  rcases h with h | ⟨b,rfl,rfl,h1,h2,h3,h4⟩
  · cases p' with
    | none =>
      exfalso;generalize xs.map yA=cs at h;cases h
      omega
    | some a =>
      obtain ⟨τ,g1,g2,g3⟩:=wBK (t:=3) (v:=yA x) h rfl vE rfl hi;refine ⟨a,τ,rfl,g1,.inl (by rw [List.map_set];exact g2),g3.mono fun b _ e=>⟨a,rfl,e.symm⟩⟩
  · exact ⟨_,_,rfl,xDB h3 (by omega),.inr ⟨b,rfl,rfl,h1,by simpa using h2,h3.put,h4⟩,(Only.own (S:=(·=b)) (.inr rfl)).mono fun b' _ e=>⟨_,rfl,e.symm⟩⟩
end
end
section
noncomputable section
variable (a_0:oAa) (bI bM:Nat) (b:oAa) (b_l b_c:Nat) (q0:Int->St->Prop) (bJ:Int) (q1:St->Prop) (fy gj:Bool) (Q:Bool->St->Prop) (q2:Bool->Int->St->Prop) (eQ:Int) (Z:St) (Nx:Int->St->Prop) (q3:Bool->Int->St->Prop) (q4:vPa) (Q0:St->Prop) (Q2 Qr:Bool->St->Prop)
def yCW:Code:=(Code.part [1,0,1,0,0] (qh 41))
def zLG:lNa:=[(0,.slice a_0 bI bM),(1,.slice b b_l b_c),(5,iV bJ)]
def yIS:Alt:=⟨Int,.normal,fun t=>zLG a_0 bI bM b b_l b_c t,fun t=>[],fun t Z=>q0 t Z⟩
def yCV (a_0:oAa) (bI bM:Nat) (b:oAa) (b_l b_c:Nat):lNa:=[]
def zIJ:Alt:=⟨Unit,(.exit 0),fun t=>yCV a_0 bI bM b b_l b_c,fun t=>[],fun t Z=>q1 Z⟩
def yCU (a_0:oAa) (bI bM:Nat) (b:oAa) (b_l b_c:Nat) (fy:Bool):lNa:=[(4,.bool fy)]
def zII:Alt:=⟨Bool,.ret,fun t=>yCU a_0 bI bM b b_l b_c t,fun t=>[],fun t Z=>Q t Z⟩
def yCZ:Prop:=qi qj none yCW 34 (zLG a_0 bI bM b b_l b_c bJ) [] [yIS a_0 bI bM b b_l b_c Nx,zIJ a_0 bI bM b b_l b_c Q0,zII a_0 bI bM b b_l b_c Qr] Z
def yTE:Prop:=qk qj none yCW 34 (zLG a_0 bI bM b b_l b_c bJ) [] [zIJ a_0 bI bM b b_l b_c Q0,zII a_0 bI bM b b_l b_c Qr] Z
def yTC:Code:=(Code.part [1,0,1,0,0,1,0,0,1,0,1,0,0] (qh 41))
def zLF:lNa:=[(0,.slice a_0 bI bM),(1,.slice b b_l b_c),(5,iV bJ),(6,.bool gj),(7,iV eQ)]
def xKM:Alt:=⟨Bool × Int,.normal,fun t=>zLF a_0 bI bM b b_l b_c bJ t.1 t.2,fun t=>[],fun t Z=>q2 t.1 t.2 Z⟩
def yCT:lNa:=[(0,.slice a_0 bI bM),(1,.slice b b_l b_c),(5,iV bJ),(6,.bool gj)]
def zPF:Alt:=⟨Bool,(.exit 2),fun t=>yCT a_0 bI bM b b_l b_c bJ t,fun t=>[],fun t Z=>Q t Z⟩
def zLH:Prop:=qi qj none yTC 34 (zLF a_0 bI bM b b_l b_c bJ gj eQ) [] [xKM a_0 bI bM b b_l b_c bJ q3,zPF a_0 bI bM b b_l b_c bJ Q2] Z
def yTD:Prop:=qk qj none yTC 34 (zLF a_0 bI bM b b_l b_c bJ gj eQ) [] [zPF a_0 bI bM b b_l b_c bJ Q2] Z
def yCX:Prop:=kZ qj yCW [1,0,0,1,0,1,0] (zFP 34 [yIS a_0 bI bM b b_l b_c Nx,zIJ a_0 bI bM b b_l b_c Q0,zII a_0 bI bM b b_l b_c Qr]) (.exit 2) 34 (yCT a_0 bI bM b b_l b_c bJ gj) Z
def yCY:Prop:=kZ qj (qh 41) [1,0,1,0] (ql 41 q4) (.exit 0) 34 (yCV a_0 bI bM b b_l b_c) Z
def xBD:Prop:=kZ qj (qh 41) [1,0,1,0] (ql 41 q4) .ret 34 (yCU a_0 bI bM b b_l b_c fy) Z
end
variable {a_0 b:oAa} {bI bM b_l b_c:Nat} {Inv:Nat->Int->St->Prop} {Q0 P0:St->Prop} {Qr Q2 P2 Pr:Bool->St->Prop} {bJ eQ nM nT nU nP nH nI:Int} {Z:St} {Nx:Bool->Int->St->Prop} {a_0_a b_a:Addr} {gj:Bool} {Q:vPa}
theorem yTB (hb:∀ k bJ Z,Inv k bJ Z->yCZ a_0 bI bM b b_l b_c bJ Z (NX1 Inv k) Q0 Qr):∀ k bJ Z,Inv k bJ Z->yTE a_0 bI bM b b_l b_c bJ Z Q0 Qr :=
 xE (ai (xV 0) (ai uZ trivial)) hb
theorem yTA {Inv:Nat->Bool->Int->St->Prop} (hb:∀ k gj eQ Z,Inv k gj eQ Z->zLH a_0 bI bM b b_l b_c bJ gj eQ Z (NX2 Inv k) Q2):∀ k gj eQ Z,Inv k gj eQ Z->yTD a_0 bI bM b b_l b_c bJ gj eQ Z Q2 :=
 zCR (ai (xV 2) trivial) hb
theorem xKJ (nx:Nx true (eQ+1) Z) (u1:eQ<(b_l:Int):=by omega) (u2:I6 (eQ+1):=by omega):zLH a_0 bI bM b b_l b_c bJ true eQ Z Nx Q2 :=
 kO 0 (true,eQ+1) [.g,.g,.g,.b true,.g,.g,.g,.g,.g,.n (eQ+1),.g] (fun _ f=>an2 (zR u1) (w64 u2) f) nx
theorem xKI (h1:lz Z 45 (zJ a_0_a (Int.toNat bJ*3)) (qf (rcd nM nT nU))) (h2:lz Z 45 (zJ b_a (Int.toNat eQ*3)) (qf (rcd nP nH nI))) (h3:vO Pg .eql 45 (.tmp 25) (.tmp 29) (qf (rcd nM nT nU)) (qf (rcd nP nH nI))=some (.bool true)) (nx:Nx true (eQ+1) Z) (u1:eQ<(b_l:Int):=by omega) (u2:Ix bJ bI:=by omega) (u3:Ix eQ b_l:=by omega) (u4:I6 (eQ+1):=by omega):zLH (some a_0_a) bI bM (some b_a) b_l b_c bJ false eQ Z Nx Q2 :=
 kO 0 (true,eQ+1) [.g,.g,.g,.b true,.g,.g,.g,.g,.i,.l (qf (rcd nM nT nU)),.g,.g,.i,.l (qf (rcd nP nH nI)),.v (.bool true),.g,.g,.g,.n (eQ+1),.g] (fun _ f=>ai (zR u1) (an6 u2 h1 u3 h2 h3 (w64 u4) f)) nx
theorem xKH (h1:lz Z 45 (zJ a_0_a (Int.toNat bJ*3)) (qf (rcd nM nT nU))) (h2:lz Z 45 (zJ b_a (Int.toNat eQ*3)) (qf (rcd nP nH nI))) (h3:vO Pg .eql 45 (.tmp 25) (.tmp 29) (qf (rcd nM nT nU)) (qf (rcd nP nH nI))=some (.bool false)) (nx:Nx false (eQ+1) Z) (u1:eQ<(b_l:Int):=by omega) (u2:Ix bJ bI:=by omega) (u3:Ix eQ b_l:=by omega) (u4:I6 (eQ+1):=by omega):zLH (some a_0_a) bI bM (some b_a) b_l b_c bJ false eQ Z Nx Q2 :=
 kO 0 (false,eQ+1) [.g,.g,.g,.b true,.g,.g,.g,.g,.i,.l (qf (rcd nM nT nU)),.g,.g,.i,.l (qf (rcd nP nH nI)),.v (.bool false),.g,.g,.g,.n (eQ+1),.g] (fun _ f=>ai (zR u1) (an6 u2 h1 u3 h2 h3 (w64 u4) f)) nx
theorem xKG (nx:Q2 gj Z) (u1:¬ eQ<(b_l:Int):=by omega):zLH a_0 bI bM b b_l b_c bJ gj eQ Z Nx Q2 :=
 kO 1 gj [.g,.g,.g,.b false] (fun _ f=>ai (zT u1) f) nx
theorem xKL {Nx:Int->St->Prop} (hL:yTD a_0 bI bM b b_l b_c bJ false 0 Z P2) (k2:∀ t6_2' Z',P2 t6_2' Z'->yCX a_0 bI bM b b_l b_c bJ t6_2' Z' Nx Q0 Qr) (u1:bJ<(bI:Int):=by omega):yCZ a_0 bI bM b b_l b_c bJ Z Nx Q0 Qr :=
 zCE [.g,.g,.g,.b true,.g,.g,.lf 34 (zLF a_0 bI bM b b_l b_c bJ false 0) [zPF a_0 bI bM b b_l b_c bJ P2]] (fun g=>kd (ai (zR u1) (ai (ai tt (ai (arf (zLF a_0 bI bM b b_l b_c bJ false 0)) hL)) (ai (kz1 k2) trivial))))
theorem xKK {Nx:Int->St->Prop} (nx:Q0 Z) (u1:¬ bJ<(bI:Int):=by omega):yCZ a_0 bI bM b b_l b_c bJ Z Nx Q0 Qr :=
 kO 1 () [.g,.g,.g,.b false] (fun _ f=>ai (zT u1) f) nx
theorem ySY {Nx:Int->St->Prop} (nx:Nx (bJ+1) Z) (u1:I6 (bJ+1):=by omega):yCX a_0 bI bM b b_l b_c bJ true Z Nx Q0 Qr :=
 sF 0 (bJ+1) [.g,.g,.g,.n (bJ+1),.g] (fun _ f=>ai (w64 u1) f) nx
theorem xSS (hL:yTE a_0 bI bM b b_l b_c 0 Z P0 Pr) (k0:∀ Z',P0 Z'->yCY a_0 bI bM b b_l b_c Z' Q) (kr:∀ t4_1' Z',Pr t4_1' Z'->xBD a_0 bI bM b b_l b_c t4_1' Z' Q):qg 41 [.slice a_0 bI bM,.slice b b_l b_c] Z Q :=
 zH [.g,.g,.lf 34 (zLG a_0 bI bM b b_l b_c 0) [zIJ a_0 bI bM b b_l b_c P0,zII a_0 bI bM b b_l b_c Pr]] (kd (ai (ai tt (ai (arf (zLG a_0 bI bM b b_l b_c 0)) hL)) (ai (kz0 k0) (ai (kz1 kr) trivial))))
theorem ySZ (nx:Q (.bool true) Z):yCY a_0 bI bM b b_l b_c Z Q :=
 sK [.g] nx
end
section
variable {P:Program}
theorem xNH {t d : Nat} {f1 f2 f3 : Field} (hu : P.underlying t = some (.struct #[f1, f2, f3])) (hh : P.stoodInHeld t = false) (n1 : f1.name ≠ "_") (n2 : f2.name ≠ "_") (n3 : f3.name ≠ "_") {xs ys : Array Value} {a1 b1 a2 b2 a3 b3 : Value} {r1 r2 r3 : Bool}
  (h1:zZ P (part f1.type xs f1.offset)=some a1) (h2:zZ P (part f1.type ys f1.offset)=some b1) (e1:zZ P (Op.equalIn d f1.type a1 b1)=some r1)
  (h3:zZ P (part f2.type xs f2.offset)=some a2) (h4:zZ P (part f2.type ys f2.offset)=some b2) (e2:zZ P (Op.equalIn d f2.type a2 b2)=some r2)
  (h5:zZ P (part f3.type xs f3.offset)=some a3) (h6:zZ P (part f3.type ys f3.offset)=some b3) (e3:zZ P (Op.equalIn d f3.type a3 b3)=some r3) :
  zZ P (Op.equalIn (d+1) t (.agg xs) (.agg ys))=some (r1 && (r2 && r3)):=by
 unfold Op.equalIn;rw [yI,zFZ hu];simp only [Option.bind_some];rw [yI,zXG];simp only [Option.bind_some,hh,Bool.false_eq_true,if_false];rw [yI,<- Array.forIn_toList];show (zZ P (forIn [f1,f2,f3] _ _)).bind _=_;rw [List.forIn_cons,yI];simp only [if_pos n1];rw [yI,h1];simp only [Option.bind_some];rw [yI,h2];simp only [Option.bind_some];rw [yI,e1];simp only [Option.bind_some];cases r1 with
 | false=>rfl
 | true =>
  simp only [Bool.not_true,Bool.false_eq_true,if_false,zHH,Option.bind_some];rw [List.forIn_cons,yI];simp only [if_pos n2];rw [yI,h3];simp only [Option.bind_some];rw [yI,h4];simp only [Option.bind_some];rw [yI,e2];simp only [Option.bind_some];cases r2 with
  | false=>rfl
  | true =>
   simp only [Bool.not_true,Bool.false_eq_true,if_false,zHH,Option.bind_some];rw [List.forIn_cons,yI];simp only [if_pos n3];rw [yI,h5];simp only [Option.bind_some];rw [yI,h6];simp only [Option.bind_some];rw [yI,e3];simp only [Option.bind_some];cases r3 <;> rfl
end
theorem wCV {k a b k' a' b':Int} {o1 o2:Operand}:vO Pg .eql 45 o1 o2 (.agg ⟨rcd k a b⟩) (.agg ⟨rcd k' a' b'⟩)=some (.bool ((k == k') && ((a == a') && (b == b')))):=by
 have e:vO Pg .eql 45 o1 o2 (.agg ⟨rcd k a b⟩) (.agg ⟨rcd k' a' b'⟩)=(zZ Pg (do eqGuard .eql 45 o1 o2 (.agg ⟨rcd k a b⟩) (.agg ⟨rcd k' a' b'⟩);binOp .eql 45 (.agg ⟨rcd k a b⟩) (.agg ⟨rcd k' a' b'⟩))).filter (zW RD):=by kernel_rfl
 have e1:zZ Pg (eqGuard .eql 45 o1 o2 (.agg ⟨rcd k a b⟩) (.agg ⟨rcd k' a' b'⟩))=some ():=by kernel_rfl
 have e2:∀ x y:List Value,binOp .eql 45 (.agg ⟨x⟩) (.agg ⟨y⟩)=(do let r <- Op.equal 45 (.agg ⟨x⟩) (.agg ⟨y⟩);pure (.bool r)):=fun _ _=>rfl
 have hu : ∃ f1 f2 f3 : Field, Pg.underlying 45 = some (.struct #[f1, f2, f3]) ∧ f1.type = 5 ∧ f1.offset = 0 ∧ f1.name ≠ "_" ∧ f2.type = 3 ∧ f2.offset = 1 ∧ f2.name ≠ "_" ∧ f3.type = 3 ∧ f3.offset = 2 ∧ f3.name ≠ "_" := ⟨_, _, _, Tryz.underlying45, rfl, rfl, by decide, rfl, rfl, by decide, rfl, rfl, by decide⟩
 obtain ⟨f1,f2,f3,hu,t1,s1,n1,t2,s2,n2,t3,s3,n3⟩:=hu;have h:zZ Pg (Op.equalIn 10000 45 (.agg ⟨rcd k a b⟩) (.agg ⟨rcd k' a' b'⟩))=some ((k == k') && ((a == a') && (b == b'))) :=
  xNH (d:=9999) (a1:=.int .u8 k) (b1:=.int .u8 k') (a2:=iV a) (b2:=iV a') (a3:=iV b) (b3:=iV b') hu (by kernel_rfl) n1 n2 n3 (by rw [t1,s1];show _=_;kernel_rfl) (by rw [t1,s1];show _=_;kernel_rfl) (by rw [t1];exact uS (d:=9998) (k:=.u8) (by kernel_rfl) _ _ _)
   (by rw [t2,s2];show _=_;kernel_rfl) (by rw [t2,s2];show _=_;kernel_rfl) (by rw [t2];exact uS (d:=9998) (k:=.i64) (by kernel_rfl) _ _ _)
   (by rw [t3,s3];show _=_;kernel_rfl) (by rw [t3,s3];show _=_;kernel_rfl) (by rw [t3];exact uS (d:=9998) (k:=.i64) (by kernel_rfl) _ _ _)
 have h:zZ Pg (Op.equal 45 (.agg ⟨rcd k a b⟩) (.agg ⟨rcd k' a' b'⟩))=some ((k == k') && ((a == a') && (b == b'))):=h;rw [e,yI,e1];simp only [Option.bind_some];rw [e2,yI,h];rfl
section
variable {Z:St} {p q:Option Addr} {l m c d td:Nat} {A B:List Bch}
theorem xSN (h:SlV Pg Z 45 3 p l (A.map zRR)) {i:Nat} (hi:i<l):∃ a,p=some a/\∃ b,A[i]?=some b/\zB Pg Z 45 (zJ a (Int.toNat (i:Int)*3))=some (zRR b):=by
 obtain ⟨a,rfl,x,hx,hl⟩:=xZ (f:=zRR) h hi;exact ⟨a,rfl,x,hx,hl⟩
theorem xEG (h1:SlV Pg Z 45 3 p l (A.map zRR)) (h2:SlV Pg Z 45 3 q m (B.map zRR)) (hl:l<=1073741824) (hm:m<=1073741824) (hs:∀ x∈A,x∈B):zD Pg 41 [.slice p l c,.slice q m d] Z (.bool true) Z:=by
 have g1:=h1.re;have g2:=h2.re;have eB:B.length=m:=by have:=g2.2.1;simpa using this
 refine (xSS (P0:=fun τ=>τ=Z.re) (Pr:=fun _ _=>False) (yTB (Inv:=fun k i τ=>τ=Z.re/\∃ j:Nat,i=(j:Int)/\j+k=l) ?_ l 0 Z.re ⟨rfl,0,rfl,by omega⟩) (fun τ h=>ySZ ⟨rfl,by rw [h];exact Nat.le_refl _⟩) (fun b τ h=>h.elim)).pure;rintro k i τ ⟨rfl,j,rfl,hk⟩;by_cases hj:j<l;rotate_left
 ·exact xKK rfl (by omega)
 obtain ⟨a,rfl,x,hx,ldx⟩:=xSN g1 hj;have hxB:=hs x (List.mem_of_getElem? hx);refine xKL (P2:=fun t τ=>τ=Z.re/\t=true) (yTA (Inv:=fun k t i τ=>τ=Z.re/\∃ s:Nat,i=(s:Int)/\s+k=m/\(t=true\/∀ u y,u<s->B[u]?=some y->y≠x)) ?_ m false 0 Z.re ⟨rfl,0,rfl,by omega,.inr fun u y hu=>by omega⟩) ?_ (by omega)
 ·rintro k2 t i2 τ ⟨rfl,s,rfl,hk2,ht⟩;by_cases hsm:s<m;rotate_left
  ·refine xKG ⟨rfl, ?_⟩ (by omega);rcases ht with ht | ht
   ·exact ht
   ·obtain ⟨u,hu,he⟩:=List.getElem_of_mem hxB;exact absurd he (ht u _ (by omega) (List.getElem?_eq_getElem hu))
  cases t with
  | true=>exact xKJ ⟨k2-1,by omega,rfl,s+1,by omega,by omega,.inl rfl⟩ (by omega) ⟨by omega,by omega⟩
  | false =>
   obtain ⟨b,rfl,y,hy,ldy⟩:=xSN g2 hsm;have ht:∀ u y,u<s->B[u]?=some y->y≠x:=by
    rcases ht with ht | ht
    ·cases ht
    ·exact ht
   have hq:=wCV (k:=(x.kind:Int)) (a:=(x.drv:Int)) (b:=(x.dut:Int)) (k':=(y.kind:Int)) (a':=(y.drv:Int)) (b':=(y.dut:Int)) (o1:=.tmp 25) (o2:=.tmp 29);by_cases e:y=x
   ·subst e;simp only [beq_self_eq_true,Bool.and_self] at hq;exact xKI ldx ldy hq ⟨k2-1,by omega,rfl,s+1,by omega,by omega,.inl rfl⟩ (by omega) ⟨by omega,by omega⟩ ⟨by omega,by omega⟩ ⟨by omega,by omega⟩
   ·have hne:(((x.kind:Int) == (y.kind:Int)) && (((x.drv:Int) == (y.drv:Int)) && ((x.dut:Int) == (y.dut:Int))))=false:=by
     rw [<- Bool.not_eq_true,Bool.and_eq_true,Bool.and_eq_true,beq_iff_eq,beq_iff_eq,beq_iff_eq];rintro ⟨h1,h2,h3⟩;apply e;cases x;cases y
     simp only [Bch.mk.injEq] at h1 h2 h3 ⊢;omega
    rw [hne] at hq;exact xKH ldx ldy hq ⟨k2-1,by omega,rfl,s+1,by omega,by omega,.inr fun u z hu hz=>by
     by_cases eu:u=s
     ·subst eu;rw [hy] at hz;cases hz;exact e
     ·exact ht u z (by omega) hz⟩ (by omega) ⟨by omega,by omega⟩ ⟨by omega,by omega⟩ ⟨by omega,by omega⟩
 ·rintro t τ ⟨rfl,rfl⟩;exact ySY ⟨k-1,by omega,rfl,j+1,by omega,by omega⟩ ⟨by omega,by omega⟩
end
section
noncomputable section
variable (bz:oAa) (aN aO BA:Nat) (q2:oAa) (l2 c2:Nat) (q5:oAa) (l5 c5:Nat) (aA:Int) (qF:oAa) (lK cI:Nat) (q0:Int->St->Prop) (t8_2:Bool) (q3:Bool->St->Prop) (bj:Int) (q1:St->Prop) (Z:St) (Nx:Int->St->Prop) (Q:vPa) (Qr:Bool->St->Prop) (Q0 Q2:St->Prop)
def yGY:Code:=(Code.part [1,1,1,0,1,0,0] (qh 9))
def zGI:lNa:=[(1,.slice bz aN aO),(4,pt BA 0),(9,.slice q2 l2 c2),(10,.slice q5 l5 c5),(11,iV aA)]
def yYL:Alt:=⟨Int,.normal,fun t=>zGI bz aN aO BA q2 l2 c2 q5 l5 c5 t,fun t=>[],fun t Z=>q0 t Z⟩
def zVV:lNa:=[(1,.slice bz aN aO),(4,pt BA 0),(9,.slice q2 l2 c2),(10,.slice q5 l5 c5)]
def zKG:Alt:=⟨Unit,(.exit 0),fun t=>zVV bz aN aO BA q2 l2 c2 q5 l5 c5,fun t=>[],fun t Z=>q1 Z⟩
def zSW:Prop:=qi (zMX Pg 15) none yGY 202 (zGI bz aN aO BA q2 l2 c2 q5 l5 c5 aA) [] [yYL bz aN aO BA q2 l2 c2 q5 l5 c5 Nx,zKG bz aN aO BA q2 l2 c2 q5 l5 c5 Q0] Z
def zSV:Prop:=qk (zMX Pg 15) none yGY 202 (zGI bz aN aO BA q2 l2 c2 q5 l5 c5 aA) [] [zKG bz aN aO BA q2 l2 c2 q5 l5 c5 Q0] Z
def zET:Prop:=kZ (zMX Pg 15) (qh 9) [1,1,1,0,1,0] (ql 9 Q) (.exit 0) 202 (zVV bz aN aO BA q2 l2 c2 q5 l5 c5) Z
def yGX:Code:=(Code.part [1,1,1,1,1,1,1,1,1,1,0,1,0,0] (qh 9))
def zBS:lNa:=[(4,pt BA 0),(9,.slice q2 l2 c2),(10,.slice q5 l5 c5),(12,.slice qF lK cI),(19,iV bj)]
def yYK:Alt:=⟨Int,.normal,fun t=>zBS BA q2 l2 c2 q5 l5 c5 qF lK cI t,fun t=>[],fun t Z=>q0 t Z⟩
def zVT (BA:Nat) (q2:oAa) (l2 c2:Nat) (q5:oAa) (l5 c5:Nat) (qF:oAa) (lK cI:Nat) (t8_2:Bool):lNa:=[(8,.bool t8_2)]
def zER:Alt:=⟨Bool,.ret,fun t=>zVT BA q2 l2 c2 q5 l5 c5 qF lK cI t,fun t=>[],fun t Z=>q3 t Z⟩
def zVU (BA:Nat) (q2:oAa) (l2 c2:Nat) (q5:oAa) (l5 c5:Nat) (qF:oAa) (lK cI:Nat):lNa:=[]
def zES:Alt:=⟨Unit,(.exit 2),fun t=>zVU BA q2 l2 c2 q5 l5 c5 qF lK cI,fun t=>[],fun t Z=>q1 Z⟩
def zGJ:Prop:=qi (zMX Pg 15) none yGX 202 (zBS BA q2 l2 c2 q5 l5 c5 qF lK cI bj) [] [yYK BA q2 l2 c2 q5 l5 c5 qF lK cI Nx,zER BA q2 l2 c2 q5 l5 c5 qF lK cI Qr,zES BA q2 l2 c2 q5 l5 c5 qF lK cI Q2] Z
def zMG:Prop:=qk (zMX Pg 15) none yGX 202 (zBS BA q2 l2 c2 q5 l5 c5 qF lK cI bj) [] [zER BA q2 l2 c2 q5 l5 c5 qF lK cI Qr,zES BA q2 l2 c2 q5 l5 c5 qF lK cI Q2] Z
def zVW:Prop:=kZ (zMX Pg 15) (qh 9) [1,1,1,1,1,1,1,1,1,1,0,1,0] (ql 9 Q) .ret 202 (zVT BA q2 l2 c2 q5 l5 c5 qF lK cI t8_2) Z
def zKH:Prop:=kZ (zMX Pg 15) (qh 9) [1,1,1,1,1,1,1,1,1,1,0,1,0] (ql 9 Q) (.exit 2) 202 (zVU BA q2 l2 c2 q5 l5 c5 qF lK cI) Z
end
variable {bz q2 q5 af ae ends more qF qA qS qL qP qM qZ qN qT qU qV qO qW qX qAB qBB qJB qNB qCB qGC qHC qIC qJC qDB:oAa} {aN aO BA l2 c2 l5 c5 ac ad aa ab ends_l zTM more_l zST lK cI lB cA lZ cU lP cL lW cR lQ cO lGB cBB lS cP lAB cV lBB cW lCB cX lU cQ lDB cY lEB cZ lFB cCB lHB cDB lQB cKB lTB cPB lIB cEB lBE cHC lBF cIC lBG cJC lBH cBA lJB cFB:Nat} {Inv:Nat->Int->St->Prop} {Q0 P0 Q2 P2:St->Prop} {aA nG nF nA ak am au aj bj nDB nFC nGC nTB nBj nBi:Int} {q5_a q2_a bU:Addr} {ZQB Z Z3 Z6 ZH ZC ZB ZF ZT ZI ZJ ZU ZV ZD ZE ZK ZW ZG ZFB ZRB ZHB ZSB ZR ZXB ZJB ZBT ZYB ZBU:St} {Nx:Int->St->Prop} {cs4 cs2501 cs2502 cs2508 cs2509 cs2519 cs2520 cs2530 cs2531 cs2536 cs1838 cs1841 cs1842 cs1848 cs1849 cs1855:lVa} {Q:vPa} {Qr Pr:Bool->St->Prop}
theorem yLF (hb:∀ k aA Z,Inv k aA Z->zSW bz aN aO BA q2 l2 c2 q5 l5 c5 aA Z (NX1 Inv k) Q0):∀ k aA Z,Inv k aA Z->zSV bz aN aO BA q2 l2 c2 q5 l5 c5 aA Z Q0 :=
 xE (ai (xV 0) trivial) hb
theorem yYJ (h1:lz Z 3 (zJ q5_a (Int.toNat aA*1)) (iV nG)) (h2:lz Z 3 (zJ q2_a (Int.toNat aA*1)) (iV nF)) (h3:xM Pg (evL [iV nG,iV nF]) Z (.call { callee:=.builtin .max,args:=⟨wS 2⟩,argTypes:=⟨[3,3]⟩ })=some (iV nA)) (h4:qo (evL [pz (zJ q5_a (Int.toNat aA*1)),iV nA]) Z (.store 3 (.tmp 0) (.tmp 1))=some (undef,ZQB)) (nx:Nx (aA+1) ZQB) (u1:aA<(l5:Int):=by omega) (u2:Ix aA l5:=by omega) (u3:Ix aA l2:=by omega) (u4:I6 (aA+1):=by omega):zSW bz aN aO BA (some q2_a) l2 c2 (some q5_a) l5 c5 aA Z Nx Q0 :=
 kO 0 (aA+1) [.g,.g,.g,.b true,.g,.g,.g,.g,.i,.l (iV nG),.g,.g,.i,.l (iV nF),.v (iV nA),.i,.e undef ZQB,.g,.n (aA+1),.g] (fun _ f=>an3 (zR u1) u2 h1 (an6 u3 h2 h3 u2 h4 (w64 u4) f)) nx
theorem yYI (nx:Q0 Z) (u1:¬ aA<(l5:Int):=by omega):zSW bz aN aO BA q2 l2 c2 q5 l5 c5 aA Z Nx Q0 :=
 kO 1 () [.g,.g,.g,.b false] (fun _ f=>ai (zT u1) f) nx
theorem xHZ:let s1:=Z.row (wkc ak af ac ad ae aa ab am au aj) 6;∀ (h1:qm 36 [qf (wkc ak af ac ad ae aa ab am au aj)] s1 (.bool true) s1) (h2:qm 38 [qf (wkc ak af ac ad ae aa ab am au aj),.slice ends ends_l zTM] s1 (.slice q2 l2 c2) Z3) (h3:lz Z3 25 (qe Z.y 0) (qf cs4)) (h4:qm 38 [qf cs4,.slice more more_l zST] Z3 (.slice q5 l5 c5) Z6) (h5:zF s1.y [qf (wkc ak af ac ad ae aa ab am au aj),.slice ends ends_l zTM]) (h6:zF Z3.y [pt Z.y 0]) (h7:zF Z3.y [qf cs4,.slice more more_l zST]) (h8:(zLq s1 25 (qe Z.y 0) (qf cs4))) (h9:(zLq Z3 25 (qe Z.y 0) (qf cs4))) (hL:zSV bz aN aO Z.y q2 l2 c2 q5 l5 c5 0 Z6 P0) (k0:∀ Z',P0 Z'->zET bz aN aO Z.y q2 l2 c2 q5 l5 c5 Z' Q),xBL Pg 15 9 [qf (wkc ak af ac ad ae aa ab am au aj),.slice bz aN aO,.slice ends ends_l zTM,.slice more more_l zST] Z Q:=
 let s1:=Z.row (wkc ak af ac ad ae aa ab am au aj) 6;fun h1 h2 h3 h4 h5 h6 h7 h8 h9 hL k0=>xBZ [.g,.g,.l (qf (wkc ak af ac ad ae aa ab am au aj)),.c (.bool true) s1,.g,.l (qf (wkc ak af ac ad ae aa ab am au aj)),.g,.c (.slice q2 l2 c2) Z3,.l (qf cs4),.g,.c (.slice q5 l5 c5) Z6,.g,.g,.g,.lf 202 (zGI bz aN aO Z.y q2 l2 c2 q5 l5 c5 0) [zKG bz aN aO Z.y q2 l2 c2 q5 l5 c5 P0]] (kc (by kernel_rfl) (an6 ((zC _ _ _).rw.ldN zEY zAX (k:=0) rfl rfl (nle rfl):lz s1 25 (qe Z.y 0) (qf (wkc ak af ac ad ae aa ab am au aj))) (zD.top (aw:=15) h1) ((zC _ _ _).rw.ldN zEY zAX (k:=0) rfl rfl (nle rfl):lz s1 25 (qe Z.y 0) (qf (wkc ak af ac ad ae aa ab am au aj))) (zD.top (aw:=15) h2) h3 (zD.top (aw:=15) h4) (an6 ((zE (zP (nlt Z.y 0 1 rfl)) zI):zF s1.y [pt Z.y 0]) h5 h6 h7 h8 h9 (ai (ai tt (ai (arf (zGI bz aN aO Z.y q2 l2 c2 q5 l5 c5 0)) hL)) (ai (fun (t:Unit) (g':Nat->Value) (Z':St) (q:P0 Z')=>k0 Z' q g') trivial)))))
theorem xHY:let s1:=Z.row (wkc ak af ac ad ae aa ab am au aj) 6;∀ (h1:qm 36 [qf (wkc ak af ac ad ae aa ab am au aj)] s1 (.bool false) s1) (nx:Q (.bool true) s1),xBL Pg 15 9 [qf (wkc ak af ac ad ae aa ab am au aj),.slice bz aN aO,.slice ends ends_l zTM,.slice more more_l zST] Z Q:=
 let s1:=Z.row (wkc ak af ac ad ae aa ab am au aj) 6;fun h1 nx=>xBZ [.g,.g,.l (qf (wkc ak af ac ad ae aa ab am au aj)),.c (.bool false) s1,.g,.c (.bool true) s1,.g] (kc (by kernel_rfl) (an3 ((zC _ _ _).rw.ldN zEY zAX (k:=0) rfl rfl (nle rfl):lz s1 25 (qe Z.y 0) (qf (wkc ak af ac ad ae aa ab am au aj))) (zD.top (aw:=15) h1) (wCD:zIL (zMX Pg 15) (.func 15) [] s1 (.bool true) s1) nx))
theorem yLE (hb:∀ k bj Z,Inv k bj Z->zGJ BA q2 l2 c2 q5 l5 c5 qF lK cI bj Z (NX1 Inv k) Qr Q2):∀ k bj Z,Inv k bj Z->zMG BA q2 l2 c2 q5 l5 c5 qF lK cI bj Z Qr Q2 :=
 xE (ai uZ (ai (xV 2) trivial)) hb
@[reducible] def Hb0 (Z ZH ZC ZB ZF ZT ZI ZJ ZU ZV ZD ZE ZK ZW ZG:St) (BA lB cA lZ cU lP cL lW cR l2 c2 lQ cO lGB cBB lS cP lAB cV l5 c5 lBB cW lCB cX lU cQ lDB cY lEB cZ lFB cCB:Nat) (cs2501 cs2502 cs2508 cs2509 cs2519 cs2520 cs2530 cs2531 cs2536:lVa) (bU:Addr) (bj nDB nFC nGC:Int) (qA qS qL qP q2 qM qZ qN qT q5 qU qV qO qW qX qAB:oAa):Prop:=qn Z 25 ⟨BA,0,none⟩=some (.agg ⟨cs2501⟩)/\qm 17 [.agg ⟨cs2501⟩] Z (.agg ⟨cs2502⟩) ZH/\qn ZH 26 (zJ bU (Int.toNat bj*1))=some (.slice qA lB cA)/\qm 19 [.slice qA lB cA] ZH (.slice qS lZ cU) ZC/\(qm 35 [.agg ⟨cs2502⟩,.slice qS lZ cU,iV 0] ZC (.bool true) ZC)/\zF Z.y [.agg ⟨cs2501⟩]/\zF ZH.y [.pointer (some (zJ bU (Int.toNat bj*1)))]/\zF ZH.y [.slice qA lB cA]/\(zF ZC.y [.agg ⟨cs2502⟩,.slice qS lZ cU,iV 0])/\qn Z 26 (zJ bU (Int.toNat bj*1))=some (.slice qA lB cA)/\((zLq ZH 26 (zJ bU (Int.toNat bj*1)) (.slice qA lB cA)))/\qn ZC 25 ⟨BA,0,none⟩=some (.agg ⟨cs2508⟩)/\qm 17 [.agg ⟨cs2508⟩] ZC (.agg ⟨cs2509⟩) ZB/\qn ZB 26 (zJ bU (Int.toNat bj*1))=some (.slice qL lP cL)/\qm 19 [.slice qL lP cL] ZB (.slice qP lW cR) ZF/\qm 19 [.slice q2 l2 c2] ZF (.slice qM lQ cO) ZT/\(qm 18 [.agg ⟨cs2509⟩,.slice qP lW cR,.slice qM lQ cO] ZT (.tuple ⟨[.slice qZ lGB cBB,iV nDB]⟩) ZI)/\zF ZC.y [.pointer (some ⟨BA,0,none⟩)]/\zF ZC.y [.agg ⟨cs2508⟩]/\zF ZB.y [.pointer (some (zJ bU (Int.toNat bj*1)))]/\zF ZB.y [.slice qL lP cL]/\zF ZF.y [.slice q2 l2 c2]/\(zF ZT.y [.agg ⟨cs2509⟩,.slice qP lW cR,.slice qM lQ cO])/\((zLq ZC 26 (zJ bU (Int.toNat bj*1)) (.slice qL lP cL)))/\((zLq ZB 26 (zJ bU (Int.toNat bj*1)) (.slice qL lP cL)))/\qn ZI 25 ⟨BA,0,none⟩=some (.agg ⟨cs2519⟩)/\qm 17 [.agg ⟨cs2519⟩] ZI (.agg ⟨cs2520⟩) ZJ/\qn ZJ 26 (zJ bU (Int.toNat bj*1))=some (.slice qN lS cP)/\qm 19 [.slice qN lS cP] ZJ (.slice qT lAB cV) ZU/\qm 19 [.slice q5 l5 c5] ZU (.slice qU lBB cW) ZV/\(qm 18 [.agg ⟨cs2520⟩,.slice qT lAB cV,.slice qU lBB cW] ZV (.tuple ⟨[.slice qV lCB cX,iV nFC]⟩) ZD)/\zF ZI.y [.pointer (some ⟨BA,0,none⟩)]/\zF ZI.y [.agg ⟨cs2519⟩]/\zF ZJ.y [.pointer (some (zJ bU (Int.toNat bj*1)))]/\zF ZJ.y [.slice qN lS cP]/\zF ZU.y [.slice q5 l5 c5]/\(zF ZV.y [.agg ⟨cs2520⟩,.slice qT lAB cV,.slice qU lBB cW])/\((zLq ZI 26 (zJ bU (Int.toNat bj*1)) (.slice qN lS cP)))/\((zLq ZJ 26 (zJ bU (Int.toNat bj*1)) (.slice qN lS cP)))/\qn ZD 25 ⟨BA,0,none⟩=some (.agg ⟨cs2530⟩)/\qm 17 [.agg ⟨cs2530⟩] ZD (.agg ⟨cs2531⟩) ZE/\qn ZE 26 (zJ bU (Int.toNat bj*1))=some (.slice qO lU cQ)/\qm 19 [.slice qO lU cQ] ZE (.slice qW lDB cY) ZK/\qn ZK 25 ⟨BA,0,none⟩=some (.agg ⟨cs2536⟩)/\qm 40 [.agg ⟨cs2536⟩] ZK (.slice qX lEB cZ) ZW/\(qm 18 [.agg ⟨cs2531⟩,.slice qW lDB cY,.slice qX lEB cZ] ZW (.tuple ⟨[.slice qAB lFB cCB,iV nGC]⟩) ZG)/\zF ZD.y [.pointer (some ⟨BA,0,none⟩)]/\zF ZD.y [.agg ⟨cs2530⟩]/\zF ZE.y [.pointer (some (zJ bU (Int.toNat bj*1)))]/\zF ZE.y [.slice qO lU cQ]/\zF ZK.y [.pointer (some ⟨BA,0,none⟩)]/\zF ZK.y [.agg ⟨cs2536⟩]/\(zF ZW.y [.agg ⟨cs2531⟩,.slice qW lDB cY,.slice qX lEB cZ])/\((zLq ZD 26 (zJ bU (Int.toNat bj*1)) (.slice qO lU cQ)))/\((zLq ZE 26 (zJ bU (Int.toNat bj*1)) (.slice qO lU cQ)))/\((zLq ZD 25 ⟨BA,0,none⟩ (.agg ⟨cs2536⟩)))/\((zLq ZE 25 ⟨BA,0,none⟩ (.agg ⟨cs2536⟩)))/\((zLq ZK 25 ⟨BA,0,none⟩ (.agg ⟨cs2536⟩)))/\qm 41 [.slice qZ lGB cBB,.slice qV lCB cX] ZG (.bool true) ZG/\qm 41 [.slice qV lCB cX,.slice qAB lFB cCB] ZG (.bool true) ZG
theorem yYH (H:Hb0 Z ZH ZC ZB ZF ZT ZI ZJ ZU ZV ZD ZE ZK ZW ZG BA lB cA lZ cU lP cL lW cR l2 c2 lQ cO lGB cBB lS cP lAB cV l5 c5 lBB cW lCB cX lU cQ lDB cY lEB cZ lFB cCB cs2501 cs2502 cs2508 cs2509 cs2519 cs2520 cs2530 cs2531 cs2536 bU bj nDB nFC nGC qA qS qL qP q2 qM qZ qN qT q5 qU qV qO qW qX qAB) (nx:Nx (bj+1) ZG) (u1:bj<(lK:Int):=by omega) (u2:Ix bj lK:=by omega) (u3:nDB=0:=by omega) (u4:nFC=0:=by omega) (u5:nGC=0:=by omega) (u6:0<bj:=by omega) (u7:(lFB:Int)=0:=by omega) (u8:I6 (bj+1):=by omega) (b_BA:BA<Z.y:=by omega) (fh:bU.block<Z.y:=by omega):zGJ BA q2 l2 c2 q5 l5 c5 (some bU) lK cI bj Z Nx Qr Q2 :=
 match H with|⟨h1,h2,h3,h4,h5,h6,h7,h8,h9,h10,h11,h12,h13,h14,h15,h16,h17,h18,h19,h20,h21,h22,h23,h24,h25,h26,h27,h28,h29,h30,h31,h32,h33,h34,h35,h36,h37,h38,h39,h40,h41,h42,h43,h44,h45,h46,h47,h48,h49,h50,h51,h52,h53,h54,h55,h56,h57,h58,h59,h60⟩=>let s1:=zJ bU (Int.toNat bj*1);kO 0 (bj+1) [.g,.g,.g,.b true,.l (qf cs2501),.c (qf cs2502) ZH,.g,.g,.i,.l (.slice qA lB cA),.c (.slice qS lZ cU) ZC,.c (.bool true) ZC,.g,.l (qf cs2508),.c (qf cs2509) ZB,.g,.g,.i,.l (.slice qL lP cL),.c (.slice qP lW cR) ZF,.g,.c (.slice qM lQ cO) ZT,.c (.tuple ⟨[.slice qZ lGB cBB,iV nDB]⟩) ZI,.g,.g,.g,.g,.g,.l (qf cs2519),.c (qf cs2520) ZJ,.g,.g,.i,.l (.slice qN lS cP),.c (.slice qT lAB cV) ZU,.g,.c (.slice qU lBB cW) ZV,.c (.tuple ⟨[.slice qV lCB cX,iV nFC]⟩) ZD,.g,.g,.g,.g,.g,.l (qf cs2530),.c (qf cs2531) ZE,.g,.g,.i,.l (.slice qO lU cQ),.c (.slice qW lDB cY) ZK,.l (qf cs2536),.c (.slice qX lEB cZ) ZW,.c (.tuple ⟨[.slice qAB lFB cCB,iV nGC]⟩) ZG,.g,.g,.g,.g,.g,.g,.b false,.g,.g,.b false,.g,.g,.g,.b false,.g,.g,.g,.b true,.g,.g,.g,.g,.g,.g,.g,.g,.g,.b true,.g,.g,.g,.g,.g,.c (.bool true) ZG,.g,.g,.g,.g,.g,.c (.bool true) ZG,.g,.g,.g,.n (bj+1),.g] (fun _ f=>ai (zR u1) (an6 h1 (zD.top (aw:=15) h2) u2 h3 (zD.top (aw:=15) h4) (zD.top (aw:=15) h5) (an6 ((zE (zP b_BA) zI):zF Z.y [pt BA 0]) h6 h7 h8 h9 (⟨⟨fh,rfl⟩,h10⟩:(zLq Z 26 s1 (.slice qA lB cA))) (an6 h11 h12 (zD.top (aw:=15) h13) u2 h14 (zD.top (aw:=15) h15) (an6 (zD.top (aw:=15) h16) (zD.top (aw:=15) h17) h18 h19 h20 h21 (an6 h22 h23 h24 h25 h26 (zD.top (aw:=15) h27) (an6 u2 h28 (zD.top (aw:=15) h29) (zD.top (aw:=15) h30) (zD.top (aw:=15) h31) h32 (an6 h33 h34 h35 h36 h37 h38 (an6 h39 h40 (zD.top (aw:=15) h41) u2 h42 (zD.top (aw:=15) h43) (an6 h44 (zD.top (aw:=15) h45) (zD.top (aw:=15) h46) h47 h48 h49 (an6 h50 h51 h52 h53 h54 h55 (an6 h56 h57 h57 h58 (xR u3) (xR u4) (an6 (xR u5) (zR u6) (xK u7) (zD.top (aw:=15) h59) (zD.top (aw:=15) h60) (w64 u8) f))))))))))))) nx
theorem yYG (H:Hb0 Z ZH ZC ZB ZF ZT ZI ZJ ZU ZV ZD ZE ZK ZW ZG BA lB cA lZ cU lP cL lW cR l2 c2 lQ cO lGB cBB lS cP lAB cV l5 c5 lBB cW lCB cX lU cQ lDB cY lEB cZ lFB cCB cs2501 cs2502 cs2508 cs2509 cs2519 cs2520 cs2530 cs2531 cs2536 bU bj nDB nFC nGC qA qS qL qP q2 qM qZ qN qT q5 qU qV qO qW qX qAB) (nx:Nx (bj+1) ZG) (u1:bj<(lK:Int):=by omega) (u2:Ix bj lK:=by omega) (u3:nDB=0:=by omega) (u4:nFC=0:=by omega) (u5:nGC=0:=by omega) (u6:¬ 0<bj:=by omega) (u7:(lFB:Int)=0:=by omega) (u8:I6 (bj+1):=by omega) (b_BA:BA<Z.y:=by omega) (fh:bU.block<Z.y:=by omega):zGJ BA q2 l2 c2 q5 l5 c5 (some bU) lK cI bj Z Nx Qr Q2 :=
 match H with|⟨h1,h2,h3,h4,h5,h6,h7,h8,h9,h10,h11,h12,h13,h14,h15,h16,h17,h18,h19,h20,h21,h22,h23,h24,h25,h26,h27,h28,h29,h30,h31,h32,h33,h34,h35,h36,h37,h38,h39,h40,h41,h42,h43,h44,h45,h46,h47,h48,h49,h50,h51,h52,h53,h54,h55,h56,h57,h58,h59,h60⟩=>let s1:=zJ bU (Int.toNat bj*1);kO 0 (bj+1) [.g,.g,.g,.b true,.l (qf cs2501),.c (qf cs2502) ZH,.g,.g,.i,.l (.slice qA lB cA),.c (.slice qS lZ cU) ZC,.c (.bool true) ZC,.g,.l (qf cs2508),.c (qf cs2509) ZB,.g,.g,.i,.l (.slice qL lP cL),.c (.slice qP lW cR) ZF,.g,.c (.slice qM lQ cO) ZT,.c (.tuple ⟨[.slice qZ lGB cBB,iV nDB]⟩) ZI,.g,.g,.g,.g,.g,.l (qf cs2519),.c (qf cs2520) ZJ,.g,.g,.i,.l (.slice qN lS cP),.c (.slice qT lAB cV) ZU,.g,.c (.slice qU lBB cW) ZV,.c (.tuple ⟨[.slice qV lCB cX,iV nFC]⟩) ZD,.g,.g,.g,.g,.g,.l (qf cs2530),.c (qf cs2531) ZE,.g,.g,.i,.l (.slice qO lU cQ),.c (.slice qW lDB cY) ZK,.l (qf cs2536),.c (.slice qX lEB cZ) ZW,.c (.tuple ⟨[.slice qAB lFB cCB,iV nGC]⟩) ZG,.g,.g,.g,.g,.g,.g,.b false,.g,.g,.b false,.g,.g,.g,.b false,.g,.g,.g,.b false,.g,.g,.g,.g,.g,.g,.g,.b true,.g,.g,.g,.g,.g,.c (.bool true) ZG,.g,.g,.g,.g,.g,.c (.bool true) ZG,.g,.g,.g,.n (bj+1),.g] (fun _ f=>ai (zR u1) (an6 h1 (zD.top (aw:=15) h2) u2 h3 (zD.top (aw:=15) h4) (zD.top (aw:=15) h5) (an6 ((zE (zP b_BA) zI):zF Z.y [pt BA 0]) h6 h7 h8 h9 (⟨⟨fh,rfl⟩,h10⟩:(zLq Z 26 s1 (.slice qA lB cA))) (an6 h11 h12 (zD.top (aw:=15) h13) u2 h14 (zD.top (aw:=15) h15) (an6 (zD.top (aw:=15) h16) (zD.top (aw:=15) h17) h18 h19 h20 h21 (an6 h22 h23 h24 h25 h26 (zD.top (aw:=15) h27) (an6 u2 h28 (zD.top (aw:=15) h29) (zD.top (aw:=15) h30) (zD.top (aw:=15) h31) h32 (an6 h33 h34 h35 h36 h37 h38 (an6 h39 h40 (zD.top (aw:=15) h41) u2 h42 (zD.top (aw:=15) h43) (an6 h44 (zD.top (aw:=15) h45) (zD.top (aw:=15) h46) h47 h48 h49 (an6 h50 h51 h52 h53 h54 h55 (an6 h56 h57 h57 h58 (xR u3) (xR u4) (an6 (xR u5) (zT u6) (xK u7) (zD.top (aw:=15) h59) (zD.top (aw:=15) h60) (w64 u8) f))))))))))))) nx
theorem yYF:let s1:=zJ bU (Int.toNat bj*1);∀ (h1:lz Z 25 (qe BA 0) (qf cs2501)) (h2:qm 17 [qf cs2501] Z (qf cs2502) ZH) (h3:lz ZH 26 s1 (.slice qA lB cA)) (h4:qm 19 [.slice qA lB cA] ZH (.slice qS lZ cU) ZC) (h5:qm 35 [qf cs2502,.slice qS lZ cU,iV 0] ZC (.bool false) ZC) (h6:zF Z.y [qf cs2501]) (h7:zF ZH.y [pz s1]) (h8:zF ZH.y [.slice qA lB cA]) (h9:zF ZC.y [qf cs2502,.slice qS lZ cU,iV 0]) (h10:lz Z 26 s1 (.slice qA lB cA)) (h11:(zLq ZH 26 s1 (.slice qA lB cA))) (h12:lz ZC 25 (qe BA 0) (qf cs2508)) (h13:qm 17 [qf cs2508] ZC (qf cs2509) ZB) (h14:lz ZB 26 s1 (.slice qL lP cL)) (h15:qm 19 [.slice qL lP cL] ZB (.slice qP lW cR) ZF) (h16:qm 19 [.slice q2 l2 c2] ZF (.slice qM lQ cO) ZT) (h17:qm 18 [qf cs2509,.slice qP lW cR,.slice qM lQ cO] ZT (.tuple ⟨[.slice qZ lGB cBB,iV nDB]⟩) ZI) (h18:zF ZC.y [pt BA 0]) (h19:zF ZC.y [qf cs2508]) (h20:zF ZB.y [pz s1]) (h21:zF ZB.y [.slice qL lP cL]) (h22:zF ZF.y [.slice q2 l2 c2]) (h23:zF ZT.y [qf cs2509,.slice qP lW cR,.slice qM lQ cO]) (h24:(zLq ZC 26 s1 (.slice qL lP cL))) (h25:(zLq ZB 26 s1 (.slice qL lP cL))) (h26:lz ZI 25 (qe BA 0) (qf cs2519)) (h27:qm 17 [qf cs2519] ZI (qf cs2520) ZJ) (h28:lz ZJ 26 s1 (.slice qN lS cP)) (h29:qm 19 [.slice qN lS cP] ZJ (.slice qT lAB cV) ZU) (h30:qm 19 [.slice q5 l5 c5] ZU (.slice qU lBB cW) ZV) (h31:qm 18 [qf cs2520,.slice qT lAB cV,.slice qU lBB cW] ZV (.tuple ⟨[.slice qV lCB cX,iV nFC]⟩) ZD) (h32:zF ZI.y [pt BA 0]) (h33:zF ZI.y [qf cs2519]) (h34:zF ZJ.y [pz s1]) (h35:zF ZJ.y [.slice qN lS cP]) (h36:zF ZU.y [.slice q5 l5 c5]) (h37:zF ZV.y [qf cs2520,.slice qT lAB cV,.slice qU lBB cW]) (h38:(zLq ZI 26 s1 (.slice qN lS cP))) (h39:(zLq ZJ 26 s1 (.slice qN lS cP))) (h40:lz ZD 25 (qe BA 0) (qf cs2530)) (h41:qm 17 [qf cs2530] ZD (qf cs2531) ZE) (h42:lz ZE 26 s1 (.slice qO lU cQ)) (h43:qm 19 [.slice qO lU cQ] ZE (.slice qW lDB cY) ZK) (h44:lz ZK 25 (qe BA 0) (qf cs2536)) (h45:qm 40 [qf cs2536] ZK (.slice qX lEB cZ) ZW) (h46:qm 18 [qf cs2531,.slice qW lDB cY,.slice qX lEB cZ] ZW (.tuple ⟨[.slice qAB lFB cCB,iV nGC]⟩) ZG) (h47:zF ZD.y [pt BA 0]) (h48:zF ZD.y [qf cs2530]) (h49:zF ZE.y [pz s1]) (h50:zF ZE.y [.slice qO lU cQ]) (h51:zF ZK.y [pt BA 0]) (h52:zF ZK.y [qf cs2536]) (h53:zF ZW.y [qf cs2531,.slice qW lDB cY,.slice qX lEB cZ]) (h54:(zLq ZD 26 s1 (.slice qO lU cQ))) (h55:(zLq ZE 26 s1 (.slice qO lU cQ))) (h56:(zLq ZD 25 (qe BA 0) (qf cs2536))) (h57:(zLq ZE 25 (qe BA 0) (qf cs2536))) (h58:(zLq ZK 25 (qe BA 0) (qf cs2536))) (h59:qm 41 [.slice qZ lGB cBB,.slice qV lCB cX] ZG (.bool true) ZG) (h60:qm 41 [.slice qV lCB cX,.slice qAB lFB cCB] ZG (.bool true) ZG) (nx:Nx (bj+1) ZG) (u1:bj<(lK:Int):=by omega) (u2:Ix bj lK:=by omega) (u3:nDB=0:=by omega) (u4:nFC=0:=by omega) (u5:nGC=0:=by omega) (u6:¬ 0<bj:=by omega) (u7:¬ (lFB:Int)=0:=by omega) (u8:I6 (bj+1):=by omega) (b_BA:BA<Z.y:=by omega) (fh:bU.block<Z.y:=by omega),zGJ BA q2 l2 c2 q5 l5 c5 (some bU) lK cI bj Z Nx Qr Q2:=
 let s1:=zJ bU (Int.toNat bj*1);fun h1 h2 h3 h4 h5 h6 h7 h8 h9 h10 h11 h12 h13 h14 h15 h16 h17 h18 h19 h20 h21 h22 h23 h24 h25 h26 h27 h28 h29 h30 h31 h32 h33 h34 h35 h36 h37 h38 h39 h40 h41 h42 h43 h44 h45 h46 h47 h48 h49 h50 h51 h52 h53 h54 h55 h56 h57 h58 h59 h60 nx u1 u2 u3 u4 u5 u6 u7 u8 b_BA fh=>kO 0 (bj+1) [.g,.g,.g,.b true,.l (qf cs2501),.c (qf cs2502) ZH,.g,.g,.i,.l (.slice qA lB cA),.c (.slice qS lZ cU) ZC,.c (.bool false) ZC,.g,.l (qf cs2508),.c (qf cs2509) ZB,.g,.g,.i,.l (.slice qL lP cL),.c (.slice qP lW cR) ZF,.g,.c (.slice qM lQ cO) ZT,.c (.tuple ⟨[.slice qZ lGB cBB,iV nDB]⟩) ZI,.g,.g,.g,.g,.g,.l (qf cs2519),.c (qf cs2520) ZJ,.g,.g,.i,.l (.slice qN lS cP),.c (.slice qT lAB cV) ZU,.g,.c (.slice qU lBB cW) ZV,.c (.tuple ⟨[.slice qV lCB cX,iV nFC]⟩) ZD,.g,.g,.g,.g,.g,.l (qf cs2530),.c (qf cs2531) ZE,.g,.g,.i,.l (.slice qO lU cQ),.c (.slice qW lDB cY) ZK,.l (qf cs2536),.c (.slice qX lEB cZ) ZW,.c (.tuple ⟨[.slice qAB lFB cCB,iV nGC]⟩) ZG,.g,.g,.g,.g,.g,.g,.b false,.g,.g,.b false,.g,.g,.g,.b false,.g,.g,.g,.b false,.g,.g,.g,.g,.g,.g,.g,.b false,.g,.g,.g,.g,.g,.c (.bool true) ZG,.g,.g,.g,.g,.g,.c (.bool true) ZG,.g,.g,.g,.n (bj+1),.g] (fun _ f=>ai (zR u1) (an6 h1 (zD.top (aw:=15) h2) u2 h3 (zD.top (aw:=15) h4) (zD.top (aw:=15) h5) (an6 ((zE (zP b_BA) zI):zF Z.y [pt BA 0]) h6 h7 h8 h9 (⟨⟨fh,rfl⟩,h10⟩:(zLq Z 26 s1 (.slice qA lB cA))) (an6 h11 h12 (zD.top (aw:=15) h13) u2 h14 (zD.top (aw:=15) h15) (an6 (zD.top (aw:=15) h16) (zD.top (aw:=15) h17) h18 h19 h20 h21 (an6 h22 h23 h24 h25 h26 (zD.top (aw:=15) h27) (an6 u2 h28 (zD.top (aw:=15) h29) (zD.top (aw:=15) h30) (zD.top (aw:=15) h31) h32 (an6 h33 h34 h35 h36 h37 h38 (an6 h39 h40 (zD.top (aw:=15) h41) u2 h42 (zD.top (aw:=15) h43) (an6 h44 (zD.top (aw:=15) h45) (zD.top (aw:=15) h46) h47 h48 h49 (an6 h50 h51 h52 h53 h54 h55 (an6 h56 h57 h57 h58 (xR u3) (xR u4) (an6 (xR u5) (zT u6) (xI u7) (zD.top (aw:=15) h59) (zD.top (aw:=15) h60) (w64 u8) f))))))))))))) nx
theorem yYE (nx:Q2 Z) (u1:¬ bj<(lK:Int):=by omega):zGJ BA q2 l2 c2 q5 l5 c5 qF lK cI bj Z Nx Qr Q2 :=
 kO 2 () [.g,.g,.g,.b false] (fun _ f=>ai (zT u1) f) nx
@[reducible] def Hb1 (Z ZFB ZRB ZHB ZSB ZR:St) (BA aN aO lHB cDB lQB cKB lTB cPB lIB cEB:Nat) (cs1838 cs1841 cs1842 cs1848 cs1849 cs1855:lVa) (bz qBB qJB qNB qCB:oAa) (nTB nBj nBi:Int):Prop:=qn Z 25 ⟨BA,0,none⟩=some (.agg ⟨cs1838⟩)/\(qm 39 [.agg ⟨cs1838⟩,.slice bz aN aO] Z (.slice qBB lHB cDB) ZFB)/\qn (ZFB.row [.slice qBB lHB cDB] 1) 25 ⟨BA,0,none⟩=some (.agg ⟨cs1841⟩)/\qm 17 [.agg ⟨cs1841⟩] (ZFB.row [.slice qBB lHB cDB] 1) (.agg ⟨cs1842⟩) ZRB/\qm 25 [.agg ⟨cs1842⟩] ZRB (.tuple ⟨[.slice qJB lQB cKB,.slice qNB lTB cPB,iV nTB]⟩) ZHB/\qn ZHB 25 ⟨BA,0,none⟩=some (.agg ⟨cs1848⟩)/\qm 17 [.agg ⟨cs1848⟩] ZHB (.agg ⟨cs1849⟩) ZSB/\qm 37 [.agg ⟨cs1849⟩] ZSB (.tuple ⟨[.slice qCB lIB cEB,iV nBj,iV nBi]⟩) ZR/\qn ZR 25 ⟨BA,0,none⟩=some (.agg ⟨cs1855⟩)/\(qm 21 [.agg ⟨cs1855⟩,.slice qCB lIB cEB] ZR (.bool true) ZR)
theorem yLD (H:Hb1 Z ZFB ZRB ZHB ZSB ZR BA aN aO lHB cDB lQB cKB lTB cPB lIB cEB cs1838 cs1841 cs1842 cs1848 cs1849 cs1855 bz qBB qJB qNB qCB nTB nBj nBi) (h11:qm 19 [.slice qCB lIB cEB] ZR (.slice qGC lBE cHC) ZXB) (h12:yF Pg 50 50 (.slice (some (qe ZFB.y 0)) 1 1) (.slice (some (qe ZXB.y 0)) 1 1) (ZXB.row [.slice qGC lBE cHC] 1)=some (.slice qF lK cI,ZJB)) (hL:zMG BA q2 l2 c2 q5 l5 c5 qF lK cI 0 ZJB Pr P2) (kr:∀ t8_2' Z',Pr t8_2' Z'->zVW BA q2 l2 c2 q5 l5 c5 qF lK cI t8_2' Z' Q) (k2:∀ Z',P2 Z'->zKH BA q2 l2 c2 q5 l5 c5 qF lK cI Z' Q) (u1:¬ nTB=0:=by omega) (u2:nTB=9:=by omega) (u3:nBi=0:=by omega):zET bz aN aO BA q2 l2 c2 q5 l5 c5 Z Q :=
 match H with|⟨h1,h2,h3,h4,h5,h6,h7,h8,h9,h10⟩=>sK [.l (qf cs1838),.g,.c (.slice qBB lHB cDB) ZFB,.g,.g,.l (qf cs1841),.c (qf cs1842) ZRB,.c (.tuple ⟨[.slice qJB lQB cKB,.slice qNB lTB cPB,iV nTB]⟩) ZHB,.g,.g,.g,.g,.g,.g,.g,.l (qf cs1848),.c (qf cs1849) ZSB,.c (.tuple ⟨[.slice qCB lIB cEB,iV nBj,iV nBi]⟩) ZR,.g,.g,.g,.g,.g,.g,.g,.g,.b true,.g,.g,.b false,.g,.g,.g,.b false,.g,.g,.l (qf cs1855),.g,.c (.bool true) ZR,.g,.g,.g,.g,.b false,.g,.g,.g,.g,.g,.c (.slice qGC lBE cHC) ZXB,.g,.e (.slice qF lK cI) ZJB,.g,.g,.b false,.g,.lf 202 (zBS BA q2 l2 c2 q5 l5 c5 qF lK cI 0) [zER BA q2 l2 c2 q5 l5 c5 qF lK cI Pr,zES BA q2 l2 c2 q5 l5 c5 qF lK cI P2]] (an5 h1 (zD.top (aw:=15) h2) h3 (zD.top (aw:=15) h4) (zD.top (aw:=15) h5) (an6 h6 (zD.top (aw:=15) h7) (zD.top (aw:=15) h8) (zCC u1) (xR u2) (xR u3) (an6 h9 (zD.top (aw:=15) h10) (xI u1) (zD.top (aw:=15) h11) h12 (xI u1) (ai (ai tt (ai (arf (zBS BA q2 l2 c2 q5 l5 c5 qF lK cI 0)) hL)) (ai (fun (t:Bool) (g':Nat->Value) (Z':St) (q:Pr t Z')=>kr t Z' q g') (ai (fun (t:Unit) (g':Nat->Value) (Z':St) (q:P2 Z')=>k2 Z' q g') trivial))))))
theorem yLC (H:Hb1 Z ZFB ZRB ZHB ZSB ZR BA aN aO lHB cDB lQB cKB lTB cPB lIB cEB cs1838 cs1841 cs1842 cs1848 cs1849 cs1855 bz qBB qJB qNB qCB nTB nBj nBi) (h11:qm 21 [qf cs1855,.slice qJB lQB cKB] ZR (.bool true) ZR) (h12:qm 19 [.slice qCB lIB cEB] ZR (.slice qHC lBF cIC) ZJB) (h13:yF Pg 50 50 (.slice (some (qe ZFB.y 0)) 1 1) (.slice (some (qe ZJB.y 0)) 1 1) (ZJB.row [.slice qHC lBF cIC] 1)=some (.slice qIC lBG cJC,ZBT)) (h14:qm 19 [.slice qJB lQB cKB] ZBT (.slice qJC lBH cBA) ZYB) (h15:yF Pg 50 50 (.slice qIC lBG cJC) (.slice (some (qe ZYB.y 0)) 1 1) (ZYB.row [.slice qJC lBH cBA] 1)=some (.slice qDB lJB cFB,ZBU)) (hL:zMG BA q2 l2 c2 q5 l5 c5 qDB lJB cFB 0 ZBU Pr P2) (kr:∀ t8_2' Z',Pr t8_2' Z'->zVW BA q2 l2 c2 q5 l5 c5 qDB lJB cFB t8_2' Z' Q) (k2:∀ Z',P2 Z'->zKH BA q2 l2 c2 q5 l5 c5 qDB lJB cFB Z' Q) (u1:nTB=0:=by omega) (u2:nBi=0:=by omega):zET bz aN aO BA q2 l2 c2 q5 l5 c5 Z Q :=
 match H with|⟨h1,h2,h3,h4,h5,h6,h7,h8,h9,h10⟩=>sK [.l (qf cs1838),.g,.c (.slice qBB lHB cDB) ZFB,.g,.g,.l (qf cs1841),.c (qf cs1842) ZRB,.c (.tuple ⟨[.slice qJB lQB cKB,.slice qNB lTB cPB,iV nTB]⟩) ZHB,.g,.g,.g,.g,.g,.g,.g,.l (qf cs1848),.c (qf cs1849) ZSB,.c (.tuple ⟨[.slice qCB lIB cEB,iV nBj,iV nBi]⟩) ZR,.g,.g,.g,.g,.g,.g,.g,.g,.b false,.g,.g,.g,.g,.b false,.g,.g,.l (qf cs1855),.g,.c (.bool true) ZR,.g,.g,.g,.g,.b true,.g,.l (qf cs1855),.g,.c (.bool true) ZR,.g,.g,.g,.g,.g,.c (.slice qHC lBF cIC) ZJB,.g,.e (.slice qIC lBG cJC) ZBT,.g,.g,.b true,.g,.g,.c (.slice qJC lBH cBA) ZYB,.g,.e (.slice qDB lJB cFB) ZBU,.g,.g,.lf 202 (zBS BA q2 l2 c2 q5 l5 c5 qDB lJB cFB 0) [zER BA q2 l2 c2 q5 l5 c5 qDB lJB cFB Pr,zES BA q2 l2 c2 q5 l5 c5 qDB lJB cFB P2]] (an2 h1 (zD.top (aw:=15) h2) (an6 h3 (zD.top (aw:=15) h4) (zD.top (aw:=15) h5) h6 (zD.top (aw:=15) h7) (zD.top (aw:=15) h8) (an6 (xR u1) (xR u2) h9 (zD.top (aw:=15) h10) (xK u1) h9 (an6 (zD.top (aw:=15) h11) (zD.top (aw:=15) h12) h13 (xK u1) (zD.top (aw:=15) h14) h15 (ai (ai tt (ai (arf (zBS BA q2 l2 c2 q5 l5 c5 qDB lJB cFB 0)) hL)) (ai (fun (t:Bool) (g':Nat->Value) (Z':St) (q:Pr t Z')=>kr t Z' q g') (ai (fun (t:Unit) (g':Nat->Value) (Z':St) (q:P2 Z')=>k2 Z' q g') trivial)))))))
theorem zQR (nx:Q (.bool true) Z):zKH BA q2 l2 c2 q5 l5 c5 qF lK cI Z Q :=
 sK [.c (.bool true) Z,.g] (ai (wCD:zIL (zMX Pg 15) (.func 15) [] Z (.bool true) Z) nx)
end
section
variable {Z z:St} {w:Wk} {p q r:Option Addr} {l m c d rl rc:Nat} {xs:List Int}
theorem xWQ {rs:List Int} (hl:rs.length=w.N.length) (hr:Ros w (zY rs)):0<=vV w (zY rs)/\vV w (zY rs)<=(w.N.length:Int):=by
 have h1:=(zXC hl).1 hr;have e:((wDG rs:Nat):Int)=vV w (zY rs):=yZT hl fun y hy=>(h1 y hy).1
 have hle:wDG rs<=rs.length:=List.length_filter_le _ _;omega
end
section
variable {Z z:St} {w:Wk} {p q r pw:Option Addr} {l m c d rl rc lw cw:Nat} {xs ws ys:List Int}
theorem xPS (hs:Sane w l m) (hln:w.N.length=l):zCV w (wT w)=true:=by
 refine zMI.2 ⟨by simp [wT],fun i hi=>?_⟩;have hi:i<w.N.length:=by simpa [wT] using hi
 have:=hs.duty i (by omega);rw [zQQ];show (dtQ w i).lo<=(dtQ w i).hi/\(dtQ w i).hi<=(dtQ w i).hi;omega
end
section
variable {Z z:St} {w:Wk} {p q q2 q10:Option Addr} {l m c d c2 c10 N cN:Nat} {ys T O:List Int}
theorem xUY (hl:w.N.length<=12) (hm:m<=6) {ros tru:Nat->Int}:(uQ w ros tru m).length<=1000:=by
 have:=xMU (w:=w) (ros:=ros) (tru:=tru) (k:=m);have h2:m*(5*w.N.length+1)<=6*61:=Nat.mul_le_mul hm (by omega);omega
theorem yFJ {ros tru tru':Nat->Int} (h:∀ i,i<w.N.length->tru i<=tru' i):∀ x∈uQ w ros tru m,x∈uQ w ros tru' m:=fun x hx=>by
 obtain ⟨h1,h2,h3⟩:=zJK.1 hx;exact zJK.2 ⟨h1,h2,ySM h h3⟩
theorem zYM {t1 sL:St} {qa:Addr} (h:WkP t1 92 76 w p l q m) (w1:Row t1 ⟨Z.y,0,none⟩ (wkc w.M p l c q m d w.rest w.run w.j)) (hsh:zAD w) (hf:yX w=0) (hs:Sane w l m) (hln:w.N.length=l) (hm:w.L.length=m) (h8:l<=8) (h4:m<=4) (L0:Le t1 sL)
  (iT:yC sL q2 l T) (iO:yC sL q10 l O) (hT:∀ i,i<l->(dtQ w i).lo<=zY T i/\zY T i<=zY O i/\zY O i<=(dtQ w i).hi) (hN:N<=100) (hqa:qa.block<sL.y)
  (hrows:∀ s,s<N->∃ q1 c1 ys,(∀ y,Le sL y->zB Tryz.prog y 26 (zJ qa (Int.toNat (s:Int)*1))=some (.slice q1 l c1))/\yC sL q1 l ys/\Ros w (zY ys)/\(0<s->uW w (zY ys) (late w))) :
  zMG Z.y q2 l c2 q10 l c10 (some qa) N cN 0 sL (fun _ _=>False) (fun _=>True):=by
 have hnx:Z.y<t1.y:=w1.lt;have ldw:∀ s,Le t1 s->zB Tryz.prog s 25 ⟨Z.y,0,none⟩=some (.agg ⟨wkc w.M p l c q m d w.rest w.run w.j⟩):=fun s hs=>(w1.le hs).ldN zEY zAX (k:=0) rfl rfl (nle rfl)
 have bn:∀ s,Le t1 s->Z.y<s.y:=fun s hs=>by have:=hs.y;omega
 have pab:∀ s,Le t1 s->∀ a,p=some a->a.block<s.y:=fun s hs=>yW (h.le hs).dty
 have qab:∀ s,Le t1 s->∀ a,q=some a->a.block<s.y:=fun s hs=>by obtain ⟨vs,g,_⟩:=(h.le hs).drv;exact yW g
 have bw':∀ s,Le t1 s->zF s.y [.agg ⟨wkc w.M p l c q m d w.rest w.run w.j⟩]:=fun s hs=>(zE (uC (pab s hs) (qab s hs)) zI)
 have b0':∀ s,Le t1 s->zF s.y [.pointer (some ⟨Z.y,0,none⟩)]:=fun s hs=>(zE (zP (bn s hs)) zI)
 have lw':∀ s,Le t1 s->((⟨Z.y,0,none⟩:Addr).block<s.y/\zM RD (.agg ⟨wkc w.M p l c q m d w.rest w.run w.j⟩)=true)/\zB Tryz.prog s 25 ⟨Z.y,0,none⟩=some (.agg ⟨wkc w.M p l c q m d w.rest w.run w.j⟩):=fun s hs=>⟨⟨bn s hs,rfl⟩,ldw s hs⟩
 have eT:=iT.len;have eO:=iO.len;have tT:zCV w T=true:=zMI.2 ⟨by omega,fun i hi=>by have:=hT i (by omega);omega⟩;have tO:zCV w O=true:=zMI.2 ⟨by omega,fun i hi=>by have:=hT i (by omega);omega⟩;have tL:=xPS hs hln;have rb:∀ ros tru,(uQ w ros tru m).length<=1000:=fun ros tru=>xUY (by omega) (by omega)
 refine yLE (Inv:=fun k i y=>∃ j:Nat,i=(j:Int)/\j+k=N/\Le sL y) ?_ N 0 sL ⟨0,rfl,by omega,Le.refl _⟩;rintro k i y ⟨s,rfl,hk,hle⟩;by_cases hsN:s<N;rotate_left
 ·exact yYE trivial (by omega)
 obtain ⟨q1,c1,ys,ldx,iy,hyr,hyl⟩:=hrows s hsN;have eyl:=iy.len;have hyd:ys.length=w.N.length:=by omega
 have hisr:zBA w ys=true:=zDF.2 ⟨hyd,fun i hi=>hyr.ros i (by omega)⟩;have hz:∀ t:List Int,zCV w t=true->zRO w ys t=0:=fun t ht=>by
  unfold zRO;rw [if_neg (by omega),hisr,ht];rfl
 have bq:∀ u,Le sL u->qa.block<u.y:=fun u hu=>by have:=hu.y;omega
 have bp:∀ u,Le sL u->zF u.y [.pointer (some (zJ qa (Int.toNat (s:Int)*1)))]:=fun u hu=>(zE (zP (bq u hu)) zI)
 have bs:∀ u,Le sL u->zF u.y [.slice q1 l c1]:=fun u hu=>(zE (yK (yW (SlV.le iy hu))) zI)
 have lk:∀ u,Le sL u->((zJ qa (Int.toNat (s:Int)*1)).block<u.y/\zM RD (.slice q1 l c1)=true)/\zB Tryz.prog u 26 (zJ qa (Int.toNat (s:Int)*1))=some (.slice q1 l c1):=fun u hu=>⟨⟨bq u hu,rfl⟩,ldx u hu⟩
 have Ly:=L0.trans hle;obtain ⟨pa,ca,ra,da,sa,k2,Na,wa⟩:=zUC (c:=c) (d:=d) (h.le Ly) (by omega) (by omega) hsh;have La:=hle.trans Na.le;obtain ⟨pb,cb,sb,k4,Nb,ib,_⟩:=zEB (c:=c1) (SlV.le iy La) (by omega);have Lb:=La.trans Nb.le;have wb:=wa.le Nb.le;have k5:=yES (c:=ca) (d:=da) (rc:=cb) (eY:=0) wb hsh ib (by omega);have b9:zF sb.y [.agg ⟨wkc w.M pa l ca ra m da w.rest w.run w.j⟩,.slice pb l cb,iV 0]:=(zE (uC (yW wb.dty) (by obtain ⟨vs,g,_⟩:=wb.drv;exact yW g)) (zE (yK (yW ib)) (zE rfl zI)));have Tb:=L0.trans Lb;obtain ⟨pc,cc,rc,dc,sc,k13,Nc,wc⟩:=zUC (c:=c) (d:=d) (h.le Tb) (by omega) (by omega) hsh;have Lc:=Lb.trans Nc.le;obtain ⟨pd,cd,sd,k15,Nd,id,_⟩:=zEB (c:=c1) (SlV.le iy Lc) (by omega);have Ld:=Lc.trans Nd.le;obtain ⟨pe,ce,se,k16,Ne,ie,_⟩:=zEB (c:=c2) (SlV.le iT Ld) (by omega);have Le5:=Ld.trans Ne.le;have we:=(wc.le Nd.le).le Ne.le;have ide:=SlV.le id Ne.le;obtain ⟨pf,cf,sf,k17,Nf,iF,_⟩:=zPK (c:=cc) (d:=dc) (rc:=cd) (tc:=ce) we hsh ide ie (by omega) (by omega) (hz T tT);have Lf:=Le5.trans Nf.le;have b22:zF sd.y [.slice q2 l c2]:=(zE (yK (yW (SlV.le iT Ld))) zI);have b23:zF se.y [.agg ⟨wkc w.M pc l cc rc m dc w.rest w.run w.j⟩,.slice pd l cd,.slice pe l ce]:=(zE (uC (yW we.dty) (by obtain ⟨vs,g,_⟩:=we.drv;exact yW g)) (zE (yK (yW ide)) (zE (yK (yW ie)) zI)));have Tf:=L0.trans Lf;obtain ⟨pg,cg,rg,dg,sg,k27,Ng,wg⟩:=zUC (c:=c) (d:=d) (h.le Tf) (by omega) (by omega) hsh;have Lg:=Lf.trans Ng.le;obtain ⟨ph,ch,sh,k29,Nh,ih,_⟩:=zEB (c:=c1) (SlV.le iy Lg) (by omega);have Lh:=Lg.trans Nh.le;obtain ⟨pi,ci,si,k30,Ni,ii,_⟩:=zEB (c:=c10) (SlV.le iO Lh) (by omega);have Li:=Lh.trans Ni.le;have wi:=(wg.le Nh.le).le Ni.le;have ihi:=SlV.le ih Ni.le;obtain ⟨pj,cj,sj,k31,Nj,iJ,_⟩:=zPK (c:=cg) (d:=dg) (rc:=ch) (tc:=ci) wi hsh ihi ii (by omega) (by omega) (hz O tO);have Lj:=Li.trans Nj.le;have b36:zF sh.y [.slice q10 l c10]:=(zE (yK (yW (SlV.le iO Lh))) zI);have b37:zF si.y [.agg ⟨wkc w.M pg l cg rg m dg w.rest w.run w.j⟩,.slice ph l ch,.slice pi l ci]:=(zE (uC (yW wi.dty) (by obtain ⟨vs,g,_⟩:=wi.drv;exact yW g)) (zE (yK (yW ihi)) (zE (yK (yW ii)) zI)));have Tj:=L0.trans Lj;obtain ⟨pk,ck,rk,dk,sk,k41,Nk,wk⟩:=zUC (c:=c) (d:=d) (h.le Tj) (by omega) (by omega) hsh;have Lk:=Lj.trans Nk.le;obtain ⟨pl,cl,sl,k43,Nl,il,_⟩:=zEB (c:=c1) (SlV.le iy Lk) (by omega);have Ll:=Lk.trans Nl.le;have Tl:=L0.trans Ll;obtain ⟨pm,cm,sm,k45,Nm,im,_⟩:=xFU (c:=c) (d:=d) (h.le Tl) (by omega);have Lm:=Ll.trans Nm.le;have wm:=(wk.le Nl.le).le Nm.le;have ilm:=SlV.le il Nm.le;obtain ⟨pn,cn,sn,k46,Nn,iN,_⟩:=zPK (c:=ck) (d:=dk) (rc:=cl) (tc:=cm) wm hsh ilm im (by omega) (by omega) (hz _ tL);have Ln:=Lm.trans Nn.le;have b53:zF sm.y [.agg ⟨wkc w.M pk l ck rk m dk w.rest w.run w.j⟩,.slice pl l cl,.slice pm l cm]:=(zE (uC (yW wm.dty) (by obtain ⟨vs,g,_⟩:=wm.drv;exact yW g)) (zE (yK (yW ilm)) (zE (yK (yW im)) zI)));have iJn:=SlV.le iJ ((((Nk.le).trans Nl.le).trans Nm.le).trans Nn.le);have iFn:=SlV.le iF ((((Ng.le).trans Nh.le).trans Ni.le).trans (Nj.le.trans ((((Nk.le).trans Nl.le).trans Nm.le).trans Nn.le)));have k59:=xEG (c:=cf) (d:=cj) iFn iJn (Nat.le_trans (rb _ _) (by decide)) (Nat.le_trans (rb _ _) (by decide)) (yFJ fun i hi=>(hT i (by omega)).2.1);have k60:=xEG (c:=cj) (d:=cn) iJn iN (Nat.le_trans (rb _ _) (by decide)) (Nat.le_trans (rb _ _) (by decide)) (yFJ fun i hi=>by rw [zQQ];exact (hT i (by omega)).2.2);have nx:∃ k',k' < k/\∃ j:Nat,(s:Int)+1=(j:Int)/\j+k'=N/\Le sL sn:=⟨k-1,by omega,s+1,by omega,by omega,Ln⟩;have hpr:zFH w ys 0=decide (uQ w (zY ys) (zY (wT w)) m=[]):=by
  rw [Bool.eq_iff_iff,xGH hf,decide_eq_true_iff,zQQ,<- hm,zSU];exact ⟨fun g=>g.2.1,fun g=>⟨⟨hyd,hyr⟩,g,(xWQ hyd hyr).1⟩⟩
 have u1:(s:Int)<((N:Nat):Int):=by omega
 have u2:Ix (s:Int) N:=⟨by omega,by omega⟩;have u8:I6 ((s:Int)+1):=⟨by omega,by omega⟩;have hle0:=Ly;by_cases he:uQ w (zY ys) (zY (wT w)) m=[]
 ·rw [hpr,decide_eq_true he] at k5;have u7:(((uQ w (zY ys) (zY (wT w)) m).length:Nat):Int)=0:=by rw [he];rfl
  by_cases h0:0<s
  ·exact yYH ⟨(ldw y Ly),k2,(ldx sa La),k4,k5,(bw' y Ly),(bp sa La),(bs sa La),b9,(ldx y hle),(lk sa La),(ldw sb Tb),k13,(ldx sc Lc),k15,k16,k17,(b0' sb Tb),(bw' sb Tb),(bp sc Lc),(bs sc Lc),b22,b23,(lk sb Lb),(lk sc Lc),(ldw sf Tf),k27,(ldx sg Lg),k29,k30,k31,(b0' sf Tf),(bw' sf Tf),(bp sg Lg),(bs sg Lg),b36,b37,(lk sf Lf),(lk sg Lg),(ldw sj Tj),k41,(ldx sk Lk),k43,(ldw sl Tl),k45,k46,(b0' sj Tj),(bw' sj Tj),(bp sk Lk),(bs sk Lk),(b0' sl Tl),(bw' sl Tl),b53,(lk sj Lj),(lk sk Lk),(lw' sj Tj),(lw' sk (L0.trans Lk)),(lw' sl Tl),k59,k60⟩ nx u1 u2 rfl rfl rfl (by omega) u7 u8 (bn y Ly) (bq y hle)
  ·exact yYG ⟨(ldw y Ly),k2,(ldx sa La),k4,k5,(bw' y Ly),(bp sa La),(bs sa La),b9,(ldx y hle),(lk sa La),(ldw sb Tb),k13,(ldx sc Lc),k15,k16,k17,(b0' sb Tb),(bw' sb Tb),(bp sc Lc),(bs sc Lc),b22,b23,(lk sb Lb),(lk sc Lc),(ldw sf Tf),k27,(ldx sg Lg),k29,k30,k31,(b0' sf Tf),(bw' sf Tf),(bp sg Lg),(bs sg Lg),b36,b37,(lk sf Lf),(lk sg Lg),(ldw sj Tj),k41,(ldx sk Lk),k43,(ldw sl Tl),k45,k46,(b0' sj Tj),(bw' sj Tj),(bp sk Lk),(bs sk Lk),(b0' sl Tl),(bw' sl Tl),b53,(lk sj Lj),(lk sk Lk),(lw' sj Tj),(lw' sk (L0.trans Lk)),(lw' sl Tl),k59,k60⟩ nx u1 u2 rfl rfl rfl (by omega) u7 u8 (bn y Ly) (bq y hle)
 ·rw [hpr,decide_eq_false he] at k5;have u7:¬ (((uQ w (zY ys) (zY (wT w)) m).length:Nat):Int)=0:=fun e=>he (List.eq_nil_of_length_eq_zero (by omega))
  have h0:¬ 0<s:=fun h0=>he (by rw [zQQ,<- hm];exact zSU.2 (hyl h0))
  exact yYF (ldw y Ly) k2 (ldx sa La) k4 k5 (bw' y Ly) (bp sa La) (bs sa La) b9 (ldx y hle) (lk sa La) (ldw sb Tb) k13 (ldx sc Lc) k15 k16 k17 (b0' sb Tb) (bw' sb Tb) (bp sc Lc) (bs sc Lc) b22 b23 (lk sb Lb) (lk sc Lc) (ldw sf Tf) k27 (ldx sg Lg) k29 k30 k31 (b0' sf Tf) (bw' sf Tf) (bp sg Lg) (bs sg Lg) b36 b37 (lk sf Lf) (lk sg Lg) (ldw sj Tj) k41 (ldx sk Lk) k43 (ldw sl Tl) k45 k46 (b0' sj Tj) (bw' sj Tj) (bp sk Lk) (bs sk Lk) (b0' sl Tl) (bw' sl Tl) b53 (lk sj Lj) (lk sk Lk) (lw' sj Tj) (lw' sk (L0.trans Lk)) (lw' sl Tl) k59 k60 nx u1 u2 rfl rfl rfl (by omega) u7 u8 (bn y Ly) (bq y hle)
end
section
variable {Z z:St} {w:Wk} {p q pw pe pm:Option Addr} {l m c d lw cw le ce lm cm:Nat} {ws es ms:List Int}
theorem xOT:yV 1=true:=(xC 1).2 (by unfold uB;decide)
theorem yFE {n0 n:Nat} {p':Option Addr} {c':Nat} {vs:List Value} {v:Value} {y:St} (h:Ax y n0 1 p' n c' vs) (hn:n<=100) (hv:cellB v=true) (hn0:n0<=y.y) :
  ∃ p2 c2 y2,yF Pg 50 50 (.slice p' n c') (.slice (some ⟨y.y,0,none⟩) 1 1) (y.row [v] 1)=some (.slice p2 (n+1) c2,y2)/\Ax y2 n0 1 p2 (n+1) c2 (vs++[v])/\Only (AtP p') y y2/\∀ b,AtP p2 b->AtP p' b\/y.y<b:=by
 obtain ⟨p2,c2,y2,a1,a2,a3,a4⟩:=Ax.append (P:=Pg) (k:=1) (m:=1) (n0:=n0) xKD (h.le (Le.row y [v] 1)) ((xH y [v] 1).sl rfl) (by omega) (by simp [hv]) (by show n0<=y.y+1;omega);exact ⟨p2,c2,y2,a1,a2,((New.row y [v] 1).only (S:=AtP p')).trans' a3 (fun b _ hb=>.inl hb),fun b hb=>by
  rcases a4 b hb with g | g
  ·exact .inl g
  ·exact .inr g⟩
theorem yYD (h:WkP Z 92 76 w p l q m) (hw:SlV Pg Z 5 1 pw lw (ws.map zNS)) (hb:∀ x∈ws,0<=x/\x<=255) (he:SlV Pg Z 5 1 pe le (es.map zNS)) (hbe:∀ x∈es,0<=x/\x<=255) (hmo:SlV Pg Z 5 1 pm lm (ms.map zNS)) (hbm:∀ x∈ms,0<=x/\x<=255) :
  xBL Pg 15 9 [.agg ⟨wkc w.M p l c q m d w.rest w.run w.j⟩,.slice pw lw cw,.slice pe le ce,.slice pm lm cm] Z fun v _=>v=.bool true:=by
 have hln:=h.len.1;have hm:=h.len.2;obtain ⟨t1,ht1⟩:∃ t1,t1=Z.row (wkc w.M p l c q m d w.rest w.run w.j) 6:=⟨_,rfl⟩;have L1:Le Z t1:=by rw [ht1];exact Le.row _ _ _
 have w1:Row t1 ⟨Z.y,0,none⟩ (wkc w.M p l c q m d w.rest w.run w.j):=by rw [ht1];exact xH _ _ _
 have hnx:Z.y<t1.y:=w1.lt;have k1:=xWG (c:=c) (d:=d) (h.le L1);cases b0:yAT w with
 | false =>
  rw [b0] at k1;subst ht1;exact xHY k1 rfl
 | true =>
 rw [b0] at k1;obtain ⟨hsh,hf,h8,h4⟩:=yQH b0;rw [hln] at h8;rw [hm] at h4;have hs:=Sane.of hf hsh hln hm;have h1:=h.le L1;have ldw:∀ s,Le t1 s->zB Pg s 25 ⟨Z.y,0,none⟩=some (.agg ⟨wkc w.M p l c q m d w.rest w.run w.j⟩):=fun s hs=>(w1.le hs).ldN zEY zAX (k:=0) rfl rfl (nle rfl)
 have bn:∀ s,Le t1 s->Z.y<s.y:=fun s hs=>by have:=hs.y;omega
 have pab:∀ s,Le t1 s->∀ a,p=some a->a.block<s.y:=fun s hs=>yW (h1.le hs).dty
 have qab:∀ s,Le t1 s->∀ a,q=some a->a.block<s.y:=fun s hs=>by obtain ⟨vs,g,_⟩:=(h1.le hs).drv;exact yW g
 obtain ⟨T,p2,c2,s3,k2,N2,A2,lT,hT⟩:=xEL (c:=c) (d:=d) (cw:=ce) h1 hs (SlV.le he L1) hbe (by omega);have L3:Le t1 s3:=N2.le;obtain ⟨O,p10,c10,s11,k4,N4,A4,lO,hO⟩:=xEL (c:=c) (d:=d) (cw:=cm) (h1.le L3) hs (SlV.le hmo (L1.trans L3)) hbm (by omega);have iT:yC s3 p2 l T:=yMK A2 lT;have b5:zF t1.y [.agg ⟨wkc w.M p l c q m d w.rest w.run w.j⟩,.slice pe le ce]:=(zE (uC (pab t1 (Le.refl _)) (qab t1 (Le.refl _))) (zE (yK (yW (SlV.le he L1))) zI));have b6:zF s3.y [.pointer (some ⟨Z.y,0,none⟩)]:=(zE (zP (bn s3 L3)) zI);have b7:zF s3.y [.agg ⟨wkc w.M p l c q m d w.rest w.run w.j⟩,.slice pm lm cm]:=(zE (uC (pab s3 L3) (qab s3 L3)) (zE (yK (yW (SlV.le hmo (L1.trans L3)))) zI));have e8:=ldw t1 (Le.refl _);have e9:((⟨Z.y,0,none⟩:Addr).block<s3.y/\zM RD (.agg ⟨wkc w.M p l c q m d w.rest w.run w.j⟩)=true)/\zB Pg s3 25 ⟨Z.y,0,none⟩=some (.agg ⟨wkc w.M p l c q m d w.rest w.run w.j⟩):=⟨⟨bn s3 L3,rfl⟩,ldw s3 L3⟩;let P0:St->Prop:=fun y=>Le s3 y/\∃ O':List Int,yC y p10 l O'/\∀ i,i<l->(dtQ w i).lo<=zY T i/\zY T i<=zY O' i/\zY O' i<=(dtQ w i).hi
 have hL:zSV pw lw cw Z.y p2 l c2 p10 l c10 0 s11 P0:=by
  refine yLF (Inv:=fun k i y=>∃ (j:Nat) (O':List Int),i=(j:Int)/\j+k=l/\Le s3 y/\Ax y (s3.y+1) 1 p10 l c10 (O'.map yA)/\O'.length=l/\(∀ i,i<l->(dtQ w i).lo<=zY O' i/\zY O' i<=(dtQ w i).hi)/\∀ i,i<j->zY T i<=zY O' i) ?_ l 0 s11 ⟨0,O,rfl,by omega,N4.le,A4,lO,hO,fun i hi=>by omega⟩;rintro k i y ⟨j,O',rfl,hk,J1,J2,J3,J4,J5⟩;by_cases hj:j<l;rotate_left
  ·exact yYI ⟨J1,O',yMK J2 J3,fun i hi=>⟨(hT i hi).1,J5 i (by omega),(J4 i hi).2⟩⟩ (by omega)
  have iO:=yMK J2 J3;obtain ⟨a2,rfl,x,hx,ldx⟩:=xZ (f:=yA) (SlV.le iT J1) hj;have ex:zY T j=x:=by unfold zY;rw [List.getD_eq_getElem?_getD,hx];rfl
  have hgo:O'[j]?=some O'[j]:=List.getElem?_eq_getElem (by omega);have ey:zY O' j=O'[j]:=by unfold zY;rw [List.getD_eq_getElem?_getD,hgo];rfl
  obtain ⟨a10,y',rfl,st,A',k'⟩:=wBJ (x:=max O'[j] x) J2 J3 hj;have ldo:zB Pg y 3 (zJ a10 (Int.toNat (j:Int)*1))=some (iV O'[j]):=iO.at rfl (by simp [hgo]);have hle':Le s3 y':=⟨Nat.le_trans J1.y k'.y,fun b hb=>(k'.get b (Nat.lt_of_lt_of_le hb J1.y) (fun ha=>by have:=(J2.bd b ha).1;omega)).trans (J1.get b hb)⟩;have hj4:=J4 j hj;have hjT:=hT j hj;rw [ey] at hj4;rw [ex] at hjT;have hset:∀ i,zY (O'.set j (max O'[j] x)) i=if i=j then max O'[j] x else zY O' i:=fun i=>zZC (by omega)
  refine yYJ ldo ldx xDF st ⟨k-1,by omega,j+1,O'.set j (max O'[j] x),by omega,by omega,hle',A',by simpa using J3,fun i hi=>?_,fun i hi=>?_⟩ (by omega) ⟨by omega,by omega⟩ ⟨by omega,by omega⟩ ⟨by omega,by omega⟩
  ·rw [hset];by_cases e:i=j
   ·rw [if_pos e,e];omega
   ·rw [if_neg e];exact J4 i hi
  ·rw [hset];by_cases e:i=j
   ·rw [if_pos e,e,ex];omega
   ·rw [if_neg e];exact J5 i (by omega)
 have k0:∀ y,P0 y->zET pw lw cw Z.y p2 l c2 p10 l c10 y (fun v _=>v=.bool true):=by
  rintro y ⟨J1,O',iO,hTO⟩;have Ly:Le t1 y:=L3.trans J1;obtain ⟨out,pa,ca,s45,g2,N45,i45,hout⟩:=xYL (c:=c) (d:=d) (cw:=cw) (h1.le Ly) (SlV.le hw (L1.trans Ly)) hb (by omega) (by omega);have eol:=i45.len;have hor:Ros w (zY out):=(zXC (by omega)).2 (by rw [hm];exact hout);obtain ⟨u1,hu1⟩:∃ u1,u1=s45.row [.slice pa l ca] 1:=⟨_,rfl⟩;have o1:Own u1 s45.y [.slice pa l ca] 1:=by rw [hu1];exact zC _ _ _
  have M1:New s45 u1:=by rw [hu1];exact New.row _ _ _
  have L45:=Ly.trans N45.le;have Lu1:=L45.trans M1.le;obtain ⟨p58,c58,q58,d58,s58,g4,N58,w58⟩:=zUC (c:=c) (d:=d) (h1.le Lu1) (by omega) (by omega) hsh;obtain ⟨v,s62,g5,N62,bv⟩:=wBZ (c:=c58) (d:=d58) w58 hsh;have L62:=Lu1.trans (N58.le.trans N62.le);obtain ⟨p75,c75,q75,d75,s75,g7,N75,w75⟩:=zUC (c:=c) (d:=d) (h1.le L62) (by omega) (by omega) hsh;obtain ⟨v2,s79,g8,N79,mv⟩:=wBX (c:=c75) (d:=d75) w75 hsh;have L79:=L62.trans (N75.le.trans N79.le);obtain ⟨hf',_⟩ | ⟨_,rs,pr,cr,rfl,irs,B⟩:=mv
  ·exact absurd hf hf'
  have erl:=irs.len;have hrl:rs.length=w.N.length:=by omega
  have g10:=zUZ (c:=c) (d:=d) (rc:=cr) (h1.le L79) irs (by omega) (by omega);have hisr:zBA w rs=true:=zDF.2 ⟨hrl,fun j hj=>B.ros.ros j (by omega)⟩;rw [hisr] at g10;obtain ⟨p88,c88,s88,g11,N88,i88,f88⟩:=zEB (c:=cr) irs (by omega);have U88:Le u1 s88:=N58.le.trans (N62.le.trans (N75.le.trans (N79.le.trans N88.le)));have A1:Ax s88 s45.y 1 (some ⟨s45.y,0,none⟩) 1 1 [.slice pa l ca]:=Ax.lit (o1.le U88) rfl xOT (Nat.le_refl _);have n88:s45.y<=s88.y:=by have:=M1.le.y;have:=U88.y;omega
  obtain ⟨p90,c90,s89,g12,A12,O12,f12⟩:=yFE (v:=.slice p88 l c88) A1 (by decide) rfl n88;have at1:∀ b,AtP (some (⟨s45.y,0,none⟩:Addr)) b->b=s45.y:=fun b hb=>by obtain ⟨a,e,rfl⟩:=hb;cases e;rfl
  have n45:s45.y<u1.y:=o1.lt;have n58:=N58.nx;have n62:=N62.nx;have n75:=N75.nx;have n79:=N79.nx;have L4589:Le s45 s89:=⟨by have:=O12.y;omega,fun b hb=>(O12.get b (by have:=U88.y;omega) (fun ha=>by have:=at1 b ha;omega)).trans ((M1.le.trans U88).get b hb)⟩;have i88':yC s89 p88 l rs:=O12.slv' i88 (fun a ea ha=>by have:=at1 _ ha;have:=f88 a.block ⟨a,ea,rfl⟩;omega);have L89:Le t1 s89:=L45.trans L4589;have iT89:yC s89 p2 l T:=SlV.le iT (J1.trans (N45.le.trans L4589));have iO89:yC s89 p10 l O':=SlV.le iO (N45.le.trans L4589);have elr:∀ (vs:List Value),(∀ v∈vs,∃ q l c,v=Value.slice q l c)->∀ v∈vs,zFL Pg 26 1 v:=fun vs hv v hm=>by obtain ⟨q,l,c,rfl⟩:=hv v hm;exact xRT
  rcases bv with ⟨hf',_⟩ | ⟨_,hno,rfl⟩ | ⟨_,rs',gs,pr',cr',pg,cg,rfl,irs',igs,B',fB⟩
  ·exact absurd hf hf'
  ·have sl:SlV Pg s89 26 1 p90 2 [.slice pa l ca,.slice p88 l c88]:=Ax.slv (vs:=[.slice pa l ca,.slice p88 l c88]) A12 rfl (elr _ (by simp));obtain ⟨qa,rfl,_⟩:=sl.some (by decide:0<2);have hLL:=zYM (Z:=Z) (c2:=c2) (c10:=c10) (cN:=c90) h1 w1 hsh hf hs hln hm h8 h4 L89 iT89 iO89 hTO (N:=2) (by decide) (A12.bd qa.block ⟨qa,rfl,rfl⟩).2 (fun s hs'=>by
    match s,hs' with
    | 0,_=>exact ⟨pa,ca,out,fun u hu=>(SlV.le sl hu).at rfl rfl,SlV.le i45 L4589,hor,fun h0=>absurd h0 (by decide)⟩
    | 1,_=>exact ⟨p88,c88,rs,fun u hu=>(SlV.le sl hu).at rfl rfl,i88',B.ros,fun _=>B.legal⟩)
   have e1:=ldw y Ly;have e3:=ldw u1 Lu1;have e6:=ldw s62 L62;have e9:=ldw s79 L79;subst hu1;exact yLD ⟨e1,g2,e3,g4,g5,e6,g7,g8,e9,g10⟩ g11 g12 hLL (fun b u hh=>hh.elim) (fun u _=>zQR rfl) (by decide) rfl rfl
  ·have erl':=irs'.len;have hrl':rs'.length=w.N.length:=by omega
   have i79':yC s79 pr' l rs':=SlV.le irs' (N75.le.trans N79.le);have g11':=zUZ (c:=c) (d:=d) (rc:=cr') (h1.le L79) i79' (by omega) (by omega);have hisr':zBA w rs'=true:=zDF.2 ⟨hrl',fun j hj=>B'.ros.ros j (by omega)⟩;rw [hisr'] at g11';have i88b:yC s88 pr' l rs':=SlV.le i79' N88.le;have i89b:yC s89 pr' l rs':=O12.slv' i88b (fun a ea ha=>by have:=at1 _ ha;have:=fB a.block ⟨a,ea,rfl⟩;omega);obtain ⟨p93,c93,s93,g14,N93,i93,f93⟩:=zEB (c:=cr') i89b (by omega);have n89:=O12.y;have n93:=N93.nx;obtain ⟨p95,c95,s94,g15,A15,O15,f15⟩:=yFE (v:=.slice p93 l c93) (A12.le N93.le) (by decide) rfl (by omega);have bd90:∀ b,AtP p90 b->(b=s45.y\/s88.y<b)/\b<s89.y:=fun b hb=>⟨by
    rcases f12 b hb with g | g
    ·exact .inl (at1 b g)
    ·exact .inr g,(A12.bd b hb).2⟩
   have L4594:Le s45 s94:=⟨by have:=O15.y;have:=L4589.y;omega,fun b hb=>(O15.get b (by have:=L4589.y;omega) (fun ha=>by have:=(bd90 b ha).1;have:=M1.le.y;have:=U88.y;omega)).trans ((L4589.trans N93.le).get b hb)⟩;have i88'':yC s94 p88 l rs:=O15.slv' (SlV.le i88' N93.le) (fun a ea ha=>by
    have h2:=(bd90 _ ha).1;have h3:=f88 a.block ⟨a,ea,rfl⟩;have h4:=yW i88 a ea;omega)
   have i93':yC s94 p93 l rs':=O15.slv' i93 (fun a ea ha=>by have:=(bd90 _ ha).2;have:=f93 a.block ⟨a,ea,rfl⟩;omega);have L94:Le t1 s94:=L45.trans L4594;have sl:SlV Pg s94 26 1 p95 3 [.slice pa l ca,.slice p88 l c88,.slice p93 l c93]:=Ax.slv (vs:=[.slice pa l ca,.slice p88 l c88,.slice p93 l c93]) A15 rfl (elr _ (by simp));obtain ⟨qa,rfl,_⟩:=sl.some (by decide:0<3);have hLL:=zYM (Z:=Z) (c2:=c2) (c10:=c10) (cN:=c95) h1 w1 hsh hf hs hln hm h8 h4 L94 (SlV.le iT (J1.trans (N45.le.trans L4594))) (SlV.le iO (N45.le.trans L4594)) hTO (N:=3) (by decide) (A15.bd qa.block ⟨qa,rfl,rfl⟩).2 (fun s hs'=>by
    match s,hs' with
    | 0,_=>exact ⟨pa,ca,out,fun u hu=>(SlV.le sl hu).at rfl rfl,SlV.le i45 L4594,hor,fun h0=>absurd h0 (by decide)⟩
    | 1,_=>exact ⟨p88,c88,rs,fun u hu=>(SlV.le sl hu).at rfl rfl,i88'',B.ros,fun _=>B.legal⟩
    | 2,_=>exact ⟨p93,c93,rs',fun u hu=>(SlV.le sl hu).at rfl rfl,i93',B'.ros,fun _=>B'.legal⟩)
   have e1:=ldw y Ly;have e3:=ldw u1 Lu1;have e6:=ldw s62 L62;have e9:=ldw s79 L79;subst hu1;exact yLC ⟨e1,g2,e3,g4,g5,e6,g7,g8,e9,g10⟩ g11' g11 g12 g14 g15 hLL (fun b u hh=>hh.elim) (fun u _=>zQR rfl) rfl rfl
 subst ht1;exact xHZ k1 k2 (ldw s3 L3) k4 b5 b6 b7 ⟨⟨w1.lt,rfl⟩,e8⟩ e9 hL k0
end
section
variable {n k l c:Nat} {cs:List Value} {t e:TypeId}
section
variable {Z:St}
theorem zBI (h:WT Pg Z (n+1) 3 cs):∃ i,cs=[yA i]:=by
 unfold WT at h;simp only [Tryz.underlying3] at h;obtain ⟨i,h,_⟩:=h;exact ⟨i,h⟩
theorem zPM (hu:Pg.underlying t=some (.slice e)) (hk:Pg.cellsOf e=k) (h:WT Pg Z (n+1) t cs) :
  ∃ p len cap rs,cs=[.slice p len cap]/\len<=maxLen/\SlP Z k p len rs/\rs.length=len*k/\∀ i,i<len->WT Pg Z n e ((rs.drop (i*k)).take k):=by
 unfold WT at h;simp only [hu,hk] at h;rcases h with rfl | ⟨b,len,cap,rs,rfl,h1,h2,h3,h4,h5,h6⟩
 ·exact ⟨none,0,0,[],rfl,by decide,SlP.nil _ _,by simp,fun i hi=>by omega⟩
 ·refine ⟨_,len,cap,rs,rfl,h1,⟨h3, ?_,h5⟩,h3,h6⟩
  simp only [yU,h4,yB,wX,Nat.zero_add,List.drop_zero,List.take_length];show (bif Nat.ble rs.length rs.length then some rs else none)=some rs;rw [show Nat.ble rs.length rs.length=true from by simp];rfl
theorem zZQ {α:Type} {k:Nat} {Q:List Value->Prop} {f:α->List Value} (hq:∀ cs,Q cs->∃ x,cs=f x):∀ (len:Nat) (rs:List Value),rs.length=len*k->(∀ i,i<len->Q ((rs.drop (i*k)).take k))->∃ xs:List α,xs.length=len/\rs=xs.flatMap f
 | 0,rs,hl,_=>⟨[],rfl,by simpa using hl⟩
 | len+1,rs,hl,h=>by
  obtain ⟨x,hx⟩:=hq _ (h 0 (by omega));obtain ⟨xs,h1,h2⟩:=zZQ (k:=k) hq len (rs.drop k) (by simp [hl,Nat.add_mul]) (fun i hi=>by
   have:=h (i+1) (by omega);rwa [Nat.add_mul,Nat.one_mul,Nat.add_comm (i*k),<- List.drop_drop] at this)
  refine ⟨x::xs,by simp [h1], ?_⟩
  simp only [List.flatMap_cons,<- h2,<- hx];simp
theorem yHY {α:Type} (f:α->List Value) (xs:List α):wD (xs.map fun x=>.agg ⟨f x⟩)=xs.flatMap f:=by
 induction xs with
 | nil=>rfl
 | cons x xs ih=>rw [List.map_cons,List.flatMap_cons,<- ih];simp [wD,Value.cells]
theorem xRI (xs:List Int):wD (xs.map yA)=xs.flatMap fun x=>[yA x]:=by
 induction xs with
 | nil=>rfl
 | cons x xs ih=>rw [List.map_cons,List.flatMap_cons,<- ih];rfl
theorem wCB (h:WT Pg Z (n+1) 5 cs):∃ i:Int,cs=[.int .u8 i]/\0<=i/\i<=255:=by
 unfold WT at h;simp only [Tryz.underlying5] at h;obtain ⟨i,h,hk⟩:=h;refine ⟨i,h, ?_⟩
 rw [show IntKind.u8.min=0 by decide,show IntKind.u8.max=255 by decide] at hk;exact hk
theorem yUC {p:Option Addr} (hu:Pg.underlying t=some (.slice e)) (hk:Pg.cellsOf e=k) (h:WT Pg Z (n+1) t [.slice p l c]):zUJ Z k p l c:=by
 unfold WT at h;simp only [hu,hk] at h;rcases h with h | ⟨b,len,cap,rs,h1,h2,h3,h4,h5,h6,h7⟩
 ·obtain ⟨rfl,rfl,rfl⟩:p=none/\l=0/\c=0:=by simpa using h
  exact .inl ⟨rfl,rfl,rfl⟩
 ·obtain ⟨rfl,rfl,rfl⟩:p=some ⟨b,0,none⟩/\l=len/\c=cap:=by simpa using h1
  exact .inr ⟨b,rs,1,true,rfl,by rw [<- zTU h3.2];exact h3.1,h3.2,h5,h4,h6⟩
theorem yJI (h:WT Pg Z (n+2) 26 cs):∃ p l c xs,cs=[.slice p l c]/\yC Z p l xs/\zUJ Z 1 p l c:=by
 obtain ⟨p,l,c,rs,e1,_,s1,l1,w1⟩:=zPM Tryz.underlying26 (k:=1) (by kernel_rfl) h;subst e1;have ha:=yUC Tryz.underlying26 (k:=1) (by kernel_rfl) h;obtain ⟨xs,n1,rfl⟩:=zZQ (f:=fun x:Int=>[yA x]) (fun cs h=>zBI h) l rs l1 w1;refine ⟨p,l,c,xs,rfl,⟨by rw [xRI];exact s1,by simpa using n1,fun v hv=>?_⟩,ha⟩
 obtain ⟨x,_,rfl⟩:=List.mem_map.1 hv;exact vY x
theorem zYB (h:WT Pg Z (n+2) 63 cs):∃ p l c,∃ xs:List Int,cs=[.slice p l c]/\SlV Pg Z 5 1 p l (xs.map fun x=>.int .u8 x)/\∀ x∈xs,0<=x/\x<=255:=by
 obtain ⟨p,l,c,rs,e1,_,s1,l1,w1⟩:=zPM Tryz.underlying63 (k:=1) (by kernel_rfl) h;obtain ⟨xs,n1,rfl⟩:=zZQ (f:=fun x:{x:Int // 0<=x/\x<=255}=>[Value.int .u8 x.1]) (fun cs h=>by
  obtain ⟨i,e,h⟩:=wCB h;exact ⟨⟨i,h⟩,e⟩) l rs l1 w1
 have hf:wD ((xs.map (·.1)).map fun x=>Value.int .u8 x)=xs.flatMap fun x=>[Value.int .u8 x.1]:=by
  clear n1 s1 l1 w1;induction xs with
  | nil=>rfl
  | cons x xs ih=>rw [List.map_cons,List.map_cons,List.flatMap_cons,<- ih];rfl
 refine ⟨p,l,c,xs.map (·.1),e1,⟨by rw [hf];exact s1,by simpa using n1,fun v hv=>?_⟩,fun x hx=>?_⟩
 ·obtain ⟨x,_,rfl⟩:=List.mem_map.1 hv;exact .inl ⟨xYF,rfl,rfl⟩
 ·obtain ⟨x,_,rfl⟩:=List.mem_map.1 hx;exact x.2
theorem xZK (h:WT Pg Z (n+3) 92 cs):∃ x:Dty,cs=zG x.day x.on x.lo x.hi x.route:=by
 unfold WT at h;simp only [Tryz.underlying92] at h;obtain ⟨hl,h⟩:=h;have hl:cs.length=5:=hl.trans (by kernel_rfl);obtain ⟨c1,c2,c3,c4,c5,rfl⟩:∃ c1 c2 c3 c4 c5,cs=[c1,c2,c3,c4,c5]:=by
  match cs,hl with
  | [c1,c2,c3,c4,c5],_=>exact ⟨_,_,_,_,_,rfl⟩
 have k3:Pg.cellsOf 3=1:=by kernel_rfl
 have k90:Pg.cellsOf 90=2:=by kernel_rfl
 simp only [List.mem_cons,List.not_mem_nil,or_false,forall_eq_or_imp,forall_eq,k3,k90] at h;obtain ⟨⟨_,h1⟩,⟨_,h2⟩,⟨_,h3⟩,⟨_,h5⟩⟩:=h;obtain ⟨x1,h1⟩:=zBI h1;obtain ⟨x2,h2⟩:=zBI h2;obtain ⟨x5,h5⟩:=zBI h5;unfold WT at h3;simp only [Tryz.underlying90] at h3;obtain ⟨_,h3⟩:=h3;simp only [List.mem_cons,List.not_mem_nil,or_false,forall_eq_or_imp,forall_eq,k3] at h3;obtain ⟨⟨_,h3⟩,⟨_,h4⟩⟩:=h3;obtain ⟨x3,h3⟩:=zBI h3;obtain ⟨x4,h4⟩:=zBI h4;obtain rfl:c1=yA x1:=by simpa using h1
 obtain rfl:c2=yA x2:=by simpa using h2
 obtain rfl:c3=yA x3:=by simpa using h3
 obtain rfl:c4=yA x4:=by simpa using h4
 obtain rfl:c5=yA x5:=by simpa using h5
 exact ⟨⟨x1,x2,x3,x4,x5⟩,rfl⟩
theorem xUD (h:WT Pg Z (n+4) 22 cs):∃ p l c xs,cs=[.slice p l c]/\yDO Z 92 p l xs/\zUJ Z 5 p l c:=by
 obtain ⟨p,l,c,rs,e1,_,s1,l1,w1⟩:=zPM Tryz.underlying22 (k:=5) (by kernel_rfl) h;subst e1;have ha:=yUC Tryz.underlying22 (k:=5) (by kernel_rfl) h;obtain ⟨xs,n1,rfl⟩:=zZQ (f:=fun x:Dty=>zG x.day x.on x.lo x.hi x.route) (fun cs h=>xZK h) l rs l1 w1;refine ⟨p,l,c,xs,rfl,⟨?_,by simpa using n1,fun v hv=>?_⟩,ha⟩
 ·rw [yHY fun x:Dty=>zG x.day x.on x.lo x.hi x.route];exact s1
 ·obtain ⟨x,_,rfl⟩:=List.mem_map.1 hv;exact .inr ⟨wDJ,zJC,_,rfl,rfl⟩
def wBY (Z:St) (v:Value) (x:Drv):Prop:=∃ p l c q m d r n e,v=.agg ⟨zN p l c q m d r n e x.off x.row x.used⟩/\(yC Z p l x.J/\zUJ Z 1 p l c)/\(yC Z q m x.qa/\zUJ Z 1 q m d)/\yC Z r n x.qb
theorem wBY.v {v:Value} {x:Drv} (h:wBY Z v x):zWY Z v x:=by
 obtain ⟨p,l,c,q,m,d,r,n,e,h1,h2,h3,h4⟩:=h;exact ⟨p,l,c,q,m,d,r,n,e,h1,h2.1,h3.1,h4⟩
theorem xZL (h:WT Pg Z (n+3) 76 cs):∃ (x:Drv) (p q r:Option Addr) (l c m d j e:Nat),cs=zN p l c q m d r j e x.off x.row x.used/\(yC Z p l x.J/\zUJ Z 1 p l c)/\(yC Z q m x.qa/\zUJ Z 1 q m d)/\yC Z r j x.qb:=by
 unfold WT at h;simp only [Tryz.underlying76] at h;obtain ⟨hl,h⟩:=h;have hl:cs.length=6:=hl.trans (by kernel_rfl);obtain ⟨c1,c2,c3,c4,c5,c6,rfl⟩:∃ c1 c2 c3 c4 c5 c6,cs=[c1,c2,c3,c4,c5,c6]:=by
  match cs,hl with
  | [c1,c2,c3,c4,c5,c6],_=>exact ⟨_,_,_,_,_,_,rfl⟩
 have k3:Pg.cellsOf 3=1:=by kernel_rfl
 have k26:Pg.cellsOf 26=1:=by kernel_rfl
 simp only [List.mem_cons,List.not_mem_nil,or_false,forall_eq_or_imp,forall_eq,k3,k26] at h;obtain ⟨⟨_,h1⟩,⟨_,h2⟩,⟨_,h3⟩,⟨_,h4⟩,⟨_,h5⟩,⟨_,h6⟩⟩:=h;obtain ⟨p1,l1,e1,x1,h1,i1,a1⟩:=yJI h1;obtain ⟨p2,l2,e2,x2,h2,i2,a2⟩:=yJI h2;obtain ⟨p3,l3,e3,x3,h3,i3,_⟩:=yJI h3;obtain ⟨x4,h4⟩:=zBI h4;obtain ⟨x5,h5⟩:=zBI h5;obtain ⟨x6,h6⟩:=zBI h6;obtain rfl:c1=.slice p1 l1 e1:=by simpa using h1
 obtain rfl:c2=.slice p2 l2 e2:=by simpa using h2
 obtain rfl:c3=.slice p3 l3 e3:=by simpa using h3
 obtain rfl:c4=yA x4:=by simpa using h4
 obtain rfl:c5=yA x5:=by simpa using h5
 obtain rfl:c6=yA x6:=by simpa using h6
 exact ⟨⟨x1,x2,x3,x4,x5,x6⟩,p1,p2,p3,l1,e1,l2,e2,l3,e3,rfl,⟨i1,a1⟩,⟨i2,a2⟩,i3⟩
structure DrvsA (Z:St) (p:Option Addr) (l c:Nat) (xs:List Drv):Prop where
 vs:∃ vs:List Value,SlV Pg Z 76 6 p l vs/\xs.length=l/\∀ (i:Nat) (x:Drv),xs[i]?=some x->∃ v,vs[i]?=some v/\wBY Z v x
 arg:zUJ Z 6 p l c
theorem DrvsA.p {p:Option Addr} {l c:Nat} {xs:List Drv} (h:DrvsA Z p l c xs):zWQ Z 76 p l xs:=by
 obtain ⟨vs,h1,h2,h3⟩:=h.vs;exact ⟨vs,h1,h2,fun i x hx=>by obtain ⟨v,g1,g2⟩:=h3 i x hx;exact ⟨v,g1,g2.v⟩⟩
theorem xUE (h:WT Pg Z (n+4) 23 cs):∃ p l c xs,cs=[.slice p l c]/\DrvsA Z p l c xs:=by
 obtain ⟨p,l,c,rs,e1,_,s1,l1,w1⟩:=zPM Tryz.underlying23 (k:=6) (by kernel_rfl) h;subst e1;have ha:=yUC Tryz.underlying23 (k:=6) (by kernel_rfl) h;obtain ⟨xs,n1,rfl⟩:=zZQ (f:=fun x:{x:List Value × Drv // ∃ p q r l c m d j e,x.1=zN p l c q m d r j e x.2.off x.2.row x.2.used/\(yC Z p l x.2.J/\zUJ Z 1 p l c)/\(yC Z q m x.2.qa/\zUJ Z 1 q m d)/\yC Z r j x.2.qb}=>x.1.1) (fun cs h=>by
  obtain ⟨x,p,q,r,l,c,m,d,j,e,h1,h2⟩:=xZL h;exact ⟨⟨⟨cs,x⟩,p,q,r,l,c,m,d,j,e,h1,h2⟩,rfl⟩) l rs l1 w1
 refine ⟨p,l,c,xs.map fun x=>x.1.2,rfl,⟨⟨xs.map fun x=>.agg ⟨x.1.1⟩,⟨?_,by simpa using n1,fun v hv=>?_⟩,by simpa using n1,fun i x hx=>?_⟩,ha⟩⟩
 ·have:wD (xs.map fun x=>Value.agg ⟨x.1.1⟩)=xs.flatMap fun x=>x.1.1:=yHY (fun x:{x:List Value × Drv // ∃ p q r l c m d j e,x.1=zN p l c q m d r j e x.2.off x.2.row x.2.used/\(yC Z p l x.2.J/\zUJ Z 1 p l c)/\(yC Z q m x.2.qa/\zUJ Z 1 q m d)/\yC Z r j x.2.qb}=>x.1.1) xs
  rw [this];exact s1
 ·obtain ⟨x,_,rfl⟩:=List.mem_map.1 hv;obtain ⟨p,q,r,l,c,m,d,j,e,h1,_⟩:=x.2;exact .inr ⟨xTB,zAF,_,rfl,by rw [h1];rfl⟩
 ·rw [List.getElem?_map] at hx;cases hy:xs[i]? with
  | none=>rw [hy] at hx;cases hx
  | some y =>
   rw [hy] at hx;obtain rfl:y.1.2=x:=by simpa using hx
   obtain ⟨p,q,r,l,c,m,d,j,e,h1,h2⟩:=y.2;exact ⟨.agg ⟨y.1.1⟩,by rw [List.getElem?_map,hy];rfl,p,l,c,q,m,d,r,j,e,by rw [h1],h2⟩
theorem xUC (h:WT Pg Z (n+5) 25 cs):∃ (w:Wk) (p q:Option Addr) (l c m d:Nat),cs=wkc w.M p l c q m d w.rest w.run w.j/\WkP Z 92 76 w p l q m/\zUJ Z 5 p l c/\DrvsA Z q m d w.L:=by
 unfold WT at h;simp only [Tryz.underlying25] at h;obtain ⟨hl,h⟩:=h;have hl:cs.length=6:=hl.trans (by kernel_rfl);obtain ⟨c1,c2,c3,c4,c5,c6,rfl⟩:∃ c1 c2 c3 c4 c5 c6,cs=[c1,c2,c3,c4,c5,c6]:=by
  match cs,hl with
  | [c1,c2,c3,c4,c5,c6],_=>exact ⟨_,_,_,_,_,_,rfl⟩
 have k3:Pg.cellsOf 3=1:=by kernel_rfl
 have k22:Pg.cellsOf 22=1:=by kernel_rfl
 have k23:Pg.cellsOf 23=1:=by kernel_rfl
 simp only [List.mem_cons,List.not_mem_nil,or_false,forall_eq_or_imp,forall_eq,k3,k22,k23] at h;obtain ⟨⟨_,h1⟩,⟨_,h2⟩,⟨_,h3⟩,⟨_,h4⟩,⟨_,h5⟩,⟨_,h6⟩⟩:=h;obtain ⟨x1,h1⟩:=zBI h1;obtain ⟨p,l,c,xs,h2,i2,a2⟩:=xUD h2;obtain ⟨q,m,d,ys,h3,i3⟩:=xUE h3;obtain ⟨x4,h4⟩:=zBI h4;obtain ⟨x5,h5⟩:=zBI h5;obtain ⟨x6,h6⟩:=zBI h6;obtain rfl:c1=yA x1:=by simpa using h1
 obtain rfl:c2=.slice p l c:=by simpa using h2
 obtain rfl:c3=.slice q m d:=by simpa using h3
 obtain rfl:c4=yA x4:=by simpa using h4
 obtain rfl:c5=yA x5:=by simpa using h5
 obtain rfl:c6=yA x6:=by simpa using h6
 exact ⟨⟨x1,xs,ys,x4,x5,x6⟩,p,q,l,c,m,d,rfl,⟨i2,i3.p⟩,a2,i3⟩
theorem yKX {U:Inj} {av v:Value} (h:VR U av v) (hv:∀ cs,v≠.agg cs):∀ cs,av≠.agg cs:=by
 rintro cs rfl;cases h with
 | atom h=>simp [uL] at h
 | agg _ _=>exact hv _ rfl
theorem yUV {W:World} {v:Value} (hu:Pg.underlying t=some (.slice e)) (h:Value.okWide Pg W .any 0 t v):∀ cs,v≠.agg cs:=by
 rintro cs rfl;unfold Value.okWide at h;rw [hu] at h;simp [Cell.okWide,Cell.ok,hu] at h
theorem zKW {v:Value} {p:Option Addr} (h:v.cells.toList=[.slice p l c]) (hn:∀ cs,v≠.agg cs):v=.slice p l c:=by
 cases v with
 | agg cs=>exact absurd rfl (hn cs)
 | _=>first | (simp [Value.cells] at h;done) | simpa [Value.cells] using h
end
end
end Go.Proofs.YtgfiniccfpfplaaGreat
