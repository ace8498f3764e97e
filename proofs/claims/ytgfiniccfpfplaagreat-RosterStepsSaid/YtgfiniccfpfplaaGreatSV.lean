
import Derived.Test.YtgfiniccfpfplaaGreatTy
import Derived.Test.YtgfiniccfpfplaaGreatLayD
namespace Go.Lay
open Go
theorem xAL {P:Program} {aw f:FuncId} {args:List Value} {Q:Value->St->Prop} {cl:Code} {n n0:Nat} {l':List (Nat × Value)} {ms':List Nat} {altsL:List Alt} {Z Z1:St} (p:List Nat) (ans:List Ans) (hc:zBB (zS P f) p=some (.loop cl))
  (hb:(match P.funcs[f]? with | some fn=>fn.body.isSome && Nat.beq (args.length+(fn.ntmps-args.length)) n0 | none=>false)=true)
  (h:Hid (zGU P (zFF P aw) none (zS P f) p ans ⟨(Tm.args 0 args).foldl (fun f p=>f.set p.1 p.2) (fresh n0),[]⟩ Z fun fr' Z' as'=>(as'=[]/\Z'=Z1)/\yDH n fr'.f=true/\AG fr'.f l'/\fr'.marks=ms'))
  (hL:yR P (zFF P aw) none cl n l' ms' altsL Z1) (hK:yCO n altsL fun e fr Z=>∃ an,Hid (kAt P (zFF P aw) none (zS P f) p (kFn P f Q) e fr Z an)):yCA P aw f args Z Q:=by
 obtain ⟨fr1,Z2,as1,⟨⟨_,rfl⟩,k1,k2,k3⟩,h2⟩:=ySQ _ _ _ _ _ _ (hid h);obtain ⟨e,fr',Z',h5,h6⟩:=hL fr1.f.nth;rw [<- yGT k1 k2,<- k3] at h5;obtain ⟨an,hk⟩:=zMI hK h6;obtain ⟨e2,fr2,Z3,as2,⟨N0,h7⟩,h8⟩:=h2 _ hc e fr' Z' h5.code _ an (hid hk);cases hfn:P.funcs[f]? with
 | none=>rw [hfn] at hb;cases hb
 | some fn =>
  rw [hfn] at hb;cases hbd:fn.body with
  | none=>simp only [hbd] at hb;cases hb
  | some c =>
   simp only [hbd] at hb;have hn:args.length+(fn.ntmps-args.length)=n0:=Nat.eq_of_beq_eq_true (Bool.and_eq_true_iff.1 hb).2;have hbo:zS P f=c:=by unfold zS;simp only [hfn,hbd]
   unfold kFn at h8;rw [hfn] at h8;rw [hbo] at h7;have fin:∀ (h2:zGY P fn fr2 Z3 as2 Q) (he:e2=.normal\/e2=.ret),yCA P aw f args Z Q:=by
    intro h2 he;obtain ⟨v,Z',h3,h4⟩:=zPB h2;refine ⟨N0,v,Z', ?_,h4⟩
    have key:xHG P fn (yJ P (zFF P aw N0) N0 none c ⟨(Tm.args 0 args).foldl (fun f p=>f.set p.1 p.2) (fresh (args.length+(fn.ntmps-args.length))),[]⟩ Z)=zFB P (zFF P aw N0) N0 f args Z:=by
     simp only [zFB,hfn,hbd,Tm.puts_eq]
    rw [<- key,hn,h7 N0 (Nat.le_refl _)];rcases he with rfl | rfl <;> exact h3
   cases e2 with
   | normal=>exact fin h8 (.inl rfl)
   | ret=>exact fin h8 (.inr rfl)
   | _=>exact h8.elim
end Go.Lay
namespace Go.Proofs.YtgfiniccfpfplaaGreat
open Go Go.Lay
set_option linter.unusedVariables false
set_option maxRecDepth 20000
end Go.Proofs.YtgfiniccfpfplaaGreat
