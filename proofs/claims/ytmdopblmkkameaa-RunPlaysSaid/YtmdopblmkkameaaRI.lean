
import Derived.Test.YtmdopblmkkameaaRF
import Derived.Test.YtmdopblmkkameaaRH
import Derived.Test.YtmdopblmkkameaaPM
namespace Go.Proofs.Ytmdopblmkkameaa
open Go Go.Lay
set_option linter.unusedVariables false
set_option linter.unusedSimpArgs false
set_option maxRecDepth 20000
structure GK where
 σf : St
 Bs : Nat
 bn : Nat
 bb : Nat
 bm : Nat
 Bm : Nat
 Bt : Nat
 Bg : Nat
 tcs : List Value
 pf : Option Addr
 cf : Nat
 cn : Nat
 cb : Nat
 n : Nat
abbrev GK.args (K : GK) : List Value := [.pointer (some ⟨K.Bm, 0, none⟩), .pointer (some ⟨K.Bs, 0, none⟩), .pointer (some ⟨K.Bt, 0, none⟩), .pointer (some ⟨K.Bg, 0, none⟩)]
abbrev GK.ms (K : GK) : List Value := K.tcs ++ [.slice K.pf K.n K.cf, .slice (some ⟨K.bn, 0, none⟩) K.n K.cn, .slice (some ⟨K.bb, 0, none⟩) K.n K.cb]
section
variable {K : GK} {S : Nat → Bool} {t : Tab} {z : St} {tr : Nat → Bool} {nx bf : Nat → Int}
end
end Go.Proofs.Ytmdopblmkkameaa
