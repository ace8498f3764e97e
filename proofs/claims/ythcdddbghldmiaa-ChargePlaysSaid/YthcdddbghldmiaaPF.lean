
import Derived.Test.YthcdddbghldmiaaPD
namespace Go.Proofs.Ythcdddbghldmiaa
set_option linter.unusedVariables false
def lev (full : Int) (f : Nat → Int) (h : Int) : Nat → Int
 | 0 => h
 | s + 1 => lev full f h s + min (f s) (full - lev full f h s)
def amt (full : Int) (f : Nat → Int) (h : Int) (s : Nat) : Int := min (f s) (full - lev full f h s)
theorem lev_succ {full : Int} {f : Nat → Int} {h : Int} {s : Nat} : lev full f h (s + 1) = lev full f h s + amt full f h s := rfl
theorem lev_eq {full h : Int} {f : Nat → Int} (hh : h ≤ full) : ∀ {n : Nat}, (∀ s, s < n → 0 ≤ f s) → lev full f h n = min full (h + sumN n f)
 | 0, _ => by simp only [lev, sumN]; omega
 | n + 1, hf => by
  have ih := lev_eq hh (n := n) (fun s hs => hf s (by omega))
  have := hf n (by omega)
  rw [lev, ih, sumN]; omega
theorem lev_bd {full h : Int} {f : Nat → Int} (hh : h ≤ full) {n : Nat} (hf : ∀ s, s < n → 0 ≤ f s) : h ≤ lev full f h n ∧ lev full f h n ≤ full := by
 have := sumN_nn hf
 rw [lev_eq hh hf]; omega
theorem amt_bd {full h : Int} {f : Nat → Int} (hh : h ≤ full) {s : Nat} (hf : ∀ s', s' ≤ s → 0 ≤ f s') : 0 ≤ amt full f h s ∧ amt full f h s ≤ f s := by
 have h1 := lev_bd (n := s) hh (fun s' hs => hf s' (by omega))
 have h2 := hf s (Nat.le_refl _)
 unfold amt; omega
def paidI (g : Gar) (rs : List (List Int)) (hs : List Int) (i n : Nat) : Int := match g.buses[i]? with
 | some b => sumN n fun s => amt b.full (cell rs i) (hs.getD i 0) s * prS g s
 | none => 0
def outI (g : Gar) (rs : List (List Int)) (hs : List Int) (i : Nat) : Int := match g.buses[i]? with
 | some b => lev b.full (cell rs i) (hs.getD i 0) g.ns
 | none => 0
def paidZ (g : Gar) (rs : List (List Int)) (hs : List Int) : Int := sumN g.nb fun i => paidI g rs hs i g.ns
theorem paidI_eq {g : Gar} {rs : List (List Int)} {hs : List Int} {i n : Nat} {b : Bus} (h : g.buses[i]? = some b) : paidI g rs hs i n = sumN n fun s => amt b.full (cell rs i) (hs.getD i 0) s * prS g s := by simp [paidI, h]
theorem outI_eq {g : Gar} {rs : List (List Int)} {hs : List Int} {i : Nat} {b : Bus} (h : g.buses[i]? = some b) : outI g rs hs i = lev b.full (cell rs i) (hs.getD i 0) g.ns := by simp [outI, h]
end Go.Proofs.Ythcdddbghldmiaa
