
import Derived.Test.YtmdopblmkkameaaSH
import Derived.Test.YtmdopblmkkameaaXQ
namespace Go.Proofs.Ytmdopblmkkameaa
open Go Go.Lay
set_option linter.unusedVariables false
set_option linter.unusedSimpArgs false
set_option maxRecDepth 20000
section
variable {σ0 : St} {t : Tab} {pe pt : Option Addr} {le ce lt ct Bl Bt Bc : Nat}
theorem wcon_c {z : St} {p : Option Addr} {l c : Nat} {xs : List Int} (hlt : lt ≤ 100000) (wt : Own z Bt (yB t pe le ce pt lt ct) 4) (wl : Own z Bl [iV (-1)] 1) (hne : Bt ≠ Bl)
  (wc : Own z Bc [.func (.func 85) ⟨[]⟩ ⟨[.pointer (some ⟨Bl, 0, none⟩), .pointer (some ⟨Bt, 0, none⟩)]⟩] 1) (hcl : Bc ≠ Bl) (hI : yU σ0 p l xs) (hle : Le σ0 z) (hBl : σ0.next ≤ Bl) (hl : l ≤ 100000) :
  ∃ z', zD Try.prog 82 [.slice p l c, .func (.func 83) ⟨[]⟩ ⟨[.pointer (some ⟨Bc, 0, none⟩)]⟩] z (.bool (!zAD lt (-1) xs)) z' ∧ Only (· = Bl) z z' := by
 have e0 : ∀ y : St, Le y y.re := le0
 obtain ⟨v, z1, c1, k1, n, rfl, hn⟩ := mut2 (σ := z.re) (S := (· = Bl)) (Q := fun v _ => ∃ n : Int, v = iV n ∧ ((0 ≤ n ∧ zAD lt (-1) xs = false) ∨ (n = -1 ∧ zAD lt (-1) xs = true))) (by
  obtain ⟨v, s, h1, h2, h3⟩ := widx_c (c := c) (z := z.re.re) hlt rfl ((wt.le (le0 z)).le (le0 _)) ((wl.le (le0 z)).le (le0 _)) hne ((wc.le (le0 z)).le (le0 _)) hcl hI (Le.re' (Le.re' hle)) hBl hl
  exact ⟨v, s, h1, h2, .inr (.inr h3), h3⟩) (fun v s m h => h)
 have hmain : zN Try.prog 82 [.slice p l c, .func (.func 83) ⟨[]⟩ ⟨[.pointer (some ⟨Bc, 0, none⟩)]⟩] z.re fun v s => Only (· = Bl) z.re s ∧ (s.low < z.next ∨ zS RD v = false ∨ v = .bool (!zAD lt (-1) xs)) ∧ v = .bool (!zAD lt (-1) xs) := by
  rcases hn with ⟨h1, h2⟩ | ⟨h1, h2⟩
  ·rw [h2]; exact wconI_ra c1 ⟨k1, .inr (.inr rfl), rfl⟩ h1
  ·rw [h2]; exact wconI_rb c1 ⟨k1, .inr (.inr rfl), rfl⟩ (by omega)
 obtain ⟨v, z', h1, h2, rfl⟩ := mut2 (Q := fun v _ => v = .bool (!zAD lt (-1) xs)) hmain (fun v s m h => h)
 exact ⟨z', h1, h2⟩
theorem wall_c {z : St} {p : Option Addr} {l c : Nat} {xs : List Int} (hlt : lt ≤ 100000) (wt : Own z Bt (yB t pe le ce pt lt ct) 4) (wl : Own z Bl [iV (-1)] 1) (hne : Bt ≠ Bl) (hI : yU σ0 p l xs) (hle : Le σ0 z) (hBl : σ0.next ≤ Bl) (hl : l ≤ 100000) :
  ∃ z', zD Try.prog 54 [.slice p l c, .func (.func 85) ⟨[]⟩ ⟨[.pointer (some ⟨Bl, 0, none⟩), .pointer (some ⟨Bt, 0, none⟩)]⟩] z (.bool (zAD lt (-1) xs)) z' ∧ Only (· = Bl) z z' := by
 obtain ⟨σ1, hσ1⟩ : ∃ σ1, σ1 = z.re.row [.func (.func 85) ⟨[]⟩ ⟨[.pointer (some ⟨Bl, 0, none⟩), .pointer (some ⟨Bt, 0, none⟩)]⟩] 1 := ⟨_, rfl⟩
 have n1 : New z.re σ1 := by rw [hσ1]; exact New.row _ _ _
 have wc : Own σ1 z.next [.func (.func 85) ⟨[]⟩ ⟨[.pointer (some ⟨Bl, 0, none⟩), .pointer (some ⟨Bt, 0, none⟩)]⟩] 1 := by rw [hσ1]; exact zC _ _ _
 have hbl := wl.lt
 obtain ⟨z1, c1, k1⟩ := wcon_c (c := c) hlt ((wt.le (le0 z)).le n1.le) ((wl.le (le0 z)).le n1.le) hne wc (by omega) hI ((Le.re' hle).trans n1.le) hBl hl
 have hk : Only (· = Bl) z.re z1 := n1.only.trans' k1 (fun b _ e => .inl e)
 have hmain : zN Try.prog 54 [.slice p l c, .func (.func 85) ⟨[]⟩ ⟨[.pointer (some ⟨Bl, 0, none⟩), .pointer (some ⟨Bt, 0, none⟩)]⟩] z.re fun v s => Only (· = Bl) z.re s ∧ (s.low < z.next ∨ zS RD v = false ∨ v = .bool (zAD lt (-1) xs)) ∧ v = .bool (zAD lt (-1) xs) := by
  subst hσ1
  cases hr : zAD lt (-1) xs with
  | true => rw [hr] at c1; exact wallI_rb c1 ⟨hk, .inr (.inr rfl), rfl⟩
  | false => rw [hr] at c1; exact wallI_ra c1 ⟨hk, .inr (.inr rfl), rfl⟩
 obtain ⟨v, z', h1, h2, rfl⟩ := mut2 (Q := fun v _ => v = .bool (zAD lt (-1) xs)) hmain (fun v s m h => h)
 exact ⟨z', h1, h2⟩
theorem rising_c {σ : St} {p : Option Addr} {l c : Nat} {xs : List Int} (hlt : lt ≤ 100000) (hI : yU σ p l xs) (hl : l ≤ 100000) :
  zD Try.prog 70 [.agg ⟨yB t pe le ce pt lt ct⟩, .slice p l c] σ (.bool (zAD lt (-1) xs)) σ := by
 suffices hmain : zN Try.prog 70 [.agg ⟨yB t pe le ce pt lt ct⟩, .slice p l c] σ.re fun v s => v = .bool (zAD lt (-1) xs) ∧ σ.next ≤ s.low from zN.pure hmain
 obtain ⟨σ1, hσ1⟩ : ∃ σ1, σ1 = ((σ.re.row (yB t pe le ce pt lt ct) 4).row [iV 0] 1).own (σ.re.next + 1) [iV (-1)] 1 := ⟨_, rfl⟩
 have n1 : New σ.re σ1 := by rw [hσ1]; exact (New.row _ _ _).row'.own (by omega)
 have wl : Own σ1 (σ.next + 1) [iV (-1)] 1 := by rw [hσ1]; exact (zC (σ.re.row (yB t pe le ce pt lt ct) 4) [iV 0] 1).put
 have wt : Own σ1 σ.next (yB t pe le ce pt lt ct) 4 := by
  rw [hσ1]; exact ((zC σ.re (yB t pe le ce pt lt ct) 4).row).own (by show σ.next ≠ σ.next + 1; omega)
 obtain ⟨z', c1, k1⟩ := wall_c (σ0 := σ) (c := c) hlt wt wl (by omega) hI ((le0 σ).trans n1.le) (by omega) hl
 have hN := n1.of_only k1 (by rintro b rfl; show σ.next ≤ _; omega)
 subst hσ1
 exact wrising_ra c1 ⟨rfl, hN.lw⟩
end
end Go.Proofs.Ytmdopblmkkameaa
