
import Derived.Test.YthcdddbghldmiaaCC
import Derived.Test.YthcdddbghldmiaaPA
import Derived.Test.YthcdddbghldmiaaPE
import Derived.Test.YthcdddbghldmiaaXC
namespace Go.Proofs.Ythcdddbghldmiaa
open Go Go.Lay
open Try renaming prog → Pg
set_option linter.unusedVariables false
set_option linter.unusedSimpArgs false
set_option maxRecDepth 20000
def Nd.b : Nd → Int
 | .bus i => i
 | _ => -1
def Nd.s : Nd → Int
 | .slot s => s
 | _ => -1
theorem Nd.inj {a b : Nd} (h1 : a.b = b.b) (h2 : a.s = b.s) : a = b := by
 cases a <;> cases b <;> simp only [Nd.b, Nd.s] at h1 h2 <;> first | rfl | (congr 1; omega) | omega
abbrev ndV (v : Nd) : Value := .agg ⟨[iV v.b, iV v.s]⟩
abbrev wyV (x : Wy) : Value := .agg ⟨[iV x.fr.b, iV x.fr.s, iV x.to.b, iV x.to.s, iV x.rest, iV x.pr]⟩
theorem appT_ways : AppT Pg 140 140 143 6 := appT_of (by kernel_rfl)
theorem elOk_way (x : Wy) : elOk Pg 143 6 (wyV x) := .inr ⟨agg143, size143, _, rfl, rfl⟩
section
variable {σ : St}
theorem grid_c : CallsA Pg 68 [] σ (ndV .grid) σ := (grid_ra ⟨rfl, by simp⟩).pure
theorem add_c {B n0 lo co : Nat} {po : Option Addr} {vs : List Value} {x : Wy} (ho : Own σ B [.slice po lo co] 1) (hg : Gr Pg σ n0 143 6 po lo co vs) (hB : B < n0) (hn : n0 ≤ σ.next) (hl : lo ≤ 100000) :
  ∃ σ' po' lo' co', CallsA Pg 95 [wyV x, .pointer (some ⟨B, 0, none⟩)] σ (.tuple ⟨[]⟩) σ' ∧ Only (fun b => b = B ∨ AtP po b) σ σ' ∧ Own σ' B [.slice po' lo' co'] 1 ∧ Gr Pg σ' n0 143 6 po' lo' co' (vs ++ if 0 < x.rest then [wyV x] else []) := by
 by_cases hr : 0 < x.rest
 ·rw [if_pos hr]
  have hN : New σ.re (σ.re.row (ints6 x.fr.b x.fr.s x.to.b x.to.s x.rest x.pr) 6) := New.row _ _ _
  obtain ⟨p4, c4, τ2, g1, g2, g3, g4⟩ := grow1 (wyV x) (σ := σ.re) (τ := σ.re.row (ints6 x.fr.b x.fr.s x.to.b x.to.s x.rest x.pr) 6) appT_ways (hg.le (le0 σ)) hN.le (elOk_way x) (by omega) hn
  have hS : ∀ b, AtP po b → n0 ≤ b := fun b hb => (hg.bd hb).1
  have hO : Only (AtP po) σ.re τ2 := ((hN.row').only (S := AtP po)).trans g3 (fun _ _ x => x) (by intro m' h1 h2 b h3 h4; have := hg.bd h4; exact h2 b this.2 h4)
  have v1 := hO.own' ho.re (fun x => by have := hS _ x; omega)
  have hO2 : Only (fun b => b = B ∨ AtP po b) σ.re (τ2.own B [.slice p4 (lo + 1) c4] 1) := (hO.mono (fun _ _ x => .inr x)).trans' (Only.own (.inr rfl)) (by rintro b _ rfl; exact .inl (.inl rfl))
  obtain ⟨v, s, h1, h2, rfl, h3, h4⟩ := RunsQ.mut (σ := σ) (S := fun b => b = B ∨ AtP po b) (Q := fun v s => v = .tuple ⟨[]⟩ ∧ Own s B [.slice p4 (lo + 1) c4] 1 ∧ Gr Pg s n0 143 6 p4 (lo + 1) c4 (vs ++ [wyV x]))
   (ways1_ra (ho.re.row.ld rfl agg140 (k := 0) rfl) g1 (v1.store (vs := [.slice p4 (lo + 1) c4]) (ds := [.slice p4 (lo + 1) c4]) rfl size140 rfl (by simp) rfl) ⟨hO2, .inl (by have := ho.lt; simp; omega), rfl, v1.put, g2.only (S := (· = B)) (Only.own (.inr rfl)) (by rintro b hb rfl; have := (g2.bd hb).1; omega)⟩)
   (by rintro v s m ⟨rfl, q1, q2⟩; exact ⟨rfl, ⟨q1.get, q1.lt⟩, q2.le ⟨Nat.le_refl _, fun _ _ => rfl⟩⟩)
  exact ⟨s, p4, lo + 1, c4, h1, h2, h3, h4⟩
 ·rw [if_neg hr, List.append_nil]
  exact ⟨σ, po, lo, co, (ways1_rb (Q := fun v' s => v' = .tuple ⟨[]⟩ ∧ σ.next ≤ s.low) ⟨rfl, Nat.le_refl _⟩ hr).pure, Only.refl _ _, ho, hg⟩
theorem stay_c {p q : Option Addr} {l c m d : Nat} {b : Bus} : ∃ a1 a2 σ', CallsA Pg 61 [.agg ⟨garL p l c q m d⟩, busV b] σ (.func (.func 82) ⟨[]⟩ ⟨[.pointer (some ⟨a1, 0, none⟩), .pointer (some ⟨a2, 0, none⟩)]⟩) σ' ∧ New σ σ' ∧ Row σ' ⟨a1, 0, none⟩ (busL b) ∧ Row σ' ⟨a2, 0, none⟩ (garL p l c q m d) := by
 obtain ⟨v, σ', h1, h2, a1, a2, rfl, h3, h4⟩ := RunsQ.new (σ := σ) (Q := fun v s => ∃ a1 a2, v = .func (.func 82) ⟨[]⟩ ⟨[.pointer (some ⟨a1, 0, none⟩), .pointer (some ⟨a2, 0, none⟩)]⟩ ∧ Row s ⟨a1, 0, none⟩ (busL b) ∧ Row s ⟨a2, 0, none⟩ (garL p l c q m d))
  (stay_ra ⟨(New.row _ _ _).row', _, _, rfl, row_new (σ.re.row (garL p l c q m d) 2) (busL b) 9, (row_new σ.re (garL p l c q m d) 2).row⟩)
  (by rintro v s s' ⟨a1, a2, rfl, q1, q2⟩ hle; exact ⟨a1, a2, rfl, q1.le hle, q2.le hle⟩) (by rintro v s hr ⟨a1, a2, rfl, _⟩; exact Bool.noConfusion (show false = true from hr))
 exact ⟨a1, a2, σ', h1, h2, h3, h4⟩
theorem stay1_run {p q : Option Addr} {l c m d lo a1 a2 : Nat} {b : Bus} (hvb : busB b = true) (r1 : Row σ ⟨a1, 0, none⟩ (busL b)) (r2 : Row σ ⟨a2, 0, none⟩ (garL p l c q m d)) (hl : l ≤ 100000) {J : Nat → St → Prop} (h0 : J 0 σ)
  (hJ : ∀ s τ, s < l → J s τ → if thereB b (s : Int) then ∃ τ', CallsY Pg lo [iV (s : Int)] τ (.bool true) τ' ∧ J (s + 1) τ' else J (s + 1) τ) :
  RunsQ Pg 82 [.func (.yield lo) ⟨[]⟩ ⟨[]⟩, .pointer (some ⟨a1, 0, none⟩), .pointer (some ⟨a2, 0, none⟩)] σ fun v s => v = .tuple ⟨[]⟩ ∧ J l s := by
 refine stay1_ra (Pr := fun _ => False) (P0 := fun τ => J l τ) (by simpa [aadd] using r1.loadN (t := 97) agg97 size97 (k := 0) rfl rfl (by simp)) (by simpa [aadd] using r2.load1 (t := 32) agg32 (k := 0) rfl)
  (stay1_loop1 (Inv := fun k i τ => ∃ s : Nat, i = s ∧ s + k = l ∧ J s τ) (Qr := fun _ => False) (Q0 := fun τ => J l τ) ?_ l 0 σ ⟨0, rfl, by omega, h0⟩) (fun _ h => h.elim) (fun τ h => stay1_t1x0a ⟨rfl, h⟩)
 rintro k i τ ⟨s, rfl, hk, hj⟩
 by_cases hs : s < l
 rotate_left
 ·have : s = l := by omega
  subst this
  exact stay1_s1d hj
 have ct := busThere_c (σ := τ) (s := (s : Int)) hvb
 have h := hJ s τ hs hj
 cases ht : thereB b (s : Int) with
 | true =>
  rw [ht] at ct h
  obtain ⟨τ', h1, h2⟩ := h
  exact stay1_s1a ct h1 ⟨k - 1, by omega, s + 1, by omega, by omega, h2⟩
 | false =>
  rw [ht] at ct h
  exact stay1_s1c ct ⟨k - 1, by omega, s + 1, by omega, by omega, h⟩
end
end Go.Proofs.Ythcdddbghldmiaa
