
import Derived.Test.YtmdopblmkkameaaSA
import Derived.Test.YtmdopblmkkameaaRI
import Derived.Test.YtmdopblmkkameaaXP
namespace Go.Proofs.Ytmdopblmkkameaa
open Go Go.Lay
set_option linter.unusedVariables false
set_option linter.unusedSimpArgs false
set_option maxRecDepth 20000
section
variable {σ0 : St} {t : Tab} {pe pt : Option Addr} {le ce lt ct Bl Bt Bc : Nat}
theorem rising1_c {z : St} {x last : Int} (hlt : lt ≤ 100000) (hb : -100000 ≤ last ∧ last ≤ 100000) (wt : Own z Bt (yB t pe le ce pt lt ct) 4) (wl : Own z Bl [iV last] 1) (hne : Bt ≠ Bl) :
  ∃ z', zD Try.prog 85 [iV x, .pointer (some ⟨Bl, 0, none⟩), .pointer (some ⟨Bt, 0, none⟩)] z (.bool (inB x (last + 1) ((lt : Int) - 1))) z' ∧ Only (· = Bl) z z' ∧ Own z' Bl [iV x] 1 ∧ z'.low ≤ Bl := by
 have wt0 := wt.le (le0 z)
 have wl0 := wl.le (le0 z)
 have hbl := wl.lt
 have hmain : zN Try.prog 85 [iV x, .pointer (some ⟨Bl, 0, none⟩), .pointer (some ⟨Bt, 0, none⟩)] z.re fun v s => Only (· = Bl) z.re s ∧ s.low ≤ Bl ∧ v = .bool (inB x (last + 1) ((lt : Int) - 1)) ∧ Own s Bl [iV x] 1 := by
  have st := wl0.store (P := Try.prog) (k := 0) (t := 3) (v := iV x) (vs := [iV x]) (ds := [iV x]) rfl size3 rfl (by simp) rfl
  refine rising1_ra (wl0.ldI (i := 0) yD rfl) (by simpa [zH] using wt0.ldI (P := Try.prog) (t := 32) (i := 3) zEB rfl) zEU st ⟨Only.own (.inr rfl), ?_, rfl, wl0.put⟩ (by omega) (by omega)
  show min _ _ ≤ _; omega
 obtain ⟨v, s, hN, h1, h2, rfl, h3⟩ := hmain
 exact ⟨_, mut_c hN h1.next (by omega), h1.lower (m := 0), h3.low, by show min _ _ ≤ _; omega⟩
theorem wall1_c {z : St} {x last : Int} (hlt : lt ≤ 100000) (hb : -100000 ≤ last ∧ last ≤ 100000) (wt : Own z Bt (yB t pe le ce pt lt ct) 4) (wl : Own z Bl [iV last] 1) (hne : Bt ≠ Bl)
  (wc : Own z Bc [.func (.func 85) ⟨[]⟩ ⟨[.pointer (some ⟨Bl, 0, none⟩), .pointer (some ⟨Bt, 0, none⟩)]⟩] 1) :
  ∃ z', zD Try.prog 83 [iV x, .pointer (some ⟨Bc, 0, none⟩)] z (.bool (!inB x (last + 1) ((lt : Int) - 1))) z' ∧ Only (· = Bl) z z' ∧ Own z' Bl [iV x] 1 := by
 obtain ⟨z1, c1, k1, o1, hl1⟩ := rising1_c (x := x) hlt hb (wt.le (le0 z)) (wl.le (le0 z)) hne
 have hl := callsA_low c1
 have lc := (wc.le (le0 z)).ldI (P := Try.prog) (t := 93) (i := 0) agg93 rfl
 have hmain : zN Try.prog 83 [iV x, .pointer (some ⟨Bc, 0, none⟩)] z.re fun v s => Only (· = Bl) z.re s ∧ (s.low < z.next ∨ zS RD v = false ∨ (v = .bool (!inB x (last + 1) ((lt : Int) - 1)) ∧ Own z Bl [iV x] 1)) ∧ v = .bool (!inB x (last + 1) ((lt : Int) - 1)) ∧ Own s Bl [iV x] 1 := by
  have hcase : z1.low < z.next ∨ Own z Bl [iV x] 1 := .inl (by have := wl.lt; omega)
  cases hb2 : inB x (last + 1) ((lt : Int) - 1) with
  | true => rw [hb2] at c1; exact wallI1_ra lc c1 ⟨k1, hcase.imp id (fun h => .inr ⟨rfl, h⟩), rfl, o1⟩
  | false => rw [hb2] at c1; exact wallI1_rb lc c1 ⟨k1, hcase.imp id (fun h => .inr ⟨rfl, h⟩), rfl, o1⟩
 obtain ⟨v, z', h1, h2, rfl, h3⟩ := mut2 (Q := fun v s => v = .bool (!inB x (last + 1) ((lt : Int) - 1)) ∧ Own s Bl [iV x] 1) hmain (by rintro v s m ⟨rfl, h⟩; exact ⟨rfl, h.low⟩)
 exact ⟨z', h1, h2, h3⟩
theorem widx_c {z : St} {p : Option Addr} {l c : Nat} {xs : List Int} {last : Int} (hlt : lt ≤ 100000) (hb : last = -1) (wt : Own z Bt (yB t pe le ce pt lt ct) 4) (wl : Own z Bl [iV last] 1) (hne : Bt ≠ Bl)
  (wc : Own z Bc [.func (.func 85) ⟨[]⟩ ⟨[.pointer (some ⟨Bl, 0, none⟩), .pointer (some ⟨Bt, 0, none⟩)]⟩] 1) (hcl : Bc ≠ Bl) (hI : yU σ0 p l xs) (hle : Le σ0 z) (hBl : σ0.next ≤ Bl) (hl : l ≤ 100000) :
  zN Try.prog 95 [.slice p l c, .func (.func 83) ⟨[]⟩ ⟨[.pointer (some ⟨Bc, 0, none⟩)]⟩] z fun v s => Only (· = Bl) z s ∧ ∃ n : Int, v = iV n ∧ ((0 ≤ n ∧ zAD lt (-1) xs = false) ∨ (n = -1 ∧ zAD lt (-1) xs = true)) := by
 have hxl := hI.len
 refine widxI_ra (Pr := fun n τ => Only (· = Bl) z τ ∧ 0 ≤ n ∧ zAD lt (-1) xs = false) (P0 := fun τ => Only (· = Bl) z τ ∧ zAD lt (-1) xs = true)
  (widxI_loop1 (Inv := fun k i τ => ∃ s : Nat, i = s ∧ s + k = l ∧ Only (· = Bl) z τ ∧ ∃ la : Int, -1 ≤ la ∧ la ≤ 100000 ∧ Own τ Bl [iV la] 1 ∧ zAD lt (-1) xs = zAD lt la (xs.drop s)) ?_ l 0 z ⟨0, rfl, by omega, Only.refl _ _, -1, by omega, by omega, by rw [← hb]; exact wl, rfl⟩)
  (fun n τ h => widxI_t1xra ⟨h.1, n, rfl, .inl h.2⟩) (fun τ h => widxI_t1x0a ⟨h.1, -1, rfl, .inr ⟨rfl, h.2⟩⟩)
 rintro k i τ ⟨s, rfl, hk, hO, la, hl0, hl1, wl', hr⟩
 by_cases hs : s < l
 rotate_left
 ·refine widxI_s1c ⟨hO, ?_⟩ (by omega)
  rw [hr, List.drop_of_length_le (by omega)]; rfl
 have hle' : Le σ0 τ := ⟨Nat.le_trans hle.next hO.next, fun b hb => (hO.get b (Nat.lt_of_lt_of_le hb hle.next) (by show b ≠ Bl; omega)).trans (hle.get b hb)⟩
 obtain ⟨a, rfl, x, hx, ld⟩ := vP (SlV.le hI hle') hs
 obtain ⟨z', c1, k1, o1⟩ := wall1_c (x := x) hlt ⟨by omega, hl1⟩ (hO.own' wt hne) wl' hne (hO.own' wc hcl)
 have hO' : Only (· = Bl) z z' := hO.trans' k1 (fun b _ e => .inl e)
 rw [drop_at' hx] at hr
 have eR : zAD lt la (x :: xs.drop (s + 1)) = (inB x (la + 1) ((lt : Int) - 1) && zAD lt x (xs.drop (s + 1))) := rfl
 rw [eR] at hr
 cases hb2 : inB x (la + 1) ((lt : Int) - 1) with
 | false =>
  rw [hb2] at c1 hr
  exact widxI_s1a ld c1 ⟨hO', by omega, by rw [hr]; rfl⟩ (by omega) (by omega)
 | true =>
  rw [hb2] at c1 hr
  obtain ⟨b0, b1⟩ := zAM.1 hb2
  exact widxI_s1b ld c1 ⟨k - 1, by omega, s + 1, by omega, by omega, hO', x, by omega, by omega, o1, by rw [hr]; rfl⟩ (by omega) (by omega) (by omega)
end
end Go.Proofs.Ytmdopblmkkameaa
