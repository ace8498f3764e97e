
import Derived.Test.YtmdopblmkkameaaRF
import Derived.Test.YtmdopblmkkameaaXC
namespace Go.Proofs.Ytmdopblmkkameaa
open Go Go.Lay
set_option linter.unusedVariables false
set_option linter.unusedSimpArgs false
set_option maxRecDepth 20000
section
variable {σ : St} {t : Tab} {pe pt : Option Addr} {le ce lt ct : Nat}
theorem RowsF.ltb {n0 l : Nat} {p : Option Addr} {rs : List (List Int)} (h : RowsF σ n0 p l rs) : ∀ a, p = some a → a.block < σ.next := by
 obtain ⟨vs, h1, _⟩ := h; exact slv_lt h1
theorem Follows_c (h : TabP σ pe le pt lt t) (hle : le ≤ 1073741824) (hlt : lt ≤ 100000) (hr : ∀ r ∈ t.empty, r.length ≤ 1073741824) :
  ∃ p l c e σ', CallsA Try.prog 32 [.agg ⟨tabL t pe le ce pt lt ct⟩] σ (.tuple ⟨[.slice p l c, iV e]⟩) σ' ∧ New σ σ' ∧ ((checkZ t ≠ 0 ∧ e = checkZ t ∧ l = 0) ∨ (checkZ t = 0 ∧ e = 0 ∧ l = lt ∧ RowsF σ' σ.next p lt (folR t lt))) := by
 suffices hmain : RunsQ Try.prog 32 [.agg ⟨tabL t pe le ce pt lt ct⟩] σ.re fun v s => New σ.re s ∧ ∃ p l c e, v = .tuple ⟨[.slice p l c, iV e]⟩ ∧ ((checkZ t ≠ 0 ∧ e = checkZ t ∧ l = 0) ∨ (checkZ t = 0 ∧ (∃ q, p = some q) ∧ e = 0 ∧ l = lt ∧ RowsF s σ.next p lt (folR t lt))) by
  obtain ⟨v, σ', h1, h2, p, l, c, e, rfl, h3⟩ := RunsQ.new hmain
   (by rintro v s s' ⟨p, l, c, e, rfl, q1⟩ hle; exact ⟨p, l, c, e, rfl, q1.imp id (fun q => ⟨q.1, q.2.1, q.2.2.1, q.2.2.2.1, q.2.2.2.2.le hle⟩)⟩)
   (by
    rintro v s hr ⟨p, l, c, e, rfl, q1⟩
    refine ⟨p, l, c, e, rfl, q1.imp id fun q => ?_⟩
    obtain ⟨_, ⟨q, rfl⟩, _⟩ := q
    exact Bool.noConfusion (show false = true from hr))
  exact ⟨p, l, c, e, σ', h1, h2, h3.imp id (fun q => ⟨q.1, q.2.2⟩)⟩
 have n1 : New σ.re (σ.re.row (tabL t pe le ce pt lt ct) 4) := New.row _ _ _
 have h1 : TabP (σ.re.row (tabL t pe le ce pt lt ct) 4) pe le pt lt t := (h.le' (le0 σ)).le' n1.le
 have ck := check_c (ce := ce) (ct := ct) h1 hle (by omega) hr
 by_cases hz : checkZ t = 0
 ·obtain ⟨p, c, σ', c1, c2, c3, q, rfl⟩ := follows_c (ce := ce) (ct := ct) h1 (valid_of hz) hlt
  rw [hz] at ck
  exact Follows_rb ck c1 ⟨n1.trans c2, _, _, _, _, rfl, .inr ⟨hz, ⟨_, rfl⟩, rfl, rfl, by
   obtain ⟨vs, a1, a2, a3, a4⟩ := c3
   exact ⟨vs, a1, a2, fun b hb => by have := a3 b hb; simp at this; omega, fun i r hi => by
    obtain ⟨q', c', g1, g2, g3⟩ := a4 i r hi
    exact ⟨q', c', g1, g2, fun b hb => by have := g3 b hb; simp at this; omega⟩⟩⟩⟩
 ·exact Follows_ra ck ⟨n1, _, _, _, _, rfl, .inl ⟨hz, rfl, rfl⟩⟩ hz
theorem folR_get {i n : Nat} (h : i < n) : (folR t n)[i]? = some (natI (folL t i n)) := by simp [folR, h]
theorem lFollows_top (h : RefP σ pe le pt lt t) : TopQ Try.prog 17 9 [.agg ⟨tabL t pe le ce pt lt ct⟩] σ fun v _ => v = .bool true := by
 obtain ⟨σ1, hσ1⟩ : ∃ σ1, σ1 = σ.row (tabL t pe le ce pt lt ct) 4 := ⟨_, rfl⟩
 have n1 : New σ σ1 := by rw [hσ1]; exact New.row _ _ _
 have o1 : Own σ1 σ.next (tabL t pe le ce pt lt ct) 4 := by rw [hσ1]; exact own_new _ _ _
 have R1 := h.le' n1.le
 rcases thin_c (ce := ce) (ct := ct) R1 with c0 | ⟨hth, c0⟩
 ·exact lFollows_rh (by rw [← hσ1]; exact c0) rfl
 have bE : ∀ r ∈ t.empty, r.length ≤ 1073741824 := fun r hr => by have := hth.r r hr; omega
 have bl := hth.e
 have bn := hth.n
 obtain ⟨p6, c6, q6, d6, σ6, k2, n6, g6⟩ := table_c (ce := ce) (ct := ct) R1 (by omega) (by omega) bE
 have k3 := checkTable_c (ce := c6) (ct := d6) g6 (by omega) (by omega) bE
 obtain ⟨p16, c16, q16, d16, σ16, k5, n16, g16⟩ := table_c (ce := ce) (ct := ct) (R1.le' n6.le) (by omega) (by omega) bE
 obtain ⟨pf, lf, cf, ef, σ19, k6, n19, hf⟩ := Follows_c (ce := c16) (ct := d16) g16 (by omega) (by omega) bE
 have M6 := n6
 have M19 := (n6.trans n16).trans n19
 have ld : ∀ τ, New σ1 τ → loadA Try.prog τ 25 ⟨σ.next, 0, none⟩ = some (.agg ⟨tabL t pe le ce pt lt ct⟩) := fun τ hn => (o1.le hn.le).ldN agg25 size25 (k := 0) rfl rfl (by simp)
 have k8 := fault_c (ce := ce) (ct := ct) (R1.le' M19.le) (by omega) (by omega)
 rw [hσ1] at c0 k2
 rcases hf with ⟨hz, rfl, rfl⟩ | ⟨hz, rfl, rfl, hF⟩
 ·exact lFollows_rb c0 k2 k3 (ld _ M6) k5 k6 (ld _ M19) k8 rfl rfl hz rfl (by rfl)
 have hv := valid_of hz
 rw [hz] at k3 k8
 have fin : lFollows_L1 σ.next pf lf cf 0 σ19 (fun _ _ => False) (fun _ => True) := by
  refine lFollows_loop1 (Inv := fun k i τ => ∃ s : Nat, i = s ∧ s + k = lf ∧ New σ19 τ) ?_ lf 0 σ19 ⟨0, rfl, by omega, New.refl _⟩
  rintro k i τ ⟨s, rfl, hk, hn⟩
  by_cases hs : s < lf
  rotate_left
  ·exact lFollows_s1c trivial (by omega)
  obtain ⟨a, rfl, r, q, c, hr, hld, hI⟩ := hF.p.row hs
  rw [folR_get hs] at hr
  cases hr
  have R19 := R1.le' (M19.trans hn).le
  obtain ⟨px, lx, cx, τ', e1, e2, e3, e4⟩ := rFollows_c (ce := ce) (ct := ct) R19 hv hs
  have b1 := hF.ltb a rfl
  have b2 := hn.nx
  have b3 := e2.nx
  have b4 := n1.nx
  have b5 := M19.nx
  have b6 := o1.lt
  have iI := SlV.le (SlV.le hI hn.le) e2.le
  have hin := ints_c (c := c) (d := cx) iI e3 (by rw [natI_len]; have := folL_len (t := t) (i := s) (n := lf); omega)
  rw [decide_eq_true rfl] at hin
  refine lFollows_s1a (hld τ hn.le) (ld _ (M19.trans hn)) e1 hin ?_ ?_ ⟨⟨by show a.block < τ'.next; omega, rfl⟩, hld τ' (hn.le.trans e2.le)⟩ ⟨k - 1, by omega, s + 1, by omega, by omega, hn.trans e2⟩
  ·exact belowL_cons (belowB_tab (fun a e => by have := R1.em.ltb a e; omega) (fun a e => by have := slv_lt R1.tr a e; omega)) (belowL_cons rfl belowL_nil)
  ·exact belowL_cons (belowB_sl fun a e => by have := slv_lt hI a e; omega) (belowL_cons (belowB_sl fun a e => slv_lt e3 a e) belowL_nil)
 have hl3 : loadA Try.prog σ19 23 ⟨σ.next, 3, none⟩ = some (.slice pt lf ct) := (o1.le M19.le).ldI (i := 3) agg23 rfl
 exact lFollows_rg c0 k2 k3 (ld _ M6) k5 k6 (ld _ M19) k8 hl3 fin (fun _ _ h => h.elim) (fun _ _ => lFollows_t1x0a rfl) rfl rfl rfl rfl
end
end Go.Proofs.Ytmdopblmkkameaa
