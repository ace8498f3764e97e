
import Derived.Test.YtmdopblmkkameaaRX
import Derived.Test.YtmdopblmkkameaaRZ
namespace Go.Proofs.Ytmdopblmkkameaa
open Go Go.Lay
open Try renaming prog → Pg
set_option linter.unusedVariables false
set_option linter.unusedSimpArgs false
set_option maxRecDepth 20000
theorem rem_eq {ox oy : Operand} {t : TypeId} {a b : Int} (h : b ≠ 0) : binA Pg .rem t ox oy (iV a) (iV b) = some (iV (a.tmod b)) := by
 simp [binA, sameKind, intBin, h]
theorem ref_cells' (y : Trip) : (tripV y).cells.toList.length = 6 := rfl
theorem cells_ref' (xs : List Trip) : (flat (xs.map tripV)).all cellB = true := by
 induction xs with
 | nil => rfl
 | cons x xs ih =>
  rw [List.map_cons, show (tripV x :: xs.map tripV) = [tripV x] ++ xs.map tripV from rfl, flat_append, List.all_append, ih]; rfl
theorem appT_ref' : AppT Pg 23 23 53 6 := appT_of (by kernel_rfl)
theorem RowA.at_ {τ z : St} {n0 l c : Nat} {p : Option Addr} {rs : List (List Int)} (h : RowA τ n0 p l c rs) (hz : ∀ b, n0 ≤ b → b < τ.next → getB z.heap b = getB τ.heap b) (hn : τ.next ≤ z.next) : RowA z n0 p l c rs := by
 have key : ∀ {n len : Nat} {v : Value} {cs : List Value}, App τ n0 n v len cs → App z n0 n v len cs := by
  intro n len v cs h
  cases h with
  | nil => exact .nil
  | more h1 h2 h3 h4 h5 h6 h7 => exact .more (by rw [hz _ h3 h4]; exact h1) h2 h3 (Nat.lt_of_lt_of_le h4 hn) h5 h6 h7
 obtain ⟨g0, vs, g1, g2, g3⟩ := h
 exact ⟨g0, vs, ⟨key g1.app, g1.len_eq, g1.el⟩, fun j r hr => by obtain ⟨q, d, e1, e2, e3⟩ := g2 j r hr; exact ⟨q, d, e1, key e2, e3⟩, g3⟩
theorem RowA.where_ {τ z : St} {n0 l c j : Nat} {a : Addr} {rs : List (List Int)} (h : RowA τ n0 (some a) l c rs) (hz : ∀ b, n0 ≤ b → b < τ.next → getB z.heap b = getB τ.heap b) (hn : τ.next ≤ z.next) (hj : j < l) : ∃ q m d, loadA Pg z 41 (aadd a (Int.toNat (j : Int) * 1)) = some (.slice q m d) ∧ ∀ b, AtP q b → b < τ.next := by
 have key : ∀ {n len : Nat} {v : Value} {cs : List Value}, App τ n0 n v len cs → App z n0 n v len cs := by
  intro n len v cs h
  cases h with
  | nil => exact .nil
  | more h1 h2 h3 h4 h5 h6 h7 => exact .more (by rw [hz _ h3 h4]; exact h1) h2 h3 (Nat.lt_of_lt_of_le h4 hn) h5 h6 h7
 obtain ⟨g0, vs, g1, g2, g3⟩ := h
 obtain ⟨q, d, e1, e2, e3⟩ := g2 j rs[j] (List.getElem?_eq_getElem (by omega))
 have g1' : Gr Pg z n0 41 1 (some a) l c vs := ⟨key g1.app, g1.len_eq, g1.el⟩
 exact ⟨q, _, d, g1'.slv.at rfl e1, fun b hb => by obtain ⟨a', rfl, rfl⟩ := hb; exact e2.lt a' rfl⟩
section
variable {σ : St} {t : Tab} {pe pt : Option Addr} {le ce lt ct : Nat}
theorem own_trips' {z : St} {b n : Nat} {xs : List Trip} (o : Own z b (flat (xs.map tripV)) 6) (hn : xs.length = n) : SlV Pg z 53 6 (some ⟨b, 0, none⟩) n (xs.map tripV) :=
 ⟨⟨by rw [flat_cnt ref_cells', hn], o.rw⟩, by simpa using hn, fun v hv => by obtain ⟨y, _, rfl⟩ := List.mem_map.1 hv; exact .inr ⟨agg53, size53, _, rfl, rfl⟩⟩
theorem lEasier_top {which at_ to_ by_ : Int} (h : RefP σ pe le pt lt t) (hw : 0 ≤ which ∧ which ≤ 255) (ha : 0 ≤ at_ ∧ at_ ≤ 255) (hto : 0 ≤ to_ ∧ to_ ≤ 255) (hby : 0 ≤ by_ ∧ by_ ≤ 65535) :
  TopQ Pg 17 5 [.agg ⟨tabL t pe le ce pt lt ct⟩, .int .u8 which, .int .u8 at_, .int .u8 to_, .int .u16 by_] σ fun v _ => v = .bool true := by
 have hnt : t.nt = lt := h.len
 obtain ⟨n, hn⟩ : ∃ n, n = Int.tmod by_ 60 := ⟨_, rfl⟩
 have hn0 : 0 ≤ n ∧ n < 60 := by rw [hn, Int.tmod_eq_emod_of_nonneg hby.1]; omega
 obtain ⟨σ1, hσ1⟩ : ∃ σ1, σ1 = σ.row (tabL t pe le ce pt lt ct) 4 := ⟨_, rfl⟩
 have n1 : New σ σ1 := by rw [hσ1]; exact New.row _ _ _
 have nx1 : σ1.next = σ.next + 1 := by rw [hσ1]; rfl
 have R1 := h.le' n1.le
 rcases lready_c (ce := ce) (ct := ct) R1 with c0 | ⟨hth, hv, c0⟩
 ·exact lEasier_rz32 (by rw [← hσ1]; exact c0) rfl
 have bE : ∀ r ∈ t.empty, r.length ≤ 1073741824 := fun r hr => by have := hth.r r hr; omega
 have bl := hth.e
 have bn := hth.n
 obtain ⟨σ2, hσ2⟩ : ∃ σ2, σ2 = (σ1.row [iV 0, iV 0, .slice none 0 0, .slice none 0 0] 4).own (σ.next + 1) (tabL t pe le ce pt lt ct) 4 := ⟨_, rfl⟩
 have N2 : New σ σ2 := by rw [hσ2]; exact (n1.row').own (by omega)
 have nx2 : σ2.next = σ.next + 2 := by rw [hσ2]; show σ1.next + 1 = _; omega
 have o2 : Own σ2 σ.next (tabL t pe le ce pt lt ct) 4 := by
  rw [hσ2, hσ1]
  exact ((own_new σ (tabL t pe le ce pt lt ct) 4).row).own (by omega)
 have x2 : Own σ2 (σ.next + 1) (tabL t pe le ce pt lt ct) 4 := by
  rw [hσ2, ← nx1]
  exact (own_new σ1 [iV 0, iV 0, .slice none 0 0, .slice none 0 0] 4).put
 have R2 := h.le' N2.le
 obtain ⟨q2, c2, σ3, k2, N3, A3⟩ := rowsA_c (c := ce) R2.em (by omega) bE
 have nx3 := N3.nx
 obtain ⟨σ4, hσ4⟩ : ∃ σ4, σ4 = σ3.row [] 6 := ⟨_, rfl⟩
 have N4 : New σ3 σ4 := by rw [hσ4]; exact New.row _ _ _
 have nx4 : σ4.next = σ3.next + 1 := by rw [hσ4]; rfl
 have oe : Own σ4 σ3.next [] 6 := by rw [hσ4]; exact own_new _ _ _
 have L24 : Le σ2 σ4 := (N3.trans N4).le
 have o4 := o2.le L24
 have R4 := R2.le' L24
 obtain ⟨p6, c6, σ5, ap, hcase⟩ := copy_new (k := ct) appT_ref' oe R4.tr.1 (by omega) (cells_ref' _)
 obtain ⟨B, hp6, N5, oB, hBb⟩ : ∃ B, p6 = some ⟨B, 0, none⟩ ∧ New σ4 σ5 ∧ Own σ5 B (flat (t.trips.map tripV)) 6 ∧ σ3.next ≤ B := by
  rcases hcase with ⟨h0, rfl, rfl⟩ | ⟨h0, rfl, rfl⟩
  ·refine ⟨_, rfl, New.refl _, ?_, Nat.le_refl _⟩
   have : t.trips = [] := List.eq_nil_of_length_eq_zero (by have : t.trips.length = lt := hnt; omega)
   rw [this]; exact oe
  ·exact ⟨_, rfl, New.row _ _ _, own_new _ _ _, by omega⟩
 subst hp6
 have L25 : Le σ2 σ5 := L24.trans N5.le
 have o5 := o2.le L25
 have x5 := x2.le L25
 have A5 := A3.leT (N4.trans N5).le
 have nx5 := N5.nx
 have st7 := x5.store (P := Pg) (k := 2) (t := 22) (v := .slice q2 le c2) (vs := [.slice q2 le c2]) (ds := tabL t q2 le c2 pt lt ct) rfl size22 rfl (by simp) rfl
 obtain ⟨σ7, hσ7⟩ : ∃ σ7, σ7 = σ5.own (σ.next + 1) (tabL t q2 le c2 pt lt ct) 4 := ⟨_, rfl⟩
 have x7 : Own σ7 (σ.next + 1) (tabL t q2 le c2 pt lt ct) 4 := by rw [hσ7]; exact x5.put
 have k7 : Only (· = σ.next + 1) σ5 σ7 := by rw [hσ7]; exact Only.own (.inr rfl)
 rw [← hσ7] at st7
 have st8 := x7.store (P := Pg) (k := 3) (t := 23) (v := .slice (some ⟨B, 0, none⟩) lt c6) (vs := [.slice (some ⟨B, 0, none⟩) lt c6]) (ds := tabL t q2 le c2 (some ⟨B, 0, none⟩) lt c6) rfl size23 rfl (by simp) rfl
 obtain ⟨σ8, hσ8⟩ : ∃ σ8, σ8 = σ7.own (σ.next + 1) (tabL t q2 le c2 (some ⟨B, 0, none⟩) lt c6) 4 := ⟨_, rfl⟩
 have x8 : Own σ8 (σ.next + 1) (tabL t q2 le c2 (some ⟨B, 0, none⟩) lt c6) 4 := by rw [hσ8]; exact x7.put
 have k8 : Only (· = σ.next + 1) σ7 σ8 := by rw [hσ8]; exact Only.own (.inr rfl)
 rw [← hσ8] at st8
 have kk : Only (· = σ.next + 1) σ5 σ8 := k7.trans' k8 (fun b _ e => .inl e)
 have nx8 := kk.next
 have o8 := kk.own' o5 (by omega)
 have oB8 := kk.own' oB (by omega)
 have N8 : New σ σ8 := (((N2.trans N3).trans N4).trans N5).of_only kk (by rintro b rfl; omega)
 have rowA_only : ∀ {z z' : St} {rs : List (List Int)} {b0 : Nat}, RowA z σ2.next q2 le c2 rs → Only (· = b0) z z' → b0 < σ2.next → RowA z' σ2.next q2 le c2 rs := by
  rintro z z' rs b0 ⟨g0, vs, g1, g2, g3⟩ k hb
  exact ⟨g0, vs, g1.only k (fun b hb' e => by have e : b = b0 := e; have := (g1.bd hb').1; omega), fun j r hr => by
   obtain ⟨q, d, e1, e2, e3⟩ := g2 j r hr
   exact ⟨q, d, e1, k.app' e2 (by rintro a l c e hs; cases e; have hs : a.block = b0 := hs; have := e2.ge a rfl; omega), e3⟩, g3⟩
 have A8 := rowA_only A5 kk (by omega)
 have hold8 : ∀ b, σ2.next ≤ b → b < σ3.next → getB σ8.heap b = getB σ3.heap b := fun b h1 h2 => by
  rw [kk.get b (by omega) (by show b ≠ σ.next + 1; omega)]
  exact (N4.trans N5).le.get b h2
 have Rt8 := h.le' N8.le
 have hTr8 := own_trips' oB8 (show t.trips.length = lt from hnt)
 have bT : ∀ z, New σ z → ∀ a, pt = some a → a.block < z.next := fun z hz a e => slv_lt (h.le' hz.le).tr a e
 have NN3 : New σ σ3 := N2.trans N3
 have NN4 : New σ σ4 := NN3.trans N4
 have NN5 : New σ σ5 := NN4.trans N5
 have b_q2 : ∀ a, q2 = some a → a.block < σ5.next := fun a e => by
  obtain ⟨g0, vs, g1, _⟩ := A5
  exact g1.app.lt a e
 have ldE : ∀ z, Own z σ.next (tabL t pe le ce pt lt ct) 4 → loadA Pg z 22 ⟨σ.next, 2, none⟩ = some (.slice pe le ce) := fun z o => o.ldI (i := 2) agg22 rfl
 have ldT : ∀ z, Own z σ.next (tabL t pe le ce pt lt ct) 4 → loadA Pg z 23 ⟨σ.next, 3, none⟩ = some (.slice pt lt ct) := fun z o => o.ldI (i := 3) agg23 rfl
 have o3 := o2.le N3.le
 have h7 : belowL σ4.next [.pointer (some ⟨σ.next, 3, none⟩)] := belowL_cons (belowB_ptr o4.lt) belowL_nil
 have h8 : belowL σ4.next [.slice (some ⟨σ3.next, 0, none⟩) 0 0, .slice pt lt ct] := belowL_cons (belowB_sl1 (by show σ3.next < σ4.next; omega)) (belowL_cons (belowB_sl (bT _ NN4)) belowL_nil)
 have h9 : belowL σ5.next [.pointer (some ⟨σ.next + 1, 2, none⟩), .slice q2 le c2] := belowL_cons (belowB_ptr x5.lt) (belowL_cons (belowB_sl b_q2) belowL_nil)
 have h10 : belowL σ7.next [.pointer (some ⟨σ.next + 1, 3, none⟩), .slice (some ⟨B, 0, none⟩) lt c6] := by
  have e : σ7.next = σ5.next := by rw [hσ7]; rfl
  rw [e]
  exact belowL_cons (belowB_ptr x5.lt) (belowL_cons (belowB_sl1 oB.lt) belowL_nil)
 have h11 : (((⟨σ.next, 2, none⟩ : Addr).block < σ3.next ∧ goodB RD (.slice pe le ce) = true) ∧ loadA Pg σ3 22 ⟨σ.next, 2, none⟩ = some (.slice pe le ce)) := ⟨⟨o3.lt, rfl⟩, ldE _ o3⟩
 have h12 : (((⟨σ.next, 2, none⟩ : Addr).block < σ4.next ∧ goodB RD (.slice pe le ce) = true) ∧ loadA Pg σ4 22 ⟨σ.next, 2, none⟩ = some (.slice pe le ce)) := ⟨⟨o4.lt, rfl⟩, ldE _ o4⟩
 have h14 : (((⟨σ.next, 3, none⟩ : Addr).block < σ3.next ∧ goodB RD (.slice pt lt ct) = true) ∧ loadA Pg σ3 23 ⟨σ.next, 3, none⟩ = some (.slice pt lt ct)) := ⟨⟨o3.lt, rfl⟩, ldT _ o3⟩
 have h15 : (((⟨σ.next, 3, none⟩ : Addr).block < σ4.next ∧ goodB RD (.slice pt lt ct) = true) ∧ loadA Pg σ4 23 ⟨σ.next, 3, none⟩ = some (.slice pt lt ct)) := ⟨⟨o4.lt, rfl⟩, ldT _ o4⟩
 have b_e : ∀ a, pe = some a → a.block < σ.next := h.em.ltb
 have hK1 : ∀ (pf pg : Option Addr) (cf cg : Nat) (z : St), True → lEasier_K1_1 pf lt cf pg lt cg z (fun v _ => v = .bool true) := fun _ _ _ _ _ _ => lEasier_t1x1a rfl
 have h3 := ldT _ o4
 have h13 := ldT _ o2
 subst hσ4 hσ2 hσ1
 by_cases hw0 : Int.tmod which 3 = 0
 ·
  obtain ⟨hx, hm⟩ := lay0_ok hv hn0.1
  have hlay := hv.parts.2.1
  have st := x8.store (P := Pg) (k := 1) (t := 3) (v := iV (max 0 (t.layover - Int.tmod by_ 60))) (vs := [iV (max 0 (t.layover - Int.tmod by_ 60))]) (ds := tabL (lay0 t n) q2 le c2 (some ⟨B, 0, none⟩) lt c6) rfl size3 rfl (by simp) (by rw [hn]; rfl)
  have k9 : Only (· = σ.next + 1) σ8 (σ8.own (σ.next + 1) (tabL (lay0 t n) q2 le c2 (some ⟨B, 0, none⟩) lt c6) 4) := Only.own (.inr rfl)
  have N9 : New σ (σ8.own (σ.next + 1) (tabL (lay0 t n) q2 le c2 (some ⟨B, 0, none⟩) lt c6) 4) := N8.own (by omega)
  obtain ⟨p1, c1, q1, d1, s1, pf, cf, s2, p3, c3, q3, d3, s3, pg, cg, s4, p5, c5, q5, d5, s5, pc, lc, cc, s6, p7, c7, q7, d7, s7, pd, ld, cd, s8, e1, e2, e3, e4, e5, e6, e7, e8, e9, e10, e11, e12, e13, e14⟩ := easier_calls (x := lay0 t n) hth hth.r hv hx (k9.own' o8 (by omega)) x8.put (h.le' N9.le) ⟨(rowA_only A8 k9 (by omega)).p, k9.slv' hTr8 (fun a e hb => by cases e; have hb : B = σ.next + 1 := hb; omega)⟩ hm
  exact lEasier_rh c0 k2 h3 ap st7 st8 h7 h8 h9 h10 h11 h12 h13 h14 h15 (x8.ldI (i := 1) agg3 rfl) max_see st ((k9.own' o8 (by omega)).ldN agg25 size25 (k := 0) rfl rfl (by simp)) e1 e2 e3 e4 e5 e6 e7 e8 e9 e10 e11 e12 b_e e13 (hK1 _ _ _ _) (fun _ _ hF => hF.elim)
 by_cases hw1 : Int.tmod which 3 = 1
 ·
  have hlee := hv.lee h.em
  have hpl := hv.parts.1
  obtain ⟨P, hP⟩ : ∃ P : Nat, (P : Int) = t.places := ⟨t.places.toNat, by omega⟩
  obtain ⟨A, hA⟩ : ∃ A : Nat, (A : Int) = at_ := ⟨at_.toNat, by omega⟩
  obtain ⟨T, hT⟩ : ∃ T : Nat, (T : Int) = to_ := ⟨to_.toNat, by omega⟩
  have hr1 : binA Pg .rem 3 (.tmp 87) (.tmp 89) (iV at_) (iV t.places) = some (iV ((A % P : Nat) : Int)) := by
   rw [rem_eq (by omega), ← hA, ← hP, Int.tmod_eq_emod_of_nonneg (by omega)]; rfl
  have hr2 : binA Pg .rem 3 (.tmp 94) (.tmp 96) (iV to_) (iV t.places) = some (iV ((T % P : Nat) : Int)) := by
   rw [rem_eq (by omega), ← hT, ← hP, Int.tmod_eq_emod_of_nonneg (by omega)]; rfl
  have hj : A % P < P := Nat.mod_lt _ (by omega)
  have hk : T % P < P := Nat.mod_lt _ (by omega)
  generalize hjj : A % P = j at hr1 hj
  generalize hkk : T % P = k at hr2 hk
  obtain ⟨qa, rfl, r, qq, cc0, hr, _, _⟩ := A8.p.row (show j < le by omega)
  have hrl := (hv.parts.2.2.2.1 r (List.mem_of_getElem? hr)).1
  have hkr : k < r.length := by omega
  obtain ⟨w, hwk⟩ : ∃ w, r[k]? = some w := ⟨r[k], List.getElem?_eq_getElem hkr⟩
  have hw600 := (hv.parts.2.2.2.1 r (List.mem_of_getElem? hr)).2 w (List.mem_of_getElem? hwk)
  obtain ⟨qb, dd, w', σ9, ld1, hw', ld2, st, k9, hqb, A9⟩ := A8.set (v := max 0 (w - Int.tmod by_ 60)) hr hkr
  rw [hwk] at hw'
  cases hw'
  obtain ⟨hx, hm⟩ := emp0_ok (v := max 0 (w - Int.tmod by_ 60)) hv hr hwk (by rw [← hn]; omega)
  have er : t.empty.getD j [] = r := by simp [List.getD_eq_getElem?_getD, hr]
  have hqB : B ≠ qb.block := by
   intro e
   obtain ⟨qx, mx, dx, lx, ux⟩ := A3.where_ (j := j) hold8 (by omega) (by omega)
   rw [ld1] at lx
   cases lx
   have := ux qb.block ⟨qb, rfl, rfl⟩
   omega
  have N9 : New σ σ9 := N8.of_only k9 (by rintro b rfl; omega)
  have o9 := k9.own' o8 (by omega)
  have x9 : Own σ9 (σ.next + 1) (tabL (emp0 t j k (max 0 (w - Int.tmod by_ 60))) (some qa) le c2 (some ⟨B, 0, none⟩) lt c6) 4 := k9.own' x8 (by omega)
  have em9 : RowsP σ9 (some qa) le (emp0 t j k (max 0 (w - Int.tmod by_ 60))).empty := by
   have := A9.p
   unfold emp0
   rw [er]; exact this
  obtain ⟨p1, c1, q1, d1, s1, pf, cf, s2, p3, c3, q3, d3, s3, pg, cg, s4, p5, c5, q5, d5, s5, pc, lc, cc, s6, p7, c7, q7, d7, s7, pd, ld, cd, s8, e1, e2, e3, e4, e5, e6, e7, e8, e9, e10, e11, e12, e13, e14⟩ := easier_calls (x := emp0 t j k (max 0 (w - Int.tmod by_ 60))) hth (by
    intro r' hr'
    have : r' ∈ t.empty.set j ((t.empty.getD j []).set k (max 0 (w - Int.tmod by_ 60))) := hr'
    rcases List.mem_or_eq_of_mem_set this with h | h
    ·exact hth.r r' h
    ·subst h; rw [er, List.length_set]; exact hth.r r (List.mem_of_getElem? hr)) hv hx o9 x9 (h.le' N9.le) ⟨em9, k9.slv' hTr8 (fun a e hb => by cases e; exact hqB hb)⟩ hm
  exact lEasier_rp c0 k2 h3 ap st7 st8 h7 h8 h9 h10 h11 h12 h13 h14 h15 (x8.ldI (i := 2) agg22 rfl) (o8.ldI (i := 0) agg3 rfl) hr1 ld1 hr2 ld2 max_see st (o9.ldN agg25 size25 (k := 0) rfl rfl (by simp)) e1 e2 e3 e4 e5 e6 e7 e8 e9 e10 e11 e12 b_e e13 (hK1 _ _ _ _) (fun _ _ hF => hF.elim)
 by_cases hlt0 : 0 < lt
 ·
  obtain ⟨A, hA⟩ : ∃ A : Nat, (A : Int) = at_ := ⟨at_.toNat, by omega⟩
  have hr1 : binA Pg .rem 3 (.tmp 54) (.tmp 57) (iV at_) (iV ((lt : Nat) : Int)) = some (iV ((A % lt : Nat) : Int)) := by
   rw [rem_eq (by omega), ← hA, Int.tmod_eq_emod_of_nonneg (by omega)]; rfl
  have hj : A % lt < lt := Nat.mod_lt _ hlt0
  generalize hjj : A % lt = j at hr1 hj
  have hjl : j < t.trips.length := by have : t.trips.length = lt := hnt; omega
  obtain ⟨y, hy⟩ : ∃ y, t.trips[j]? = some y := ⟨t.trips[j], List.getElem?_eq_getElem hjl⟩
  have hty := hv.trip hy
  obtain ⟨v, hv0⟩ : ∃ v, v = max y.least (y.most - Int.tmod by_ 60) := ⟨_, rfl⟩
  obtain ⟨hx, hm⟩ := mo0_ok (v := v) hv hy (by rw [hv0, ← hn]; omega)
  have ex : (mo0 t j v).trips = t.trips.set j ⟨y.fr, y.to, y.st, y.least, v, y.kind⟩ := by unfold mo0; rw [hy]
  have hcnt := flat_cnt ref_cells' (xs := t.trips)
  have hlen : t.trips.length = lt := hnt
  have ea : ∀ (i : Nat), aadd (⟨B, 0, none⟩ : Addr) ((Int.toNat (j : Int) * 6) + i) = ⟨B, j * 6 + i, none⟩ := fun i => by simp [aadd]
  have hmul : j * 6 + 6 ≤ lt * 6 := by omega
  have st : effOp Pg (evL [.pointer (some (aadd ⟨B, 0, none⟩ ((Int.toNat (j : Int) * 6) + 4))), iV v]) σ8 (.store 3 (.tmp 0) (.tmp 1)) = some (undef, σ8.own B (flat ((mo0 t j v).trips.map tripV)) 6) := by
   rw [ea, ex]
   exact oB8.store (k := j * 6 + 4) (vs := [iV v]) rfl (by rw [size3]; rfl) (by simp [cellB]) (by rw [hcnt, hlen]; simp; omega) (flat_upd (x := y) (x' := ⟨y.fr, y.to, y.st, y.least, v, y.kind⟩) (v := iV v) ref_cells' (k := 4) (by omega) rfl hy)
  have k9 : Only (· = B) σ8 (σ8.own B (flat ((mo0 t j v).trips.map tripV)) 6) := Only.own (.inr rfl)
  have N9 := N8.own (b := B) (cs := flat ((mo0 t j v).trips.map tripV)) (n := 6) (by omega)
  have o9 := k9.own' o8 (by omega)
  have x9 : Own (σ8.own B (flat ((mo0 t j v).trips.map tripV)) 6) (σ.next + 1) (tabL (mo0 t j v) q2 le c2 (some ⟨B, 0, none⟩) lt c6) 4 := k9.own' x8 (by omega)
  have em9 : RowsP (σ8.own B (flat ((mo0 t j v).trips.map tripV)) 6) q2 le (mo0 t j v).empty :=
   (A3.at_ (z := σ8.own B (flat ((mo0 t j v).trips.map tripV)) 6) (fun b h1 h2 => (k9.get b (by omega) (by show b ≠ B; omega)).trans (hold8 b h1 h2)) (by show σ3.next ≤ σ8.next; omega)).p
  obtain ⟨p1, c1, q1, d1, s1, pf, cf, s2, p3, c3, q3, d3, s3, pg, cg, s4, p5, c5, q5, d5, s5, pc, lc, cc, s6, p7, c7, q7, d7, s7, pd, ld, cd, s8, e1, e2, e3, e4, e5, e6, e7, e8, e9, e10, e11, e12, e13, e14⟩ := easier_calls (x := mo0 t j v) hth hth.r hv hx o9 x9 (h.le' N9.le) ⟨em9, own_trips' oB8.put (by rw [ex, List.length_set]; exact hlen)⟩ hm
  exact lEasier_rx c0 k2 h3 ap st7 st8 h7 h8 h9 h10 h11 h12 h13 h14 h15 (x8.ldI (i := 3) agg23 rfl) hr1 (by rw [ea]; exact oB8.ld rfl agg3 (flat_nth ref_cells' (k := 3) (by omega) (v := iV y.least) rfl hy)) (by rw [ea]; exact oB8.ld rfl agg3 (flat_nth ref_cells' (k := 4) (by omega) (v := iV y.most) rfl hy)) (by rw [hv0]; exact max_see) st (o9.ldN agg25 size25 (k := 0) rfl rfl (by simp)) e1 e2 e3 e4 e5 e6 e7 e8 e9 e10 e11 e12 b_e e13 (hK1 _ _ _ _) (fun _ _ hF => hF.elim)
 obtain ⟨p1, c1, q1, d1, s1, pf, cf, s2, p3, c3, q3, d3, s3, pg, cg, s4, p5, c5, q5, d5, s5, pc, lc, cc, s6, p7, c7, q7, d7, s7, pd, ld, cd, s8, e1, e2, e3, e4, e5, e6, e7, e8, e9, e10, e11, e12, e13, e14⟩ := easier_calls (x := t) hth hth.r hv hv.check o8 x8 Rt8 ⟨A8.p, hTr8⟩ (fun _ _ h => h)
 exact lEasier_rz31 c0 k2 h3 ap st7 st8 h7 h8 h9 h10 h11 h12 h13 h14 h15 (x8.ldI (i := 3) agg23 rfl) (o8.ldN agg25 size25 (k := 0) rfl rfl (by simp)) e1 e2 e3 e4 e5 e6 e7 e8 e9 e10 e11 e12 b_e e13 (hK1 _ _ _ _) (fun _ _ hF => hF.elim)
end
end Go.Proofs.Ytmdopblmkkameaa
