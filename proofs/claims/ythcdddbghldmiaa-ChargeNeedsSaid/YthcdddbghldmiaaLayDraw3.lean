/- Regions that draw their order: what holds on the way. -/
import Derived.Test.YthcdddbghldmiaaLayDraw2
set_option linter.unusedVariables false
set_option linter.unusedSimpArgs false
namespace Go.Lay
open Go

abbrev BF (ops : Array Oper) : Array Nat := CheckFast.beforeF ops

/-- A block pends: it is there; nobody's. -/
structure Pend (ι : Inj) (pend : Nat → Option Loc) (N0 : Nat) (w : World) (n : Nat) (y : Blk) (L : Loc) : Prop where
  get : pend n = some L
  ge : N0 ≤ L.c
  lt : L.c < w.heap.size
  own : ι.own L.c = none
  off : ∀ b s L', ι.loc b s = some L' → L'.c ≠ L.c
  blk : BlkR ((ι.plus (cut pend (n + 1))).owned L.c n) w n y

structure Inv (ops : Array Oper) (l : List Seen) (t : Tm) (τ : St) (ι0 : Inj) (w0 : World) (ds : List Deferred) (X : Nat → Prop) (a : Act) (w : World) (q : Nat) (ι : Inj) (pend : Nat → Option Loc) : Prop where
  hq : q ≤ ops.size
  ahead : ∀ (j : Nat) (o : Oper), ops[j]? = some o → actsB o.op = true → j < q → X j
  beyond : ∀ (j : Nat) (o : Oper), ops[j]? = some o → actsB o.op = true → q ≤ j → X j → freeB ops (BF ops) j = true
  good : Good ι0 (stL l τ 0) w0 ι (stL l τ q) w
  keys : ∀ b L, pend b = some L → (b < (stL l τ q).next ∧ ι.loc b 0 = some L) ∨ (∃ j o s, q ≤ j ∧ X j ∧ ops[j]? = some o ∧ l[j]? = some s ∧ s.want = true ∧ freeB ops (BF ops) j = true ∧ b = (stL l τ j).next)
  pok : ∀ (j : Nat) (o : Oper) (s : Seen), q ≤ j → X j → ops[j]? = some o → actsB o.op = true → l[j]? = some s → s.want = true → ∃ y L, stL l τ (j + 1) = (stL l τ j).add y ∧ Pend ι pend w0.heap.size w (stL l τ j).next y L
  inj : ∀ b b' L L', pend b = some L → pend b' = some L' → L.c = L'.c → b = b'
  fr : FrOk ops l (frL l t 0) X (ι.plus pend) a.tmps
  ds : a.defers = ds
  fast : (∀ j, freeB ops (BF ops) j = false) → ∀ b, pend b = none

theorem makes_acts {o : Op} (h : makesB o = true) : actsB o = true := by cases o <;> first | rfl | (simp [makesB] at h)
theorem free_makes {ops : Array Oper} {B : Array Nat} {j : Nat} {o : Oper} (ho : ops[j]? = some o) (h : freeB ops B j = true) : makesB o.op = true := by
  unfold freeB at h
  rw [(getD_of ho).1, Bool.and_eq_true] at h
  exact h.1

theorem cut_le {pend : Nat → Option Loc} {n b : Nat} {L : Loc} (h : cut pend n b = some L) : b < n ∧ pend b = some L := by
  unfold cut at h
  split at h
  · rename_i hlt; exact ⟨hlt, h⟩
  · cases h
theorem plus_zero {ι : Inj} {pend : Nat → Option Loc} {b : Nat} {L : Loc} (h : pend b = some L) : (ι.plus pend).loc b 0 = some L := by simp [Inj.plus, h]
theorem plus_succ {ι : Inj} {pend : Nat → Option Loc} {b s : Nat} (h : s ≠ 0) : (ι.plus pend).loc b s = ι.loc b s := by simp [Inj.plus, h]
theorem plus_none {ι : Inj} {pend : Nat → Option Loc} {b : Nat} (s : Nat) (h : pend b = none) : (ι.plus pend).loc b s = ι.loc b s := by
  simp only [Inj.plus, h]
  split
  · rename_i h0; rw [h0]
  · rfl

section
variable {P : Program} {rec : Rec} {ops : Array Oper} {l : List Seen} {t : Tm} {τ : St} {ι0 : Inj} {w0 : World} {ds : List Deferred} {X : Nat → Prop} {a : Act} {w : World} {q : Nat} {ι : Inj} {pend : Nat → Option Loc}

theorem Inv.lt_size (I : Inv ops l t τ ι0 w0 ds X a w q ι pend) {b : Nat} {L : Loc} (h : pend b = some L) : L.c < w.heap.size := by
  rcases I.keys b L h with ⟨_, h1⟩ | ⟨j, o, s, h1, h2, h3, h4, h5, h6, rfl⟩
  · exact I.good.rep.lt _ _ _ h1
  · obtain ⟨y, L', _, hp⟩ := I.pok j o s h1 h2 h3 (makes_acts (free_makes h3 h6)) h4 h5
    rw [hp.get] at h; cases h; exact hp.lt

/-- What pends from a number on is not known below. -/
theorem Inv.sub_plus (S : SeqD P rec ops ops.toList l t τ) (I : Inv ops l t τ ι0 w0 ds X a w q ι pend) (hX : ∀ j, X j → j < ops.size) : Sub ι (ι.plus pend) := by
  refine ⟨fun b s L h => ?_, fun _ _ _ _ => rfl⟩
  by_cases h0 : s = 0
  · subst h0
    cases hp : pend b with
    | none => rw [plus_none _ hp]; exact h
    | some L1 =>
      rw [plus_zero hp]
      rcases I.keys b L1 hp with ⟨_, h1⟩ | ⟨j, o, s, h1, h2, h3, h4, h5, h6, rfl⟩
      · rw [h] at h1; exact h1.symm
      · have := S.mono q j h1 (Nat.le_of_lt (hX j h2))
        rw [I.good.rep.fresh _ _ this] at h; cases h
  · rw [plus_succ h0]; exact h

/-- What lies below the next number is known without what pends. -/
theorem Inv.lower (S : SeqD P rec ops ops.toList l t τ) (I : Inv ops l t τ ι0 w0 ds X a w q ι pend) (hX : ∀ j, X j → j < ops.size) {f : Tm} {o : Oper} (hb : (∀ j, freeB ops (BF ops) j = false) ∨ below (stL l τ q).next f o = true) {x : Operand} (hx : x ∈ o.op.operands) {v' : Value}
    (h : VR (ι.plus pend) (aeval f x) v') : VR ι (aeval f x) v' := by
  rcases hb with hb | hb
  · refine VR.sub (ι := ι.plus pend) (ι' := ι) ⟨fun b s L hL => ?_, fun _ _ _ _ => rfl⟩ h
    rw [plus_none _ (I.fast hb b)] at hL; exact hL
  · refine VR.lower (κ := ι.plus pend) (κ' := ι) (m := (stL l τ q).next) (fun b s L hlt hL => ?_) (fun _ _ _ _ => rfl) RD (List.all_eq_true.1 hb x (by simpa using hx)) h
    by_cases h0 : s = 0
    · subst h0
      cases hp : pend b with
      | none => rw [plus_none _ hp] at hL; exact hL
      | some L1 =>
        rw [plus_zero hp] at hL; cases hL
        rcases I.keys b L hp with ⟨_, h1⟩ | ⟨j, o', s, h1, h2, _, _, _, _, rfl⟩
        · exact h1
        · have := S.mono q j h1 (Nat.le_of_lt (hX j h2)); omega
    · rw [plus_succ h0] at hL; exact hL

/-- A pending block abides where its memory does. -/
theorem Pend.keep {ι' : Inj} {pend' : Nat → Option Loc} {w' : World} {N0 n : Nat} {y : Blk} {L : Loc} (h : Pend ι pend N0 w n y L) (hget : pend' n = some L) (hlt : w.heap.size ≤ w'.heap.size) (hown : ι'.own L.c = none)
    (hoff : ∀ b s L', ι'.loc b s = some L' → L'.c ≠ L.c) (hs : Sub (ι.plus (cut pend (n + 1))) (ι'.plus (cut pend' (n + 1)))) (hfr : ∀ s, s ≠ 0 → ι.loc n s = none ∧ ι'.loc n s = none) (hw : w'.heap[L.c]? = w.heap[L.c]?) :
    Pend ι' pend' N0 w' n y L := by
  refine ⟨hget, h.ge, Nat.lt_of_lt_of_le h.lt hlt, hown, hoff, ?_⟩
  have hl : ∀ s L1, ((ι.plus (cut pend (n + 1))).owned L.c n).loc n s = some L1 → L1 = L := fun s L1 hL => by
    by_cases h0 : s = 0
    · subst h0
      have : (ι.plus (cut pend (n + 1))).loc n 0 = some L := plus_zero (by simp [cut, h.get])
      rw [show ((ι.plus (cut pend (n + 1))).owned L.c n).loc n 0 = (ι.plus (cut pend (n + 1))).loc n 0 from rfl, this] at hL
      cases hL; rfl
    · rw [show ((ι.plus (cut pend (n + 1))).owned L.c n).loc n s = (ι.plus (cut pend (n + 1))).loc n s from rfl, plus_succ h0, (hfr s h0).1] at hL; cases hL
  refine h.blk.keepS ⟨hs.loc, hs.sz⟩ (fun s L1 hL => ?_) (fun s L1 hL _ => ?_) (fun cs esz log next ro hy s hs' => ?_)
  · rw [hl s L1 hL]; simp [Inj.owned]
  · rw [hl s L1 hL]; exact hw
  · have hb := h.blk
    subst hy
    cases hb with
    | cells _ _ _ fresh =>
      have := fresh s hs'
      by_cases h0 : s = 0
      · subst h0
        have h2 : (ι.plus (cut pend (n + 1))).loc n 0 = some L := plus_zero (by simp [cut, h.get])
        rw [show ((ι.plus (cut pend (n + 1))).owned L.c n).loc n 0 = (ι.plus (cut pend (n + 1))).loc n 0 from rfl, h2] at this; cases this
      · rw [show ((ι'.plus (cut pend' (n + 1))).owned L.c n).loc n s = (ι'.plus (cut pend' (n + 1))).loc n s from rfl, plus_succ h0]; exact (hfr s h0).2

theorem Inv.advance1 (S : SeqD P rec ops ops.toList l t τ) (I : Inv ops l t τ ι0 w0 ds X a w q ι pend) (hX : ∀ j, X j → j < ops.size) {o : Oper} (ho : ops[q]? = some o) (hact : actsB o.op = true → X q) :
    ∃ ι', Inv ops l t τ ι0 w0 ds X a w (q + 1) ι' pend := by
  obtain ⟨s, hs, _, _, _, _, hg, h1, h2⟩ := S.at ho
  have hq1 : q + 1 ≤ ops.size := (getD_of ho).2
  -- where nothing turns
  have stay : stL l τ (q + 1) = stL l τ q → (∀ (sx : Seen), l[q]? = some sx → sx.want = true → freeB ops (BF ops) q = true → False) → ∃ ι', Inv ops l t τ ι0 w0 ds X a w (q + 1) ι' pend := fun hst hno =>
    ⟨ι, hq1, fun j o' hj ha hlt => by
        by_cases he : j = q
        · subst he; rw [ho] at hj; cases hj; exact hact ha
        · exact I.ahead j o' hj ha (by omega),
      fun j o' hj ha hle hx => I.beyond j o' hj ha (by omega) hx, by rw [hst]; exact I.good,
      fun b L hp => by
        rw [hst]
        refine (I.keys b L hp).imp id (fun ⟨j, o', s', x1, x2, x3, x4, x5, x6, x7⟩ => ⟨j, o', s', ?_, x2, x3, x4, x5, x6, x7⟩)
        by_cases he : j = q
        · subst he; exact (hno s' x4 x5 x6).elim
        · omega,
      fun j o' s' hle hx hj ha hs' hw => I.pok j o' s' (by omega) hx hj ha hs' hw, I.inj, I.fr, I.ds, I.fast⟩
  cases hact' : actsB o.op with
  | false =>
    refine stay ?_ (fun sx _ _ hfree => ?_)
    · cases hw : s.want with
      | false => exact (h2 hw).2
      | true => rcases opA_acts (h1 hw) with ⟨ha, _⟩ | ⟨_, _, _, he⟩ | ⟨_, _, _, he⟩
                · rw [hact'] at ha; cases ha
                · exact he
                · exact he
    · have := makes_acts (free_makes ho hfree); rw [hact'] at this; cases this
  | true =>
    have hXq := hact hact'
    cases hw : s.want with
    | false => exact stay (h2 hw).2 (fun sx hsx hwx _ => by rw [hs] at hsx; cases hsx; rw [hw] at hwx; cases hwx)
    | true =>
      obtain ⟨y, L, hst, hp⟩ := I.pok q o s (Nat.le_refl _) hXq ho hact' hs hw
      have hfree := I.beyond q o ho hact' (Nat.le_refl _) hXq
      have hfrn := I.good.rep.fresh (stL l τ q).next
      have hnone : ∀ s, ι.loc (stL l τ q).next s = none := fun s => hfrn s (Nat.le_refl _)
      -- what pends beyond has greater numbers
      have hbig : ∀ j, q + 1 ≤ j → j ≤ ops.size → (stL l τ q).next + 1 ≤ (stL l τ j).next := fun j hj hj2 => by
        have := S.mono (q + 1) j hj hj2
        rw [hst, St.add_next] at this; exact this
      have hsub : Sub ι (ι.commit (stL l τ q).next L) := by
        refine ⟨fun b s0 L0 h0 => ?_, fun _ _ _ _ => rfl⟩
        simp only [Inj.commit]
        rw [if_neg]; exact h0
        rintro ⟨rfl, rfl⟩; rw [hnone 0] at h0; cases h0
      have hgood := I.good
      have rep : Rep (ι.commit (stL l τ q).next L) ((stL l τ q).add y) w := by
        refine ⟨fun b y' hb => ?_, fun b s0 L0 h0 => ?_, fun c b h0 => ?_, fun b s0 h0 => ?_⟩
        · rw [St.add_get] at hb
          by_cases hbn : b = (stL l τ q).next
          · rw [if_pos hbn] at hb; cases hb; subst hbn
            refine ⟨by simp, hp.blk.keepS ⟨fun b s0 L0 h0 => ?_, fun _ _ _ _ => rfl⟩ (fun _ _ _ => rfl) (fun _ _ _ _ => rfl) (fun cs esz log next ro hy s0 hs0 => ?_)⟩
            · have h0 : (ι.plus (cut pend ((stL l τ q).next + 1))).loc b s0 = some L0 := h0
              by_cases hz : s0 = 0
              · subst hz
                cases hc : cut pend ((stL l τ q).next + 1) b with
                | none => rw [plus_none _ hc] at h0; exact hsub.loc _ _ _ h0
                | some L1 =>
                  rw [plus_zero hc] at h0; cases h0
                  obtain ⟨hlt, hpb⟩ := cut_le hc
                  by_cases hbe : b = (stL l τ q).next
                  · subst hbe; rw [hp.get] at hpb; cases hpb; simp [Inj.commit]
                  · rcases I.keys b L0 hpb with ⟨_, x⟩ | ⟨j, _, _, x1, x2, _, _, _, _, x7⟩
                    · exact hsub.loc _ _ _ x
                    · have := S.mono q j x1 (Nat.le_of_lt (hX j x2)); omega
              · rw [plus_succ hz] at h0; exact hsub.loc _ _ _ h0
            · have hb := hp.blk
              subst hy
              cases hb with
              | cells _ _ _ fresh =>
                have hh := fresh s0 hs0
                by_cases hz : s0 = 0
                · subst hz
                  have h2 : (ι.plus (cut pend ((stL l τ q).next + 1))).loc (stL l τ q).next 0 = some L := plus_zero (by simp [cut, hp.get])
                  rw [show ((ι.plus (cut pend ((stL l τ q).next + 1))).owned L.c (stL l τ q).next).loc (stL l τ q).next 0 = (ι.plus (cut pend ((stL l τ q).next + 1))).loc (stL l τ q).next 0 from rfl, h2] at hh; cases hh
                · simp only [Inj.commit]; rw [if_neg (fun x => hz x.2)]; exact hnone s0
          · rw [if_neg hbn] at hb
            have h := hgood.rep.blk b y' hb
            refine ⟨by simp; omega, h.2.keepS hsub (fun s0 L0 h0 => ?_) (fun _ _ _ _ => rfl) (fun cs esz log next ro hy s0 hs0 => ?_)⟩
            · simp only [Inj.commit]; rw [if_neg (hp.off _ _ _ h0)]
            · subst hy
              simp only [Inj.commit]; rw [if_neg (fun x => hbn x.1)]
              cases h.2 with | cells _ _ _ fresh => exact fresh s0 hs0
        · simp only [Inj.commit] at h0
          split at h0
          · cases h0; exact hp.lt
          · exact hgood.rep.lt _ _ _ h0
        · simp only [Inj.commit] at h0
          split at h0
          · rename_i hc; cases h0; rw [hc]; exact ⟨hp.lt, by simp⟩
          · have := hgood.rep.ownlt _ _ h0; exact ⟨this.1, by simp; omega⟩
        · simp at h0
          simp only [Inj.commit]; rw [if_neg (by omega)]; exact hgood.rep.fresh b s0 (by omega)
      have good : Good ι0 (stL l τ 0) w0 (ι.commit (stL l τ q).next L) (stL l τ (q + 1)) w := by
        rw [hst]
        refine ⟨⟨fun b s0 L0 h0 => hsub.loc _ _ _ (hgood.ext.loc _ _ _ h0), hgood.ext.sz, fun b s0 h0 hb => ?_, fun c hc => ?_, hgood.ext.csz, fun b s0 L0 h0 hc => ?_⟩, rep, hgood.pres, hgood.low, Nat.le_trans hgood.next (by simp)⟩
        · simp at hb
          simp only [Inj.commit]; rw [if_neg (by omega)]; exact hgood.ext.fresh b s0 h0 (by omega)
        · simp only [Inj.commit]; rw [if_neg (by have := hp.ge; omega)]; exact hgood.ext.own c hc
        · simp only [Inj.commit] at h0
          split at h0
          · cases h0; have := hp.ge; omega
          · exact hgood.ext.old _ _ _ h0 hc
      have hps : ∀ m, Sub (ι.plus (cut pend m)) ((ι.commit (stL l τ q).next L).plus (cut pend m)) := fun m =>
        plus_sub hsub (fun _ _ h => h) (fun b L1 L2 h1 h2 => by rw [h1] at h2; cases h2) (fun _ _ _ => rfl)
      refine ⟨ι.commit (stL l τ q).next L, hq1, fun j o' hj ha hlt => ?_, fun j o' hj ha hle hx => I.beyond j o' hj ha (by omega) hx, good, fun b L1 hpb => ?_, fun j o' s' hle hx hj ha hs' hw' => ?_, I.inj, ?_, I.ds, I.fast⟩
      · by_cases he : j = q
        · subst he; exact hXq
        · exact I.ahead j o' hj ha (by omega)
      · rw [hst]
        rcases I.keys b L1 hpb with ⟨x1, x2⟩ | ⟨j, o', s', x1, x2, x3, x4, x5, x6, x7⟩
        · exact .inl ⟨by simp; omega, hsub.loc _ _ _ x2⟩
        · by_cases he : j = q
          · subst he; subst x7
            rw [hp.get] at hpb; cases hpb
            exact .inl ⟨by simp, by simp [Inj.commit]⟩
          · exact .inr ⟨j, o', s', by omega, x2, x3, x4, x5, x6, x7⟩
      · obtain ⟨y', L', e1, hp'⟩ := I.pok j o' s' (by omega) hx hj ha hs' hw'
        have hb := hbig j hle (Nat.le_of_lt (getD_of hj).2)
        have hne : L'.c ≠ L.c := fun e => by
          have := I.inj _ _ _ _ hp'.get hp.get e; omega
        refine ⟨y', L', e1, hp'.keep hp'.get (Nat.le_refl _) ?_ (fun b s0 L0 h0 => ?_) (hps _) (fun s0 hs0 => ?_) rfl⟩
        · simp only [Inj.commit]; rw [if_neg hne]; exact hp'.own
        · simp only [Inj.commit] at h0
          split at h0
          · cases h0; exact fun e => hne e.symm
          · exact hp'.off _ _ _ h0
        · have hn := hgood.rep.fresh (stL l τ j).next s0 (by omega)
          exact ⟨hn, by simp only [Inj.commit]; rw [if_neg (fun x => hs0 x.2)]; exact hn⟩
      · refine I.fr.sub (plus_sub hsub (fun _ _ h => h) (fun b L1 L2 h1 h2 => by rw [h1] at h2; cases h2) (fun _ _ _ => rfl))
end
end Go.Lay
