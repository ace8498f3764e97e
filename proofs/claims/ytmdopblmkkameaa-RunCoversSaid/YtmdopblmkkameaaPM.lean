
namespace Go.Proofs.Ytmdopblmkkameaa
def yZ : Nat → (Nat → Bool) → Nat
 | 0, _ => 0
 | n + 1, P => yZ n P + (P n).toNat
section
variable {n m : Nat} {P Q : Nat → Bool}
theorem zDL : ∀ {n : Nat}, (∀ k, k < n → P k = Q k) → yZ n P = yZ n Q
 | 0, _ => rfl
 | n + 1, h => by rw [yZ, yZ, zDL (n := n) (fun k hk => h k (by omega)), h n (by omega)]
theorem cntN_le : ∀ {n : Nat}, (∀ k, k < n → P k = true → Q k = true) → yZ n P ≤ yZ n Q
 | 0, _ => Nat.le_refl _
 | n + 1, h => by
  have h1 := cntN_le (n := n) (fun k hk => h k (by omega))
  have h2 := h n (by omega)
  rw [yZ, yZ]
  cases hp : P n with
  | false => simp; omega
  | true => rw [h2 hp]; simp; omega
theorem cntN_zero : ∀ {n : Nat}, (∀ k, k < n → P k = false) → yZ n P = 0
 | 0, _ => rfl
 | n + 1, h => by rw [yZ, cntN_zero (n := n) (fun k hk => h k (by omega)), h n (by omega)]; rfl
theorem cntN_not : ∀ {n : Nat}, yZ n P + yZ n (fun k => !P k) = n
 | 0 => rfl
 | n + 1 => by
  have := cntN_not (n := n)
  rw [yZ, yZ]
  cases P n <;> simp <;> omega
theorem zFG : ∀ {n : Nat}, yZ n P = yZ n (fun k => P k && Q k) + yZ n (fun k => P k && !Q k)
 | 0 => rfl
 | n + 1 => by
  have := zFG (n := n)
  rw [yZ, yZ, yZ]
  cases P n <;> cases Q n <;> simp <;> omega
theorem zDK {j : Nat} (hj : j < m) (h : Q j = true) : yZ m Q = yZ m (fun i => Q i && !Nat.beq i j) + 1 := by
 rw [zFG (P := Q) (Q := fun i => !Nat.beq i j)]
 congr 1
 have : ∀ m, j < m → yZ m (fun i => Q i && !!Nat.beq i j) = 1 := by
  intro m
  induction m with
  | zero => intro h; omega
  | succ m ih =>
   intro hm
   rw [yZ]
   by_cases e : m = j
   ·subst e
    rw [cntN_zero (fun k hk => by
     have : Nat.beq k m = false := by rw [Bool.eq_false_iff]; intro e; have := Nat.eq_of_beq_eq_true e; omega
     rw [this]; simp), h, Nat.beq_refl]; rfl
   ·have : Nat.beq m j = false := by rw [Bool.eq_false_iff]; intro e2; exact e (Nat.eq_of_beq_eq_true e2)
    rw [ih (by omega), this]; simp
 exact this m hj
theorem zDW {f : Nat → Nat} : ∀ {n : Nat} {Q : Nat → Bool}, (∀ k, k < n → P k = true → f k < m ∧ Q (f k) = true) → (∀ k k', k < n → k' < n → P k = true → P k' = true → f k = f k' → k = k') → yZ n P ≤ yZ m Q
 | 0, _, _, _ => Nat.zero_le _
 | n + 1, Q, h1, h2 => by
  rw [yZ]
  cases hp : P n with
  | false =>
   have := zDW (n := n) (Q := Q) (fun k hk => h1 k (by omega)) (fun k k' hk hk' => h2 k k' (by omega) (by omega))
   simpa using this
  | true =>
   obtain ⟨h3, h4⟩ := h1 n (by omega) hp
   have := zDW (n := n) (Q := fun i => Q i && !Nat.beq i (f n)) (fun k hk hpk => by
    obtain ⟨a, b⟩ := h1 k (by omega) hpk
    refine ⟨a, ?_⟩
    have : Nat.beq (f k) (f n) = false := by
     rw [Bool.eq_false_iff]; intro e
     have := h2 k n (by omega) (by omega) hpk hp (Nat.eq_of_beq_eq_true e)
     omega
    rw [b, this]; rfl) (fun k k' hk hk' => h2 k k' (by omega) (by omega))
   rw [zDK h3 h4]
   simpa using this
end
structure Mt (n : Nat) (E : Nat → Nat → Prop) (nx bf : Nat → Int) : Prop where
 b1 : ∀ k, k < n → bf k ≠ -1 → ∃ i : Nat, i < n ∧ bf k = i ∧ E i k ∧ nx i = k
 n1 : ∀ i, i < n → nx i ≠ -1 → ∃ k : Nat, k < n ∧ nx i = k ∧ bf k = i
structure MtH (n : Nat) (E : Nat → Nat → Prop) (H : Nat → Prop) (nx bf : Nat → Int) (tr : Nat → Bool) : Prop where
 b1 : ∀ k, k < n → bf k ≠ -1 → ∃ i : Nat, i < n ∧ bf k = i ∧ E i k ∧ (¬ H i → nx i = k)
 n1 : ∀ i, i < n → ¬ H i → nx i ≠ -1 → ∃ k : Nat, k < n ∧ nx i = k ∧ bf k = i
 tr1 : ∀ k, k < n → ∀ i : Nat, bf k = i → H i → tr k = true
structure Dead (n : Nat) (E : Nat → Nat → Prop) (bf : Nat → Int) (L T : Nat → Prop) : Prop where
 out : ∀ i k, i < n → k < n → L i → E i k → T k
 back : ∀ k, k < n → T k → ∃ j : Nat, j < n ∧ bf k = j ∧ L j
structure GiveQ (n : Nat) (E : Nat → Nat → Prop) (H : Nat → Prop) (i : Nat) (nx bf : Nat → Int) (tr : Nat → Bool) (r : Bool) (nx' bf' : Nat → Int) (tr' : Nat → Bool) : Prop where
 mono : ∀ k, tr k = true → tr' k = true
 dead : ∀ L T, Dead n E bf L T → (L i → r = false) ∧ ∀ k, k < n → T k → bf' k = bf k
 no : r = false → nx' = nx ∧ bf' = bf ∧ (∀ k, k < n → E i k → tr' k = true) ∧ ∀ k, k < n → tr' k = true → tr k = false → ∃ j : Nat, j < n ∧ bf k = j ∧ ∀ k', k' < n → E j k' → tr' k' = true
 yes : r = true → MtH n E (fun j => H j ∨ j = i) nx' bf' tr' ∧ (∃ k : Nat, k < n ∧ nx' i = k ∧ bf' k = i ∧ E i k ∧ tr k = false) ∧ (∀ k, k < n → bf' k = i → nx' i = k ∨ tr k = true) ∧ (∀ k, tr k = true → bf' k = bf k) ∧ (∀ k, k < n → ∀ i' : Nat, H i' → bf' k = i' → bf k = i') ∧ ∀ j, j < n → (nx j ≠ -1 → nx' j ≠ -1) ∧ (j ≠ i → nx j = -1 → nx' j = -1)
structure GInv (n : Nat) (E : Nat → Nat → Prop) (H : Nat → Prop) (i : Nat) (nx bf : Nat → Int) (tr0 tr : Nat → Bool) (D : Nat → Prop) : Prop where
 nh : ¬ H i
 mt : MtH n E (fun j => H j ∨ j = i) nx bf tr
 mono : ∀ k, tr0 k = true → tr k = true
 done : ∀ k, k < n → D k → E i k → tr k = true
 cls : ∀ k, k < n → tr k = true → tr0 k = false → ∃ j : Nat, j < n ∧ bf k = j ∧ ∀ k', k' < n → E j k' → tr k' = true
def vI (tr : Nat → Bool) (k : Nat) : Nat → Bool := fun j => if j = k then true else tr j
def zIW (f : Nat → Int) (k : Nat) (v : Int) : Nat → Int := fun j => if j = k then v else f j
@[simp] theorem xH {f : Nat → Int} {k : Nat} {v : Int} : zIW f k v k = v := by simp [zIW]
theorem yV {f : Nat → Int} {k j : Nat} {v : Int} (h : j ≠ k) : zIW f k v j = f j := by simp [zIW, h]
@[simp] theorem zAJ {f : Nat → Bool} {k : Nat} : vI f k k = true := by simp [vI]
theorem zCI {f : Nat → Bool} {k j : Nat} (h : j ≠ k) : vI f k j = f j := by simp [vI, h]
theorem uT {f : Nat → Bool} {k j : Nat} (h : f j = true) : vI f k j = true := by unfold vI; split <;> simp [h]
section
variable {n : Nat} {E : Nat → Nat → Prop} {H : Nat → Prop} {i : Nat} {nx bf nx' bf' : Nat → Int} {tr0 tr tr' : Nat → Bool} {D D' : Nat → Prop}
theorem MtH.trm {tr' : Nat → Bool} (h : MtH n E H nx bf tr) (k : ∀ k, tr k = true → tr' k = true) : MtH n E H nx bf tr' := ⟨h.b1, h.n1, fun j hj i hi hh => k _ (h.tr1 j hj i hi hh)⟩
theorem GInv.start (hi : ¬ H i) (h : MtH n E (fun j => H j ∨ j = i) nx bf tr0) : GInv n E H i nx bf tr0 tr0 (fun _ => False) := ⟨hi, h, fun _ h => h, fun _ _ h => h.elim, fun k _ h1 h2 => by rw [h1] at h2; cases h2⟩
theorem GInv.skip (h : GInv n E H i nx bf tr0 tr D) (hD : ∀ k, D' k → D k ∨ tr k = true ∨ ¬ E i k) : GInv n E H i nx bf tr0 tr D' :=
 ⟨h.nh, h.mt, h.mono, fun k hk hd he => by rcases hD k hd with h1 | h1 | h1; exact h.done k hk h1 he; exact h1; exact absurd he h1, h.cls⟩
theorem GInv.no (h : GInv n E H i nx bf tr0 tr D) (hD : ∀ k, k < n → E i k → D k) : GiveQ n E H i nx bf tr0 false nx bf tr :=
 ⟨h.mono, fun L T _ => ⟨fun _ => rfl, fun _ _ _ => rfl⟩, fun _ => ⟨rfl, rfl, fun k hk he => h.done k hk (hD k hk he) he, h.cls⟩, fun e => by cases e⟩
theorem GInv.free (h : GInv n E H i nx bf tr0 tr D) (hi : i < n) {k : Nat} (hk : k < n) (he : E i k) (ht : tr k = false) (hb : bf k = -1) :
  GiveQ n E H i nx bf tr0 true (zIW nx i k) (zIW bf k i) (vI tr k) := by
 have t0 : tr0 k = false := by
  cases e : tr0 k with
  | false => rfl
  | true => rw [h.mono k e] at ht; cases ht
 have hne : ∀ j, tr0 j = true → j ≠ k := by rintro j hj rfl; rw [t0] at hj; cases hj
 refine ⟨fun j hj => uT (h.mono j hj), fun L T hd => ⟨fun hL => ?_, fun j hj hT => ?_⟩, fun e => (by cases e), fun _ => ⟨⟨fun j hj hbj => ?_, fun j hj hH hn => ?_, fun j hj i' hb' hH => ?_⟩, ⟨k, hk, xH, xH, he, t0⟩, fun j hj hbj => ?_, fun j hj => yV (hne j hj), fun j hj i' hH hb' => ?_, fun j hj => ⟨fun hn => ?_, fun hne hn => by rw [yV hne]; exact hn⟩⟩⟩
 ·obtain ⟨j, _, h2, _⟩ := hd.back k hk (hd.out i k hi hk hL he)
  omega
 ·refine yV ?_
  rintro rfl
  obtain ⟨j', _, h2, _⟩ := hd.back j hj hT
  omega
 ·by_cases e : j = k
  ·subst e
   exact ⟨i, hi, xH, he, fun hn => absurd (.inr rfl) hn⟩
  ·rw [yV e] at hbj ⊢
   obtain ⟨i', h1, h2, h3, h4⟩ := h.mt.b1 j hj hbj
   exact ⟨i', h1, h2, h3, fun hH => by rw [yV (fun e => hH (.inr e))]; exact h4 hH⟩
 ·have hji : j ≠ i := fun e => hH (.inr e)
  rw [yV hji] at hn
  obtain ⟨k', h1, h2, h3⟩ := h.mt.n1 j hj hH hn
  refine ⟨k', h1, by rw [yV hji]; exact h2, ?_⟩
  rw [yV (fun e => by subst e; omega)]; exact h3
 ·by_cases e : j = k
  ·subst e; exact zAJ
  ·rw [yV e] at hb'
   exact uT (h.mt.tr1 j hj i' hb' hH)
 ·by_cases e : j = k
  ·subst e; exact .inl xH
  ·rw [yV e] at hbj
   have h1 := h.mt.tr1 j hj i hbj (.inr rfl)
   cases e0 : tr0 j with
   | true => exact .inr rfl
   | false =>
    obtain ⟨j', h2, h3, h4⟩ := h.cls j hj h1 e0
    have : j' = i := by omega
    subst this
    have := h4 k hk he
    rw [ht] at this; cases this
 ·by_cases e : j = k
  ·subst e
   rw [xH] at hb'
   have : i = i' := by omega
   subst this; exact absurd hH h.nh
  ·rw [yV e] at hb'; exact hb'
 ·by_cases e : j = i
  ·subst e; rw [xH]; omega
  ·rw [yV e]; exact hn
theorem GInv.ask (h : GInv n E H i nx bf tr0 tr D) {k j : Nat} (hk : k < n) (ht : tr k = false) (hb : bf k = j) (hj : j < n) :
  ¬ (H j ∨ j = i) ∧ nx j = k ∧ MtH n E (fun j' => (H j' ∨ j' = i) ∨ j' = j) nx bf (vI tr k) := by
 have h0 : ¬ (H j ∨ j = i) := fun hH => by rw [h.mt.tr1 k hk j hb hH] at ht; cases ht
 obtain ⟨i', h1, h2, h3, h4⟩ := h.mt.b1 k hk (by omega)
 have : i' = j := by omega
 subst this
 refine ⟨h0, h4 h0, ⟨fun k' hk' hb' => ?_, fun i2 hi2 hH hn => h.mt.n1 i2 hi2 (fun x => hH (.inl x)) hn, fun k' hk' i2 hb' hH => ?_⟩⟩
 ·obtain ⟨i2, a1, a2, a3, a4⟩ := h.mt.b1 k' hk' hb'
  exact ⟨i2, a1, a2, a3, fun hH => a4 (fun x => hH (.inl x))⟩
 ·rcases hH with hH | rfl
  ·exact uT (h.mt.tr1 k' hk' i2 hb' hH)
  ·obtain ⟨i3, a1, a2, a3, a4⟩ := h.mt.b1 k' hk' (by omega)
   have : i3 = i2 := by omega
   subst this
   have := a4 h0
   have := h4 h0
   have : k' = k := by omega
   subst this; exact zAJ
theorem GInv.next (h : GInv n E H i nx bf tr0 tr D) {k j : Nat} (hk : k < n) (hb : bf k = j) (hj : j < n) (hQ : GiveQ n E (fun j' => H j' ∨ j' = i) j nx bf (vI tr k) false nx' bf' tr') :
  nx' = nx ∧ bf' = bf ∧ GInv n E H i nx bf tr0 tr' (fun k' => D k' ∨ k' = k) := by
 obtain ⟨e1, e2, h3, h4⟩ := hQ.no rfl
 have hm : ∀ k', tr k' = true → tr' k' = true := fun k' h' => hQ.mono k' (uT h')
 refine ⟨e1, e2, h.nh, h.mt.trm hm, fun k' h' => hm k' (h.mono k' h'), fun k' hk' hd he => ?_, fun k' hk' ht' h0 => ?_⟩
 ·rcases hd with hd | rfl
  ·exact hm k' (h.done k' hk' hd he)
  ·exact hQ.mono k' zAJ
 ·cases e : tr k' with
  | true =>
   obtain ⟨j', a1, a2, a3⟩ := h.cls k' hk' e h0
   exact ⟨j', a1, a2, fun k2 hk2 he => hm k2 (a3 k2 hk2 he)⟩
  | false =>
   by_cases ek : k' = k
   ·subst ek
    exact ⟨j, hj, hb, h3⟩
   ·exact h4 k' hk' ht' (by rw [zCI ek]; exact e)
theorem GInv.yes (h : GInv n E H i nx bf tr0 tr D) (hi : i < n) {k j : Nat} (hk : k < n) (he : E i k) (ht : tr k = false) (hb : bf k = j) (hj : j < n)
  (hQ : GiveQ n E (fun j' => H j' ∨ j' = i) j nx bf (vI tr k) true nx' bf' tr') : GiveQ n E H i nx bf tr0 true (zIW nx' i k) (zIW bf' k i) tr' := by
 obtain ⟨q1, ⟨k1, q2, q3, q4, q5, q6⟩, q7, q8, q10, q9⟩ := hQ.yes rfl
 obtain ⟨a1, a2, a3⟩ := h.ask hk ht hb hj
 have t0 : tr0 k = false := by
  cases e : tr0 k with
  | false => rfl
  | true => rw [h.mono k e] at ht; cases ht
 have hm : ∀ k', tr k' = true → tr' k' = true := fun k' h' => hQ.mono k' (uT h')
 have hkk : k1 ≠ k := by rintro rfl; rw [zAJ] at q6; cases q6
 have hji : j ≠ i := fun e => a1 (.inr e)
 have hbk : bf' k = j := by rw [q8 k zAJ]; exact hb
 have hgj : ∀ k', k' < n → k' ≠ k → bf' k' = j → nx' j = k' := fun k' hk' hne hb' => by
  rcases q7 k' hk' hb' with h1 | h1
  ·exact h1
  ·rw [q8 k' h1] at hb'
   obtain ⟨i3, b1, b2, b3, b4⟩ := h.mt.b1 k' hk' (by omega)
   have e3 : i3 = j := by omega
   have := b4 (by rw [e3]; exact a1)
   rw [e3] at this
   omega
 have hne0 : ∀ j', tr0 j' = true → j' ≠ k := by rintro j' hj' rfl; rw [t0] at hj'; cases hj'
 refine ⟨fun k' h' => hm k' (h.mono k' h'), fun L T hd => ?_, fun e => (by cases e), fun _ => ⟨⟨fun k' hk' hbk' => ?_, fun i' hi' hH hn => ?_, fun k' hk' i' hb' hH => ?_⟩, ⟨k, hk, xH, xH, he, t0⟩, fun k' hk' hb' => ?_, fun k' h' => ?_, fun k' hk' i' hH hb' => ?_, fun j' hj' => ⟨fun hn => ?_, fun hne hn => ?_⟩⟩⟩
 ·obtain ⟨d1, d2⟩ := hQ.dead L T hd
  have hTk : ¬ T k := fun hT => by
   obtain ⟨j', b1, b2, b3⟩ := hd.back k hk hT
   have : j' = j := by omega
   subst this
   have := d1 b3; cases this
  exact ⟨fun hL => absurd (hd.out i k hi hk hL he) hTk, fun k' hk' hT => by
   rw [yV (fun e => hTk (by rw [← e]; exact hT))]; exact d2 k' hk' hT⟩
 ·by_cases ek : k' = k
  ·subst ek
   exact ⟨i, hi, xH, he, fun hH => absurd (.inr rfl) hH⟩
  ·rw [yV ek] at hbk' ⊢
   obtain ⟨i', b1, b2, b3, b4⟩ := q1.b1 k' hk' hbk'
   refine ⟨i', b1, b2, b3, fun hH => ?_⟩
   have hii : i' ≠ i := fun e => hH (.inr e)
   rw [yV hii]
   by_cases ej : i' = j
   ·subst ej; exact hgj k' hk' ek b2
   ·exact b4 (fun hx => by rcases hx with hx | hx; exact hH hx; exact ej hx)
 ·have hii : i' ≠ i := fun e => hH (.inr e)
  rw [yV hii] at hn ⊢
  by_cases ej : i' = j
  ·subst ej
   exact ⟨k1, q2, q3, by rw [yV hkk]; exact q4⟩
  ·obtain ⟨k', b1, b2, b3⟩ := q1.n1 i' hi' (fun hx => by rcases hx with hx | hx; exact hH hx; exact ej hx) hn
   refine ⟨k', b1, b2, ?_⟩
   rw [yV (fun e => by subst e; omega)]; exact b3
 ·by_cases ek : k' = k
  ·subst ek; exact hQ.mono k' zAJ
  ·rw [yV ek] at hb'
   exact q1.tr1 k' hk' i' hb' (.inl hH)
 ·by_cases ek : k' = k
  ·subst ek; exact .inl xH
  ·rw [yV ek] at hb'
   have h0 := q10 k' hk' i (.inr rfl) hb'
   have h1 := h.mt.tr1 k' hk' i h0 (.inr rfl)
   cases e0 : tr0 k' with
   | true => exact .inr rfl
   | false =>
    obtain ⟨j', b2, b3, b4⟩ := h.cls k' hk' h1 e0
    have : j' = i := by omega
    subst this
    have := b4 k hk he
    rw [ht] at this; cases this
 ·rw [yV (hne0 k' h')]
  exact q8 k' (uT (h.mono k' h'))
 ·by_cases ek : k' = k
  ·subst ek
   rw [xH] at hb'
   have : i = i' := by omega
   subst this; exact absurd hH h.nh
  ·rw [yV ek] at hb'; exact q10 k' hk' i' (.inl hH) hb'
 ·by_cases e : j' = i
  ·subst e; rw [xH]; omega
  ·rw [yV e]; exact (q9 j' hj').1 hn
 ·rw [yV hne]
  refine (q9 j' hj').2 ?_ hn
  rintro rfl
  omega
theorem top_start (h : Mt n E nx bf) (hi : nx i = -1) : MtH n E (fun j => False ∨ j = i) nx bf (fun _ => false) :=
 ⟨fun k hk hb => by obtain ⟨i', h1, h2, h3, h4⟩ := h.b1 k hk hb; exact ⟨i', h1, h2, h3, fun _ => h4⟩, fun i' hi' _ hn => h.n1 i' hi' hn, fun k hk i' hb hH => by
  rcases hH with hH | rfl
  ·exact hH.elim
  ·obtain ⟨i2, h1, h2, h3, h4⟩ := h.b1 k hk (by omega)
   have : i2 = i' := by omega
   subst this; omega⟩
theorem top_yes (h : GiveQ n E (fun _ => False) i nx bf (fun _ => false) true nx' bf' tr') : Mt n E nx' bf' := by
 obtain ⟨q1, ⟨k1, q2, q3, q4, q5, q6⟩, q7, q8, q10, q9⟩ := h.yes rfl
 refine ⟨fun k hk hb => ?_, fun j hj hn => ?_⟩
 ·obtain ⟨j, a1, a2, a3, a4⟩ := q1.b1 k hk hb
  refine ⟨j, a1, a2, a3, ?_⟩
  by_cases e : j = i
  ·subst e
   rcases q7 k hk a2 with h1 | h1
   ·exact h1
   ·cases h1
  ·exact a4 (fun hx => by rcases hx with hx | hx; exact hx; exact e hx)
 ·by_cases e : j = i
  ·subst e; exact ⟨k1, q2, q3, q4⟩
  ·exact q1.n1 j hj (fun hx => by rcases hx with hx | hx; exact hx; exact e hx) hn
theorem Dead.same {L T : Nat → Prop} (h : Dead n E bf L T) (k : ∀ k, k < n → T k → bf' k = bf k) : Dead n E bf' L T :=
 ⟨h.out, fun j hj hT => by rw [k j hj hT]; exact h.back j hj hT⟩
theorem Dead.more {L T : Nat → Prop} (h : Dead n E bf L T) (hi : i < n) (k : GiveQ n E (fun _ => False) i nx bf (fun _ => false) false nx' bf' tr') :
  Dead n E bf (fun j => L j ∨ j = i ∨ ∃ k, k < n ∧ tr' k = true ∧ bf k = j) (fun k => T k ∨ tr' k = true) := by
 obtain ⟨e1, e2, h3, h4⟩ := k.no rfl
 refine ⟨fun j k hj hk hL he => ?_, fun k hk hT => ?_⟩
 ·rcases hL with hL | rfl | ⟨k', hk', ht, hb⟩
  ·exact .inl (h.out _ _ hj hk hL he)
  ·exact .inr (h3 _ hk he)
  ·obtain ⟨j', a1, a2, a3⟩ := h4 k' hk' ht rfl
   have : j' = j := by omega
   subst this
   exact .inr (a3 k hk he)
 ·rcases hT with hT | hT
  ·obtain ⟨j, a1, a2, a3⟩ := h.back k hk hT
   exact ⟨j, a1, a2, .inl a3⟩
  ·obtain ⟨j, a1, a2, a3⟩ := h4 k hk hT rfl
   exact ⟨j, a1, a2, .inr (.inr ⟨k, hk, hT, a2⟩)⟩
structure BestTo (n : Nat) (E : Nat → Nat → Prop) (S : Nat → Bool) (i : Nat) (nx bf : Nat → Int) : Prop where
 mt : Mt n E nx bf
 rest : ∀ j, j < n → i ≤ j → nx j = -1
 dead : ∃ L T, Dead n E bf L T ∧ ∀ j, j < n → j < i → S j = true → nx j = -1 → L j
theorem BestTo.start (S : Nat → Bool) : BestTo n E S 0 (fun _ => -1) (fun _ => -1) :=
 ⟨⟨fun _ _ h => absurd rfl h, fun _ _ h => absurd rfl h⟩, fun _ _ _ => rfl, fun _ => False, fun _ => False, ⟨fun _ _ _ _ h _ => h.elim, fun _ _ h => h.elim⟩, fun j _ h => by omega⟩
theorem BestTo.skip {S : Nat → Bool} (h : BestTo n E S i nx bf) (hs : S i = false) : BestTo n E S (i + 1) nx bf := by
 obtain ⟨L, T, h1, h2⟩ := h.dead
 refine ⟨h.mt, fun j hj hi => h.rest j hj (by omega), L, T, h1, fun j hj hi hS hn => h2 j hj ?_ hS hn⟩
 by_cases e : j = i
 ·subst e; rw [hs] at hS; cases hS
 ·omega
theorem BestTo.step {S : Nat → Bool} {r : Bool} (h : BestTo n E S i nx bf) (hi : i < n) (k : GiveQ n E (fun _ => False) i nx bf (fun _ => false) r nx' bf' tr') : BestTo n E S (i + 1) nx' bf' := by
 obtain ⟨L, T, h1, h2⟩ := h.dead
 cases r with
 | true =>
  have hm := top_yes k
  obtain ⟨q1, ⟨k1, q2, q3, q4, q5, q6⟩, q7, q8, q10, q9⟩ := k.yes rfl
  refine ⟨hm, fun j hj hij => (q9 j hj).2 (by omega) (h.rest j hj (by omega)), L, T, h1.same (k.dead L T h1).2, fun j hj hij hS hn => ?_⟩
  by_cases e : j = i
  ·subst e; omega
  ·refine h2 j hj (by omega) hS ?_
   apply Classical.byContradiction
   intro hc
   exact (q9 j hj).1 hc hn
 | false =>
  obtain ⟨rfl, rfl, _, _⟩ := k.no rfl
  refine ⟨h.mt, fun j hj hij => h.rest j hj (by omega), _, _, h1.more hi k, fun j hj hij hS hn => ?_⟩
  by_cases e : j = i
  ·exact .inr (.inl e)
  ·exact .inl (h2 j hj (by omega) hS hn)
def uM (f : Nat → Int) (k : Nat) : Bool := !decide (f k = -1)
theorem xU {f : Nat → Int} {k : Nat} : uM f k = true ↔ f k ≠ -1 := by simp [uM]
theorem Mt.cnt (h : Mt n E nx bf) : yZ n (uM bf) = yZ n (uM nx) := by
 apply Nat.le_antisymm
 ·refine zDW (f := fun k => (bf k).toNat) (fun k hk hp => ?_) (fun k k' hk hk' hp hp' e => ?_)
  ·obtain ⟨i, h1, h2, h3, h4⟩ := h.b1 k hk (xU.1 hp)
   have : (bf k).toNat = i := by omega
   rw [this]
   exact ⟨h1, xU.2 (by omega)⟩
  ·obtain ⟨i, h1, h2, h3, h4⟩ := h.b1 k hk (xU.1 hp)
   obtain ⟨i', h1', h2', h3', h4'⟩ := h.b1 k' hk' (xU.1 hp')
   have e : (bf k).toNat = (bf k').toNat := e
   have : i = i' := by omega
   subst this; omega
 ·refine zDW (f := fun k => (nx k).toNat) (fun k hk hp => ?_) (fun k k' hk hk' hp hp' e => ?_)
  ·obtain ⟨i, h1, h2, h3⟩ := h.n1 k hk (xU.1 hp)
   have : (nx k).toNat = i := by omega
   rw [this]
   exact ⟨h1, xU.2 (by omega)⟩
  ·obtain ⟨i, h1, h2, h3⟩ := h.n1 k hk (xU.1 hp)
   obtain ⟨i', h1', h2', h3'⟩ := h.n1 k' hk' (xU.1 hp')
   have e : (nx k).toNat = (nx k').toNat := e
   have : i = i' := by omega
   subst this; omega
theorem Mt.cover {A B : Nat → Bool} (h : Mt n E nx bf) (hc : ∀ i k, i < n → k < n → E i k → A i = true ∨ B k = true) : yZ n (uM bf) ≤ yZ n A + yZ n B := by
 rw [zFG (P := uM bf) (Q := fun k => !B k)]
 have h1 : yZ n (fun k => uM bf k && !!B k) ≤ yZ n B := cntN_le (fun k _ hp => by simp at hp; exact hp.2)
 have h2 : yZ n (fun k => uM bf k && !B k) ≤ yZ n A := by
  refine zDW (f := fun k => (bf k).toNat) (fun k hk hp => ?_) (fun k k' hk hk' hp hp' e => ?_)
  ·simp only [Bool.and_eq_true, Bool.not_eq_true'] at hp
   obtain ⟨i, h1, h2, h3, h4⟩ := h.b1 k hk (xU.1 hp.1)
   have : (bf k).toNat = i := by omega
   rw [this]
   refine ⟨h1, ?_⟩
   rcases hc i k h1 hk h3 with hx | hx
   ·exact hx
   ·rw [hp.2] at hx; cases hx
  ·simp only [Bool.and_eq_true, Bool.not_eq_true'] at hp hp'
   obtain ⟨i, h1, h2, h3, h4⟩ := h.b1 k hk (xU.1 hp.1)
   obtain ⟨i', h1', h2', h3', h4'⟩ := h.b1 k' hk' (xU.1 hp'.1)
   have e : (bf k).toNat = (bf k').toNat := e
   have : i = i' := by omega
   subst this; omega
 omega
theorem BestTo.cover {S : Nat → Bool} (h : BestTo n E S n nx bf) (hE : ∀ i k, i < n → k < n → E i k → S i = true) :
  ∃ A B : Nat → Bool, (∀ i k, i < n → k < n → E i k → A i = true ∨ B k = true) ∧ yZ n A + yZ n B ≤ yZ n (uM bf) := by
 obtain ⟨L, T, h1, h2⟩ := h.dead
 have : ∀ i, Decidable (L i) := fun i => Classical.propDecidable _
 have : ∀ i, Decidable (T i) := fun i => Classical.propDecidable _
 refine ⟨fun i => S i && !decide (L i), fun k => decide (T k), fun i k hi hk he => ?_, ?_⟩
 ·by_cases hL : L i
  ·exact .inr (by simpa using h1.out i k hi hk hL he)
  ·exact .inl (by simp [hE i k hi hk he, hL])
 ·rw [h.mt.cnt, zFG (P := uM nx) (Q := fun i => !decide (L i))]
  have h3 : yZ n (fun i => S i && !decide (L i)) ≤ yZ n (fun i => uM nx i && !decide (L i)) := cntN_le (fun i hi hp => by
   simp only [Bool.and_eq_true, Bool.not_eq_true', decide_eq_false_iff_not] at hp ⊢
   exact ⟨xU.2 (fun e => hp.2 (h2 i hi hi hp.1 e)), hp.2⟩)
  have h4 : yZ n (fun k => decide (T k)) ≤ yZ n (fun i => uM nx i && !!decide (L i)) := by
   refine zDW (f := fun k => (bf k).toNat) (fun k hk hp => ?_) (fun k k' hk hk' hp hp' e => ?_)
   ·obtain ⟨j, a1, a2, a3⟩ := h1.back k hk (by simpa using hp)
    obtain ⟨j', b1, b2, b3, b4⟩ := h.mt.b1 k hk (by omega)
    have e1 : (bf k).toNat = j := by omega
    have e2 : j' = j := by omega
    subst e2
    rw [e1]
    refine ⟨a1, ?_⟩
    have : nx j' ≠ -1 := by omega
    simp [uM, this, a3]
   ·obtain ⟨j, a1, a2, a3⟩ := h1.back k hk (by simpa using hp)
    obtain ⟨j', b1, b2, b3, b4⟩ := h.mt.b1 k hk (by omega)
    obtain ⟨i, a1', a2', a3'⟩ := h1.back k' hk' (by simpa using hp')
    obtain ⟨i', b1', b2', b3', b4'⟩ := h.mt.b1 k' hk' (by omega)
    have e : (bf k).toNat = (bf k').toNat := e
    have e1 : j' = i' := by omega
    subst e1; omega
  omega
theorem BestTo.max {S : Nat → Bool} (h : BestTo n E S n nx bf) (hE : ∀ i k, i < n → k < n → E i k → S i = true) (k : Mt n E nx' bf') : yZ n (uM bf') ≤ yZ n (uM bf) := by
 obtain ⟨A, B, h1, h2⟩ := h.cover hE
 exact Nat.le_trans (k.cover h1) h2
structure IsMax (n : Nat) (E : Nat → Nat → Prop) (m : Nat) : Prop where
 at_ : ∃ nx bf, Mt n E nx bf ∧ yZ n (uM bf) = m
 le : ∀ nx bf, Mt n E nx bf → yZ n (uM bf) ≤ m
theorem BestTo.isMax {S : Nat → Bool} (h : BestTo n E S n nx bf) (hE : ∀ i k, i < n → k < n → E i k → S i = true) : IsMax n E (yZ n (uM bf)) := ⟨⟨nx, bf, h.mt, rfl⟩, fun _ _ k => h.max hE k⟩
end
end Go.Proofs.Ytmdopblmkkameaa
