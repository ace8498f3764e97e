
import Derived.Test.YtffgfojabcbegaaWC
namespace Go.Proofs.Ytffgfojabcbegaa
set_option linter.unusedVariables false
def zFL (c : Int → Cnt) : List Rec → List Lk
 | [] => []
 | r :: R => (if r.k = 2 ∧ 0 < (zCI (c r.m) r).sales then [zCI (c r.m) r] else []) ++ zFL (fun m => zCR m (c m) r) R
def okG (c : Int → Cnt) : List Rec → Bool
 | [] => true
 | r :: R => (if r.k = 2 then zKJ (c r.m) r else true) && okG (fun m => zCR m (c m) r) R
theorem zBG (c : Int → Cnt) (r : Rec) (R : List Rec) : zFL c (r :: R) = (if r.k = 2 ∧ 0 < (zCI (c r.m) r).sales then [zCI (c r.m) r] else []) ++ zFL (fun m => zCR m (c m) r) R := rfl
theorem zHA (c : Int → Cnt) (r : Rec) (R : List Rec) : okG c (r :: R) = ((if r.k = 2 then zKJ (c r.m) r else true) && okG (fun m => zCR m (c m) r) R) := rfl
def aft (c : Int → Cnt) (P : List Rec) : Int → Cnt := fun m => P.foldl (zCR m) (c m)
theorem zCD : ∀ (P Q : List Rec) (c : Int → Cnt), zFL c (P ++ Q) = zFL c P ++ zFL (aft c P) Q
 | [], Q, c => rfl
 | r :: P, Q, c => by
  rw [List.cons_append, zBG, zBG, zCD P Q, List.append_assoc]; rfl
theorem zEK : ∀ (P Q : List Rec) (c : Int → Cnt), okG c (P ++ Q) = (okG c P && okG (aft c P) Q)
 | [], Q, c => by simp [okG]; rfl
 | r :: P, Q, c => by
  rw [List.cons_append, zHA, zHA, zEK P Q, Bool.and_assoc]; rfl
theorem yAU {L : List Rec} : ∀ {i : Nat}, i ≤ L.length → xW L i = if okG (fun _ => c0) (L.take i) then some (zFL (fun _ => c0) (L.take i)) else none
 | 0, _ => rfl
 | i + 1, hi => by
  have h : L[i]? = some (L[i]'(by omega)) := by simp
  have ih := yAU (L := L) (i := i) (by omega)
  rw [zGQ h, zEK, zCD]
  have ea : ∀ m, aft (fun _ => c0) (L.take i) m = xG L m i := fun m => rfl
  show (match xW L i, L[i]? with | some o, some r => if r.k = 2 then (if zKJ (xG L r.m i) r then some (if 0 < (zCI (xG L r.m i) r).sales then o ++ [zCI (xG L r.m i) r] else o) else none) else some o | _, _ => none) = _
  rw [ih, h]
  generalize L[i]'(by omega) = r
  cases hok : okG (fun _ => c0) (L.take i) with
  | false => simp
  | true =>
   simp only [if_true, Bool.true_and]
   rw [zHA, zBG]
   simp only [ea, okG, zFL, List.append_nil, Bool.and_true]
   by_cases h2 : r.k = 2
   ·rw [if_pos h2, if_pos h2]
    by_cases hl : zKJ (xG L r.m i) r = true
    ·rw [if_pos hl, if_pos hl]
     by_cases hp : 0 < (zCI (xG L r.m i) r).sales
     ·rw [if_pos hp, if_pos ⟨h2, hp⟩]
     ·rw [if_neg hp, if_neg (fun h => hp h.2)]; simp
    ·rw [if_neg hl, if_neg hl]
   ·rw [if_neg h2, if_neg h2, if_pos rfl, if_neg (fun h => h2 h.1)]; simp
theorem yAV {L : List Rec} : vP L = if okG (fun _ => c0) L then some (zFL (fun _ => c0) L) else none := by
 unfold vP
 rw [yAU (Nat.le_refl _), List.take_length]
theorem zWH : ∀ {Q : List Rec} {c : Int → Cnt}, (∀ x ∈ Q, x.k ≠ 2) → zFL c Q = [] ∧ okG c Q = true
 | [], c, _ => ⟨rfl, rfl⟩
 | r :: Q, c, h => by
  obtain ⟨h1, h2⟩ := zWH (Q := Q) (c := fun m => zCR m (c m) r) fun x hx => h x (List.mem_cons_of_mem _ hx)
  have hr := h r List.mem_cons_self
  rw [zBG, zHA, h1, h2, if_neg (fun h => hr h.1), if_neg hr]; exact ⟨rfl, rfl⟩
theorem yUU {m : Int} : ∀ (Q : List Rec), (∀ x ∈ Q, x.k ≠ 2) → ∃ u v w : Int, ∀ c : Cnt, Q.foldl (zCR m) c = ⟨c.s, c.a, c.b, c.sales + u, c.coins + v, c.len + w⟩
 | [], _ => ⟨0, 0, 0, fun c => by simp⟩
 | r :: Q, h => by
  obtain ⟨u, v, w, hQ⟩ := yUU (m := m) Q fun x hx => h x (List.mem_cons_of_mem _ hx)
  have hr := h r List.mem_cons_self
  by_cases hm : r.m = m
  ·by_cases h0 : r.k = 0
   ·refine ⟨1 + u, r.b + v, 1 + w, fun c => ?_⟩
    rw [List.foldl_cons, hQ]
    unfold zCR
    rw [if_pos hm, if_neg hr, if_pos h0]
    simp only [Int.add_assoc]
   ·refine ⟨u, v, 1 + w, fun c => ?_⟩
    rw [List.foldl_cons, hQ]
    unfold zCR
    rw [if_pos hm, if_neg hr, if_neg h0]
    simp only [Int.add_assoc]
  ·refine ⟨u, v, w, fun c => ?_⟩
   rw [List.foldl_cons, hQ]
   unfold zCR
   rw [if_neg hm]
def zAG (g n : Rec) (e : Lk) : Bool := decide (e.m = g.m) && (decide (e.t = g.s) || decide (e.t = n.s))
def zCS (g n : Rec) (c : Int × Int) (e : Lk) : Int × Int := if zAG g n e then (c.1 + e.sales, c.2 + e.coins) else c
def zBM (g n : Rec) (both : Lk) (w : List Lk × Bool) (e : Lk) : List Lk × Bool := if zAG g n e then (if w.2 then w else (w.1 ++ [both], true)) else (w.1 ++ [e], w.2)
theorem yCQ {g n : Rec} : ∀ {X : List Lk} {c : Int × Int}, (∀ e ∈ X, zAG g n e = false) → X.foldl (zCS g n) c = c
 | [], c, _ => rfl
 | e :: X, c, h => by
  rw [List.foldl_cons]
  unfold zCS
  rw [h e List.mem_cons_self, if_neg Bool.false_ne_true]
  exact yCQ fun x hx => h x (List.mem_cons_of_mem _ hx)
theorem zUF {g n : Rec} {both : Lk} : ∀ {X : List Lk} {w : List Lk × Bool}, (∀ e ∈ X, zAG g n e = false) → X.foldl (zBM g n both) w = (w.1 ++ X, w.2)
 | [], w, _ => by simp
 | e :: X, w, h => by
  rw [List.foldl_cons]
  unfold zBM
  rw [h e List.mem_cons_self, if_neg Bool.false_ne_true]
  have := zUF (g := g) (n := n) (both := both) (X := X) (w := (w.1 ++ [e], w.2)) fun x hx => h x (List.mem_cons_of_mem _ hx)
  unfold zBM at this
  rw [this]; simp
theorem zUV : ∀ {P : List Rec} {c : Int → Cnt} {e : Lk}, e ∈ zFL c P → ∃ r ∈ P, e.m = r.m ∧ e.t = r.s
 | [], c, e, h => by simp [zFL] at h
 | r :: P, c, e, h => by
  rw [zBG] at h
  rcases List.mem_append.1 h with h | h
  ·split at h
   ·simp at h; rw [h]; exact ⟨r, List.mem_cons_self, rfl, rfl⟩
   ·cases h
  ·obtain ⟨x, hx, h2⟩ := zUV h
   exact ⟨x, List.mem_cons_of_mem _ hx, h2⟩
theorem yYQ {P Q R : List Rec} {g n : Rec} (hs : Srt (P ++ g :: (Q ++ n :: R))) (hg : g.k = 2) (hn : n.k = 2) (hm : g.m = n.m) (hQ : ∀ x ∈ Q, x.k ≠ 2) {X : List Lk} (hX : vP (P ++ g :: (Q ++ n :: R)) = some X) :
  vP (P ++ (Q ++ n :: R)) = some (X.foldl (zBM g n ⟨n.m, (zCX P g.m).s, n.s, (X.foldl (zCS g n) (0, 0)).1, (X.foldl (zCS g n) (0, 0)).2⟩) ([], false)).1 := by
 rw [yAV] at hX ⊢
 split at hX
 rotate_left
 ·cases hX
 rename_i hok
 have hX := Option.some.inj hX
 obtain ⟨cP, hcP⟩ : ∃ cP, cP = aft (fun _ => c0) P := ⟨_, rfl⟩
 have ecP : cP g.m = zCX P g.m := by rw [hcP]; rfl
 rw [zEK, ← hcP] at hok
 rw [zCD, ← hcP] at hX
 rw [zEK, ← hcP, zCD P, ← hcP]
 rw [zHA, if_pos hg] at hok
 rw [zBG] at hX
 obtain ⟨c1, hc1⟩ : ∃ c1 : Int → Cnt, c1 = fun m => zCR m (cP m) g := ⟨_, rfl⟩
 rw [← hc1] at hok hX
 obtain ⟨q1, q2⟩ := zWH (c := c1) hQ
 obtain ⟨q3, q4⟩ := zWH (c := cP) hQ
 rw [zEK, q2] at hok
 rw [zCD, q1] at hX
 rw [zEK Q, q4, zCD Q, q3]
 rw [zHA, if_pos hn] at hok ⊢
 rw [zBG] at hX ⊢
 have hsame : (fun m => zCR m (aft c1 Q m) n) = (fun m => zCR m (aft cP Q m) n) := by
  funext m
  by_cases e : n.m = m
  ·unfold zCR; rw [if_pos e, if_pos hn, if_pos e, if_pos hn]
  ·have : c1 m = cP m := by rw [hc1]; show zCR m (cP m) g = _; unfold zCR; rw [if_neg (by omega)]
   unfold aft
   rw [this]
 rw [hsame] at hok hX
 obtain ⟨u, v, w, hadd⟩ := yUU (m := n.m) Q hQ
 have e1 : c1 n.m = ⟨g.s, g.a, g.b, 0, 0, 0⟩ := by rw [hc1]; show zCR n.m (cP n.m) g = _; unfold zCR; rw [if_pos hm, if_pos hg]
 have e2 : aft c1 Q n.m = ⟨g.s, g.a, g.b, 0 + u, 0 + v, 0 + w⟩ := by unfold aft; rw [hadd, e1]
 obtain ⟨d, hd⟩ : ∃ d, d = cP g.m := ⟨_, rfl⟩
 have e3 : aft cP Q n.m = ⟨d.s, d.a, d.b, d.sales + u, d.coins + v, d.len + w⟩ := by unfold aft; rw [hadd, ← hm, hd]
 rw [e2, ← hd] at hok hX
 rw [e3]
 rw [← ecP, ← hd]
 obtain ⟨T, hT⟩ : ∃ T, T = zFL (fun m => zCR m (aft cP Q m) n) R := ⟨_, rfl⟩
 rw [← hT] at hX ⊢
 obtain ⟨S, hS⟩ : ∃ S, S = zFL (fun _ => c0) P := ⟨_, rfl⟩
 rw [← hS] at hX ⊢
 simp only [Bool.and_eq_true, Bool.true_and, List.nil_append] at hok hX ⊢
 obtain ⟨o1, o2, o3, o4⟩ := hok
 have hsp := List.pairwise_append.1 hs
 have hsg := List.pairwise_cons.1 hsp.2.1
 have hsq := List.pairwise_append.1 hsg.2
 have hsn := List.pairwise_cons.1 hsq.2.1
 have hgn : xE g n := hsg.1 n (by simp)
 have hgs : g.s < n.s := by unfold xE at hgn; omega
 have farS : ∀ e ∈ S, zAG g n e = false := fun e he => by
  rw [hS] at he
  obtain ⟨r, hr, r1, r2⟩ := zUV he
  have k1 := hsp.2.2 r hr g (by simp)
  unfold xE at k1
  unfold zAG
  simp only [Bool.and_eq_false_iff, Bool.or_eq_false_iff, decide_eq_false_iff_not]
  omega
 have farT : ∀ e ∈ T, zAG g n e = false := fun e he => by
  rw [hT] at he
  obtain ⟨r, hr, r1, r2⟩ := zUV he
  have k1 := hsn.1 r hr
  unfold xE at k1
  unfold zAG
  simp only [Bool.and_eq_false_iff, Bool.or_eq_false_iff, decide_eq_false_iff_not]
  omega
 unfold zKJ at o2 o3
 simp only [Bool.and_eq_true, decide_eq_true_eq] at o2 o3
 obtain ⟨A, hA⟩ : ∃ A, A = zCI d g := ⟨_, rfl⟩
 obtain ⟨B, hB⟩ : ∃ B, B = zCI ⟨g.s, g.a, g.b, 0 + u, 0 + v, 0 + w⟩ n := ⟨_, rfl⟩
 have hereA : zAG g n A = true := by rw [hA]; unfold zAG zCI; simp
 have hereBB : zAG g n B = true := by rw [hB]; unfold zAG zCI; simp [hm]
 have sA : A.sales = g.a - d.a - d.sales ∧ A.coins = g.b - d.b - d.coins := by rw [hA]; exact ⟨rfl, rfl⟩
 have sB : B.sales = n.a - g.a - (0 + u) ∧ B.coins = n.b - g.b - (0 + v) := by rw [hB]; exact ⟨rfl, rfl⟩
 rw [← hA] at o2 hX
 rw [← hB] at o3 hX
 obtain ⟨C, hC⟩ : ∃ C, C = zCI ⟨d.s, d.a, d.b, d.sales + u, d.coins + v, d.len + w⟩ n := ⟨_, rfl⟩
 have sC : C = ⟨n.m, d.s, n.s, A.sales + B.sales, A.coins + B.coins⟩ := by
  rw [hC, sA.1, sA.2, sB.1, sB.2]
  unfold zCI
  congr 1 <;> (simp only; omega)
 have okC : zKJ ⟨d.s, d.a, d.b, d.sales + u, d.coins + v, d.len + w⟩ n = true := by
  unfold zKJ
  rw [← hC, sC]
  simp only [Bool.and_eq_true, decide_eq_true_eq]
  omega
 rw [okC, ← hC, sC]
 rw [if_pos ⟨o1, rfl, o4⟩]
 congr 1
 have fin : ∀ (MM : List Lk), (∀ e ∈ MM, zAG g n e = true) → X = S ++ (MM ++ T) → (MM.foldl (zCS g n) (0, 0)) = (A.sales + B.sales, A.coins + B.coins) → (MM = [] ↔ ¬ 0 < A.sales + B.sales) →
   S ++ ((if n.k = 2 ∧ 0 < A.sales + B.sales then [(⟨n.m, d.s, n.s, A.sales + B.sales, A.coins + B.coins⟩ : Lk)] else []) ++ T) = (X.foldl (zBM g n ⟨n.m, d.s, n.s, (X.foldl (zCS g n) (0, 0)).1, (X.foldl (zCS g n) (0, 0)).2⟩) ([], false)).1 := by
  intro MM hMM hXe hsum hnil
  have es : X.foldl (zCS g n) (0, 0) = (A.sales + B.sales, A.coins + B.coins) := by
   rw [hXe, List.foldl_append, List.foldl_append, yCQ farS, hsum, yCQ farT]
  rw [es]
  obtain ⟨both, hboth⟩ : ∃ both : Lk, both = ⟨n.m, d.s, n.s, A.sales + B.sales, A.coins + B.coins⟩ := ⟨_, rfl⟩
  rw [← hboth]
  rw [hXe, List.foldl_append, List.foldl_append, zUF farS]
  have all : ∀ (Y : List Lk) (w : List Lk), (∀ e ∈ Y, zAG g n e = true) → Y.foldl (zBM g n both) (w, true) = (w, true) := by
   intro Y
   induction Y with
   | nil => intro w _; rfl
   | cons y Y ih =>
    intro w h
    rw [List.foldl_cons]
    have : zBM g n both (w, true) y = (w, true) := by unfold zBM; rw [h y List.mem_cons_self, if_pos rfl, if_pos rfl]
    rw [this]; exact ih w fun e he => h e (List.mem_cons_of_mem _ he)
  cases MM with
  | nil =>
   rw [if_neg (fun h => hnil.1 rfl h.2), List.foldl_nil, zUF farT]; simp
  | cons y Y =>
   have hp : 0 < A.sales + B.sales := by
    by_cases h : 0 < A.sales + B.sales
    ·exact h
    ·exact absurd (hnil.2 h) (by simp)
   rw [if_pos ⟨hn, hp⟩, List.foldl_cons]
   have : zBM g n both ([] ++ S, false) y = (S ++ [both], true) := by unfold zBM; rw [hMM y List.mem_cons_self, if_pos rfl, if_neg Bool.false_ne_true]; simp
   rw [this, all Y _ fun e he => hMM e (List.mem_cons_of_mem _ he), zUF farT]; simp
 have sumM : ∀ (c : Int × Int) (e : Lk), zAG g n e = true → zCS g n c e = (c.1 + e.sales, c.2 + e.coins) := fun c e h => by unfold zCS; rw [h, if_pos rfl]
 by_cases pA : 0 < A.sales
 ·by_cases pB : 0 < B.sales
  ·rw [if_pos ⟨hg, pA⟩, if_pos ⟨hn, pB⟩] at hX
   refine fin [A, B] (by simp [hereA, hereBB]) (by rw [← hX]; simp) ?_ (by simp; omega)
   rw [List.foldl_cons, List.foldl_cons, List.foldl_nil, sumM _ _ hereA, sumM _ _ hereBB]; simp
  ·rw [if_pos ⟨hg, pA⟩, if_neg (fun h => pB h.2)] at hX
   have hB0 : B.sales = 0 ∧ B.coins = 0 := by omega
   refine fin [A] (by simp [hereA]) (by rw [← hX]; simp) ?_ (by simp; omega)
   rw [List.foldl_cons, List.foldl_nil, sumM _ _ hereA]; simp [hB0.1, hB0.2]
 ·have hA0 : A.sales = 0 ∧ A.coins = 0 := by omega
  by_cases pB : 0 < B.sales
  ·rw [if_neg (fun h => pA h.2), if_pos ⟨hn, pB⟩] at hX
   refine fin [B] (by simp [hereBB]) (by rw [← hX]; simp) ?_ (by simp; omega)
   rw [List.foldl_cons, List.foldl_nil, sumM _ _ hereBB]; simp [hA0.1, hA0.2]
  ·rw [if_neg (fun h => pA h.2), if_neg (fun h => pB h.2)] at hX
   have hB0 : B.sales = 0 ∧ B.coins = 0 := by omega
   refine fin [] (by simp) (by rw [← hX]; simp) ?_ (by simp; omega)
   simp [hA0.1, hA0.2, hB0.1, hB0.2]
def uU (off : Nat) : List Rec → List Nat
 | [] => []
 | r :: R => (if r.k = 2 then [off] else []) ++ uU (off + 1) R
theorem zBC (off : Nat) (r : Rec) (R : List Rec) : uU off (r :: R) = (if r.k = 2 then [off] else []) ++ uU (off + 1) R := rfl
theorem zML : ∀ (P Q : List Rec) (off : Nat), uU off (P ++ Q) = uU off P ++ uU (off + P.length) Q
 | [], Q, off => by simp [uU]
 | r :: P, Q, off => by
  rw [List.cons_append, zBC, zBC, zML P Q, List.append_assoc, List.length_cons, show off + 1 + P.length = off + (P.length + 1) by omega]
theorem zXS : ∀ (P : List Rec) (off : Nat), (uU off P).length ≤ P.length
 | [], _ => Nat.le_refl _
 | r :: P, off => by
  have := zXS P (off + 1)
  rw [zBC]
  split <;> simp <;> omega
theorem zKR : ∀ {l : List Rec} {off k p : Nat}, (uU off l)[k]? = some p → ∃ P r R, l = P ++ r :: R ∧ p = off + P.length ∧ r.k = 2 ∧ uU off P = (uU off l).take k ∧ uU (p + 1) R = (uU off l).drop (k + 1)
 | [], off, k, p, h => by simp [uU] at h
 | r :: l, off, k, p, h => by
  rw [zBC] at h ⊢
  by_cases h2 : r.k = 2
  ·rw [if_pos h2] at h ⊢
   cases k with
   | zero =>
    simp at h
    exact ⟨[], r, l, rfl, by simp [h], h2, rfl, by simp [← h]⟩
   | succ k =>
    simp at h
    obtain ⟨P, x, R, e1, e2, e3, e4, e5⟩ := zKR h
    refine ⟨r :: P, x, R, by rw [e1]; rfl, by rw [e2, List.length_cons]; omega, e3, ?_, ?_⟩
    ·rw [zBC, if_pos h2, e4]; simp
    ·rw [e5]; simp
  ·rw [if_neg h2, List.nil_append] at h ⊢
   obtain ⟨P, x, R, e1, e2, e3, e4, e5⟩ := zKR h
   refine ⟨r :: P, x, R, by rw [e1]; rfl, by rw [e2, List.length_cons]; omega, e3, ?_, ?_⟩
   ·rw [zBC, if_neg h2, e4]; simp
   ·rw [e5]
theorem yKV : ∀ {l : List Rec} {off : Nat}, uU off l = [] → ∀ x ∈ l, x.k ≠ 2
 | [], _, _, x, hx => by cases hx
 | r :: l, off, h, x, hx => by
  rw [zBC] at h
  have h := List.append_eq_nil_iff.1 h
  rcases List.mem_cons.1 hx with e | e
  ·rw [e]; intro h2; rw [if_pos h2] at h; cases h.1
  ·exact yKV h.2 x e
theorem yLV {l : List Rec} {k p q : Nat} (hp : (uU 0 l)[k]? = some p) (hq : (uU 0 l)[k + 1]? = some q) : ∃ P g Q n R, l = P ++ g :: (Q ++ n :: R) ∧ P.length = p ∧ p + 1 + Q.length = q ∧ g.k = 2 ∧ n.k = 2 ∧ (∀ x ∈ Q, x.k ≠ 2) ∧ uU 0 P = (uU 0 l).take k := by
 obtain ⟨P, g, R1, e1, e2, e3, e4, e5⟩ := zKR hp
 have h0 : (uU (p + 1) R1)[0]? = some q := by rw [e5, List.getElem?_drop]; simpa using hq
 obtain ⟨Q, n, R, f1, f2, f3, f4, f5⟩ := zKR h0
 exact ⟨P, g, Q, n, R, by rw [e1, f1], by omega, by omega, e3, f3, yKV (by rw [f4]; simp), e4⟩
def zMD (l : List Rec) (m : Int) (f : Int) (i : Nat) : Int := if (l.getD i default).m = m then (l.getD i default).s else f
theorem from_law {m : Int} {l : List Rec} : ∀ {P R : List Rec}, l = P ++ R → (uU 0 P).foldl (zMD l m) 0 = (zCX P m).s := by
 have key : ∀ (n : Nat) (P R : List Rec), P.length = n → l = P ++ R → (uU 0 P).foldl (zMD l m) 0 = (zCX P m).s := by
  intro n
  induction n with
  | zero =>
   intro P R hn _
   have : P = [] := List.eq_nil_of_length_eq_zero hn
   subst this; rfl
  | succ n ih =>
   intro P R hn hl
   rcases List.eq_nil_or_concat P with rfl | ⟨P, x, rfl⟩
   ·simp at hn
   simp only [List.concat_eq_append] at *
   have ih := ih P (x :: R) (by simpa using hn) (by rw [hl]; simp)
   have hx : l.getD P.length default = x := by rw [hl]; simp
   rw [zML, List.foldl_append, ih, zJS, zBC, Nat.zero_add]
   unfold zCR
   by_cases hm : x.m = m
   ·rw [if_pos hm]
    by_cases h2 : x.k = 2
    ·rw [if_pos h2, if_pos h2]
     simp only [List.foldl_append, List.foldl_cons, List.foldl_nil, uU]
     unfold zMD
     rw [hx, if_pos hm]
    ·rw [if_neg h2, if_neg h2]
     split <;> rfl
   ·rw [if_neg hm]
    by_cases h2 : x.k = 2
    ·rw [if_pos h2]
     simp only [List.foldl_append, List.foldl_cons, List.foldl_nil, uU]
     unfold zMD
     rw [hx, if_neg hm]
    ·rw [if_neg h2]; rfl
 intro P R h
 exact key P.length P R rfl h
end Go.Proofs.Ytffgfojabcbegaa
