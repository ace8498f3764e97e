/- Maps; all operations that look at memory. -/
import Derived.Test.YthcdddbghldmiaaLayMem2
set_option linter.unusedVariables false
set_option linter.unusedSimpArgs false
namespace Go.Lay
open Go
section
variable {P : Program} {ι : Inj} {σ : St} {w : World}

/-- The entries on both sides. -/
structure EntR (ι : Inj) (es : List (Value × Value)) (es' : List MapEntry) : Prop where
  size : es.length = es'.length
  ent : ∀ (i : Nat) e, es[i]? = some e → ∃ e', es'[i]? = some e' ∧ e'.key = e.1 ∧ VR ι e.2 e'.val

theorem EntR.tail {e : Value × Value} {es : List (Value × Value)} {e' : MapEntry} {es' : List MapEntry} (h : EntR ι (e :: es) (e' :: es')) : EntR ι es es' :=
  ⟨by simpa using h.size, fun i x hx => by simpa using h.ent (i + 1) x (by simpa using hx)⟩
theorem EntR.head {e : Value × Value} {es : List (Value × Value)} {e' : MapEntry} {es' : List MapEntry} (h : EntR ι (e :: es) (e' :: es')) : e'.key = e.1 ∧ VR ι e.2 e'.val := by
  obtain ⟨x, h1, h2⟩ := h.ent 0 e (by simp)
  simp at h1; subst h1; exact h2

theorem equalIn_int {kt : TypeId} {q : IntKind} (hd : P.underlying kt = some (.int q)) (n : Nat) (k : IntKind) (a b : Int) (w : World) : (Op.equalIn (n + 1) kt (.int k a) (.int k b)).run P w = .ok (a == b) w := by
  simp [Op.equalIn, run_underlying hd]
theorem equalIn_string {kt : TypeId} (hd : P.underlying kt = some .string) (n : Nat) (a b : ByteArray) (w : World) : (Op.equalIn (n + 1) kt (.string a) (.string b)).run P w = .ok (a == b) w := by
  simp [Op.equalIn, run_underlying hd]
theorem equalIn_bool {kt : TypeId} (hd : P.underlying kt = some .bool) (n : Nat) (a b : Bool) (w : World) : (Op.equalIn (n + 1) kt (.bool a) (.bool b)).run P w = .ok (a == b) w := by
  simp [Op.equalIn, run_underlying hd]
theorem checkKey_none {kt : TypeId} (hd : P.underlying kt = none) (n : Nat) (e : Bool) (k : Value) (w : World) : (Instr.checkKey e (n + 1) kt k).run P w = .halt (.stuck "no such type") w := by
  simp [Instr.checkKey, underlying, hd]

theorem sameNow_equal {kt : TypeId} {d : TypeDesc} {k k' : Value} {b b' : Bool} (hd : P.underlying kt = some d) (h : Instr.sameNow d k k' = some b) (h' : pureVal P (Op.equal kt k k') = some b') : b = b' := by
  have hr := run_pureVal _ h' default
  unfold Instr.sameNow at h
  split at h
  · rename_i k1 ka a kb b1
    split at h
    · rename_i hk; subst hk
      have h2 : (Op.equal kt (.int ka a) (.int ka b1)).run P default = .ok (a == b1) default := equalIn_int hd 9999 ka a b1 default
      rw [h2] at hr
      cases h; cases hr; rfl
    · cases h
  · rename_i s1 s2
    have h2 : (Op.equal kt (.string s1) (.string s2)).run P default = .ok (s1 == s2) default := equalIn_string hd 9999 s1 s2 default
    rw [h2] at hr
    cases h; cases hr; rfl
  · rename_i s1 s2
    have h2 : (Op.equal kt (.bool s1) (.bool s2)).run P default = .ok (s1 == s2) default := equalIn_bool hd 9999 s1 s2 default
    rw [h2] at hr
    cases h; cases hr; rfl
  · cases h

/-- What a search for a key comes to. -/
def Found (es' : List MapEntry) (i0 : Nat) : Option Nat → Option (Nat × Value) → Prop
  | none, r => r = none
  | some j, r => ∃ e', es'[j - i0]? = some e' ∧ i0 ≤ j ∧ r = some (j, e'.val)

theorem findAsking_run {kt : TypeId} {k : Value} : ∀ (es : List (Value × Value)) (es' : List MapEntry) (i : Nat) (r : Option Nat), keyIdx P kt k es i = some r → EntR ι es es' →
    ∃ r', (∀ w, (Instr.findAsking kt k es' i).run P w = .ok r' w) ∧ Found es' i r r'
  | [], [], i, r, h, _ => by simp [keyIdx] at h; subst h; exact ⟨none, fun w => rfl, rfl⟩
  | [], _ :: _, _, _, _, h => by have := h.size; simp at this
  | _ :: _, [], _, _, _, h => by have := h.size; simp at this
  | (k0, v0) :: es, e' :: es', i, r, h, hE => by
    obtain ⟨hk, hv⟩ := hE.head
    simp only at hk
    simp only [keyIdx] at h
    cases hp : pureVal P (Op.equal kt k k0) with
    | none => simp [hp] at h
    | some b =>
      have hrun := run_pureVal _ hp
      rw [hp] at h
      cases b with
      | true =>
        simp at h; subst h
        exact ⟨some (i, e'.val), fun w => by simp [Instr.findAsking, hk, hrun], ⟨e', by simp, Nat.le_refl _, rfl⟩⟩
      | false =>
        simp only at h
        obtain ⟨r', h1, h2⟩ := findAsking_run es es' (i + 1) r h hE.tail
        refine ⟨r', fun w => by simp [Instr.findAsking, hk, hrun, h1], ?_⟩
        cases r with
        | none => exact h2
        | some j =>
          obtain ⟨x, a1, a2, a3⟩ := h2
          exact ⟨x, by rw [show j - i = (j - (i + 1)) + 1 by omega]; simpa using a1, by omega, a3⟩

theorem findNow_eq {kt : TypeId} {d : TypeDesc} {k : Value} (hd : P.underlying kt = some d) : ∀ (es : List (Value × Value)) (es' : List MapEntry) (i : Nat) (r : Option Nat) (q : Option (Nat × Value)),
    keyIdx P kt k es i = some r → EntR ι es es' → Instr.findNow d k es' i = some q → Found es' i r q
  | [], [], i, r, q, h, _, hq => by simp [keyIdx] at h; subst h; simp [Instr.findNow] at hq; exact hq.symm
  | [], _ :: _, _, _, _, _, h, _ => by have := h.size; simp at this
  | _ :: _, [], _, _, _, _, h, _ => by have := h.size; simp at this
  | (k0, v0) :: es, e' :: es', i, r, q, h, hE, hq => by
    obtain ⟨hk, hv⟩ := hE.head
    simp only at hk
    simp only [keyIdx] at h
    simp only [Instr.findNow, hk] at hq
    cases hp : pureVal P (Op.equal kt k k0) with
    | none => simp [hp] at h
    | some b =>
      rw [hp] at h
      cases hs : Instr.sameNow d k k0 with
      | none => simp [hs] at hq
      | some b' =>
        have := sameNow_equal hd hs hp; subst this
        rw [hs] at hq
        cases b' with
        | true => simp at h hq; subst h; subst hq; exact ⟨e', by simp, Nat.le_refl _, rfl⟩
        | false =>
          simp only at h hq
          have h2 := findNow_eq hd es es' (i + 1) r q h hE.tail hq
          cases r with
          | none => exact h2
          | some j =>
            obtain ⟨x, a1, a2, a3⟩ := h2
            exact ⟨x, by rw [show j - i = (j - (i + 1)) + 1 by omega]; simpa using a1, by omega, a3⟩

theorem findKey_run {kt : TypeId} {d : TypeDesc} {k : Value} {es : List (Value × Value)} {es' : List MapEntry} {r : Option Nat} (hd : P.underlying kt = some d) (h : keyIdx P kt k es 0 = some r) (hE : EntR ι es es') :
    ∃ r', (∀ w, (Instr.findKey kt k es').run P w = .ok r' w) ∧ Found es' 0 r r' := by
  cases hq : Instr.findNow d k es' 0 with
  | some q => exact ⟨q, fun w => by simp [Instr.findKey, run_underlying hd, hq], findNow_eq hd es es' 0 r q h hE hq⟩
  | none =>
    obtain ⟨r', h1, h2⟩ := findAsking_run es es' 0 r h hE
    exact ⟨r', fun w => by simp [Instr.findKey, run_underlying hd, hq, h1], h2⟩

theorem keyOk_run {empty : Bool} {kt : TypeId} {k : Value} (h : keyOk P empty kt k = true) : rigidB RD k = true ∧ (∀ w, (Instr.checkKey empty 10000 kt k).run P w = .ok () w) ∧ ∃ d, P.underlying kt = some d := by
  unfold keyOk at h
  simp only [Bool.and_eq_true] at h
  obtain ⟨h1, h2⟩ := h
  cases hp : pureVal P (Instr.checkKey empty 10000 kt k) with
  | none => simp [hp] at h2
  | some u =>
    have hr := run_pureVal _ hp
    refine ⟨h1, hr, ?_⟩
    cases hd : P.underlying kt with
    | some d => exact ⟨d, rfl⟩
    | none =>
      have h3 : (Instr.checkKey empty 10000 kt k).run P default = .halt (.stuck "no such type") default := checkKey_none hd 9999 empty k default
      rw [hr default] at h3; cases h3

theorem mapOf_some {t : TypeId} {k e : TypeId} (h : mapOf P t = some (k, e)) : P.underlying t = some (.map k e) := by
  unfold mapOf at h; split at h <;> simp_all

theorem mapBlk {b : Nat} {es : List (Value × Value)} {L : Loc} (hr : Rep ι σ w) (hb : getB σ.heap b = some (.map es)) (hl : ι.loc b 0 = some L) :
    ∃ arr clock, w.heap[L.c]? = some (.map arr clock) ∧ EntR ι es arr.toList ∧ ι.own L.c = some b := by
  cases (hr.blk _ _ hb).2 with
  | map loc own row size ents =>
    rw [hl] at loc; cases loc
    exact ⟨_, _, row, ⟨by simp [size], fun i e he => by obtain ⟨e', a1, a2, a3⟩ := ents i e he; exact ⟨e', by simpa using a1, a2, a3⟩⟩, own⟩

theorem run_getObj_map {c : Nat} {arr : Array MapEntry} {clock : Nat} (h : w.heap[c]? = some (.map arr clock)) : (getObj c).run P w = .ok (.map arr clock) w := by
  simp [getObj, Sem.run, h]

theorem loadRow_sound {a : Addr} {n : Nat} {cs : List Value} {L : Loc} (h : readRow σ a n = some cs) (hr : Rep ι σ w) (hl : ι.loc a.block (stampOf a) = some L) (hlo : L.lo ≤ a.off) :
    ∃ cs', cs.length = n ∧ VRs ι cs cs' ∧ (loadCells (L.at a.off) n).run P w = .ok ⟨cs'⟩ w := by
  obtain ⟨cs', h1, h2, h3⟩ := readRow_sound h hr hl hlo
  have := run_loadCells_list (P := P) (w := w) (L.at a.off) cs' h3
  rw [← h2.length, h1] at this
  exact ⟨cs', h1, h2, this⟩
/-- Where nothing is read, any address will do. -/
theorem loadRow_at {a A : Addr} {n : Nat} {cs : List Value} {L : Loc} (h : readRow σ a n = some cs) (hr : Rep ι σ w) (hl : ι.loc a.block (stampOf a) = some L) (hlo : L.lo ≤ a.off) (hA : A = L.at a.off ∨ n = 0) :
    ∃ cs', cs.length = n ∧ VRs ι cs cs' ∧ (loadCells A n).run P w = .ok ⟨cs'⟩ w := by
  rcases hA with rfl | rfl
  · exact loadRow_sound h hr hl hlo
  · obtain ⟨cs', h1, h2, _⟩ := loadRow_sound (P := P) h hr hl hlo
    have : cs' = [] := List.eq_nil_of_length_eq_zero (by rw [← h2.length, h1])
    subst this
    exact ⟨[], h1, h2, by simp [loadCells, loadCellsFrom]⟩
theorem bytesA_run {cap : Nat} {c : Addr} {len : Nat} {cs cs' : List Value} {bs : List UInt8} (hb : bytesA cs = some bs) (hv : VRs ι cs cs') (hl : (loadCells c len).run P w = .ok ⟨cs'⟩ w) :
    (Conv.bytesToString (.slice (some c) len cap)).run P w = .ok (.string ⟨⟨bs⟩⟩) w := by
  unfold Conv.bytesToString
  simp only [Sem.run_bind, hl, Result.andThen_ok]
  have key : ∀ (cs cs' : List Value) (bs : List UInt8) (s : ByteArray), bytesA cs = some bs → VRs ι cs cs' →
      ∀ (f : Value → ByteArray → Sem (ForInStep ByteArray)), (∀ n s, f (.int .u8 n) s = pure (.yield (s.push (UInt8.ofNat n.toNat)))) →
      (forIn cs' s f : Sem ByteArray).run P w = .ok ⟨⟨s.data.toList ++ bs⟩⟩ w := by
    intro cs
    induction cs with
    | nil =>
      intro cs' bs s hb hv f hf
      cases hv
      simp [bytesA] at hb; subst hb
      simp
    | cons c cs ih =>
      intro cs' bs s hb hv f hf
      cases hv with
      | cons h1 h2 =>
        unfold bytesA at hb
        split at hb
        · cases ‹_ :: _ = []›
        · rename_i n l heq
          cases heq
          split at hb
          · rename_i bs' hbs
            simp at hb; subst hb
            have := h1.int_inv; subst this
            rw [List.forIn_cons, hf, pure_bind]
            have hx := ih _ _ (s.push (UInt8.ofNat n.toNat)) hbs h2 f hf
            simp only at hx ⊢
            rw [hx]
            simp [ByteArray.push]
          · cases hb
        · cases hb
  have := key cs cs' bs ByteArray.empty hb hv
  simp only [List.forIn_toArray]
  rw [this _ (fun n s => rfl)]
  rfl
theorem lookOp_sound {o : Oper} {ev ev' : Operand → Value} {v : Value} (hz : zeroOk P) (h : lookOp P ev σ o.op = some v) (hr : Rep ι σ w) (hev : ∀ x ∈ o.op.operands, VR ι (ev x) (ev' x)) :
    ∃ v', (execOp ev' o).run P w = .ok (.value v') w ∧ VR ι v v' := by
  unfold lookOp at h
  split at h
  · -- load
    rename_i t a ho
    have ha := hev a (by simp [ho, Op.operands])
    split at h
    · rename_i a0 ha0
      rw [ha0] at ha
      obtain ⟨L, hl, hlo, e⟩ := ha.ptr_inv
      obtain ⟨v', h1, h2⟩ := loadA_sound h hr hl hlo
      exact ⟨v', by simp [execOp, ho, e, Instr.loadAt, Instr.sureAddr, h1], h2⟩
    · cases h
  · -- slice
    rename_i t x lo hi mx ho
    have optR : ∀ (q : Option Operand), (∀ y, q = some y → y ∈ o.op.operands) → OptR ι (q.map ev) (q.map ev') := by
      intro q hq
      cases q with
      | none => exact ⟨fun x hx => by simp at hx, fun _ => rfl⟩
      | some y => exact ⟨fun x hx => by simp at hx; subst hx; exact ⟨ev' y, rfl, hev y (hq y rfl)⟩, fun h => by simp at h⟩
    obtain ⟨v', h1, h2⟩ := sliceA_sound (P := P) h hr (hev x (by simp [ho, Op.operands]))
      (optR lo (fun y hy => by simp [ho, Op.operands, hy])) (optR hi (fun y hy => by simp [ho, Op.operands, hy])) (optR mx (fun y hy => by simp [ho, Op.operands, hy]))
    exact ⟨v', by simp [execOp, ho, h1], h2⟩
  · -- lookup
    rename_i t m i ok ho
    have hm := hev m (by simp [ho, Op.operands])
    have hi := hev i (by simp [ho, Op.operands])
    cases hmo : mapOf P t with
    | none => simp [hmo] at h
    | some ke =>
      obtain ⟨kt, et⟩ := ke
      have hd := mapOf_some hmo
      simp only [hmo] at h
      cases hze : zeroT P et with
      | none => simp [hze] at h
      | some z =>
        simp only [hze] at h
        have hzr : VR ι z z := .refl_rigid _ (hz et z hze)
        have fin : ∀ {u u' : Value} {b : Bool}, VR ι u u' → VR ι (bif ok then .tuple ⟨[u, .bool b]⟩ else u) (if ok then .tuple #[u', .bool b] else u') := by
          intro u u' b hu
          cases ok
          · exact hu
          · exact .tuple' (.cons hu (.cons (.bool b) .nil))
        split at h
        · rename_i hm0
          rw [hm0] at hm
          have e := hm.map_none
          cases hk : keyOk P true kt (ev i) with
          | false => rw [hk, cond_false] at h; cases h
          | true =>
            rw [hk, cond_true] at h
            simp at h; subst h
            obtain ⟨k1, k2, d, hkd⟩ := keyOk_run hk
            have ei := hi.rigid _ k1
            rw [ei] at k2
            refine ⟨_, ?_, fin hzr⟩
            simp [execOp, ho, e, Instr.lookup, run_underlying hd, k2, Instr.findKey, run_underlying hkd, Instr.findNow, run_zeroT hze]
        · rename_i r hm0
          rw [hm0] at hm
          obtain ⟨L, hl, e⟩ := hm.map_inv
          split at h
          · rename_i es hb
            obtain ⟨arr, clock, hrow, hE, _⟩ := mapBlk hr hb hl
            cases hk : keyOk P es.isEmpty kt (ev i) with
            | false => rw [hk, cond_false] at h; cases h
            | true =>
              rw [hk, cond_true] at h
              obtain ⟨k1, k2, d, hkd⟩ := keyOk_run hk
              have ei := hi.rigid _ k1
              have hem : arr.isEmpty = es.isEmpty := by
                have := hE.size
                cases es with
                | nil => simp at this; simp [Array.isEmpty, this.symm]
                | cons x es => simp at this; simp [Array.isEmpty, ← this]
              rw [ei] at k2 h
              cases hkx : keyIdx P kt (ev' i) es 0 with
              | none => simp [hkx] at h
              | some r0 =>
                rw [hkx] at h
                obtain ⟨r', f1, f2⟩ := findKey_run hkd hkx hE
                cases r0 with
                | none =>
                  simp at h; subst h
                  have : r' = none := f2
                  subst this
                  refine ⟨_, ?_, fin hzr⟩
                  simp [execOp, ho, e, Instr.lookup, run_underlying hd, run_getObj_map hrow, hem, k2, f1, run_zeroT hze]
                | some j =>
                  obtain ⟨e1, g1, _, g2⟩ := f2
                  simp only at h
                  cases hej : es[j]? with
                  | none => simp [hej] at h
                  | some x =>
                    simp [hej] at h; subst h
                    obtain ⟨e2, q1, q2, q3⟩ := hE.ent j x hej
                    rw [show j - 0 = j from rfl] at g1
                    rw [q1] at g1; cases g1
                    subst g2
                    refine ⟨_, ?_, fin q3⟩
                    simp [execOp, ho, e, Instr.lookup, run_underlying hd, run_getObj_map hrow, hem, k2, f1]
          · cases h
        · cases h
  · -- len of a map
    rename_i c ho
    have hargs := ev_list c.args.toList (ev := ev) (ev' := ev') (fun x hx => hev x (by simp [ho, Op.operands, Call.operands] at hx ⊢; exact .inr hx))
    have eargs : c.args.map ev' = (⟨c.args.toList.map ev'⟩ : Array Value) := by apply Array.ext'; simp
    split at h
    · rename_i hcal
      split at h
      · rename_i t x l ht hl
        rw [hl] at hargs
        have ht0 : c.argTypes[0]? = some t := by simpa using ht
        split at h
        · rename_i ke r hmo
          obtain ⟨kt, et⟩ := ke
          have hd := mapOf_some hmo
          split at h
          · rename_i es hb
            simp at h; subst h
            generalize hl' : c.args.toList.map ev' = l' at hargs eargs
            cases hargs with
            | cons hx hrest =>
              rename_i x' rest'
              obtain ⟨L, hl0, rfl⟩ := hx.map_inv
              obtain ⟨arr, clock, hrow, hE, _⟩ := mapBlk hr hb hl0
              refine ⟨goInt es.length, ?_, .int _ _⟩
              have hsz : arr.size = es.length := by have := hE.size; simpa using this.symm
              simp only [execOp, ho, resolve, hcal, eargs]
              simp [invoke, builtin, Builtin.len_, ht0, run_underlying hd, run_getObj_map hrow, hsz]
          · cases h
        · cases h
      · cases h
    · cases h
  · -- convert: bytes to a string
    rename_i s d x ho
    have hx := hev x (by simp [ho, Op.operands])
    split at h
    · rename_i e hs hd
      split at h
      · rename_i a len cp he hxv
        rw [hxv] at hx
        obtain ⟨L, c', A, hl, hlo, hA, _, _, e'⟩ := hx.slice_inv
        split at h
        · rename_i cs hrr
          split at h
          · rename_i bs hbs
            simp at h; subst h
            obtain ⟨cs', h1, h2, h3⟩ := loadRow_at (P := P) hrr hr hl hlo (hA.imp id (·.1))
            exact ⟨_, by simp [execOp, ho, e', convert, run_underlying hs, run_underlying hd, run_underlying he, bytesA_run hbs h2 h3], .atom rfl⟩
          · cases h
        · cases h
      · cases h
    · cases h
  · cases h
end
end Go.Lay
