/-
  The map as plain functions: what its calls do, key by key; two calls that write unlike keys.
-/
import Derived.Test.YtplhcfaonhkegaaM0
namespace Go.Proofs.Ytplhcfaonhkegaa

theorem mKey_ins {x : MItem} (k : Int) : ∀ {l : List MItem}, mKey x.1 l = none → mKey k (mIns x false l) = if x.1 = k then some x.2 else mKey k l
  | [], _ => by simp [mIns, mKey]
  | y :: l, h => by
    rw [mKey] at h
    split at h
    · cases h
    · rename_i hne
      rw [mIns]
      split
      · rw [mKey]
      · rw [mKey, mKey_ins k h, mKey]
        by_cases h1 : y.1 = k
        · rw [if_pos h1, if_pos h1, if_neg (by omega)]
        · rw [if_neg h1, if_neg h1]
theorem mKey_out (k a : Int) : ∀ {l : List MItem}, mKey k (mOut a l) = if a = k then none else mKey k l
  | [] => by simp [mOut, mKey]
  | y :: l => by
    rw [mOut]
    by_cases h1 : y.1 = a
    · rw [if_pos h1, mKey_out k a, mKey]
      by_cases h2 : a = k
      · rw [if_pos h2, if_pos h2]
      · rw [if_neg h2, if_neg h2, if_neg (by omega)]
    · rw [if_neg h1, mKey, mKey_out k a, mKey]
      by_cases h3 : y.1 = k
      · rw [if_pos h3, if_pos h3, if_neg (by omega)]
      · rw [if_neg h3, if_neg h3]
theorem mKey_gt {k : Int} : ∀ {l : List MItem}, (∀ x ∈ l, k < x.1) → mKey k l = none
  | [], _ => rfl
  | y :: l, h => by
    have := h y (by simp)
    rw [mKey, if_neg (by omega), mKey_gt fun x hx => h x (List.mem_cons_of_mem _ hx)]
/-- A map is what it tells of each key. -/
theorem mOk_ext : ∀ {l m : List MItem} {p q : Option Int}, mOk p l = true → mOk q m = true → (∀ k, mKey k l = mKey k m) → l = m
  | [], [], _, _, _, _, _ => rfl
  | [], y :: m, _, _, _, _, h => by have := h y.1; simp [mKey] at this
  | x :: l, [], _, _, _, _, h => by have := h x.1; simp [mKey] at this
  | x :: l, y :: m, _, _, h1, h2, h => by
    rw [mOk_cons] at h1 h2
    have g1 := mOk_gt h1.2.2
    have g2 := mOk_gt h2.2.2
    have hx := h x.1
    have hy := h y.1
    rw [mKey, if_pos rfl, mKey] at hx
    rw [mKey, mKey, if_pos rfl] at hy
    have e1 : x.1 = y.1 := by
      rcases Int.lt_trichotomy x.1 y.1 with hlt | heq | hgt
      · rw [if_neg (by omega), mKey_gt fun z hz => by have := g2 z hz; omega] at hx
        cases hx
      · exact heq
      · rw [if_neg (by omega), mKey_gt fun z hz => by have := g1 z hz; omega] at hy
        cases hy
    rw [if_pos e1.symm] at hx
    have e2 : x = y := Prod.ext e1 (Option.some.inj hx)
    subst e2
    have : l = m := mOk_ext h1.2.2 h2.2.2 fun k => by
      by_cases hk : x.1 = k
      · subst hk
        rw [mKey_gt g1, mKey_gt g2]
      · have := h k
        rwa [mKey, mKey, if_neg hk, if_neg hk] at this
    rw [this]

/-- What a call that writes leaves of its key. -/
def mPut (c : MCall) (o : Option (List UInt8)) : Option (List UInt8) := if c.1 = 1 then (match o with | some v => some v | none => some c.2.2.2) else none
/-- What it is told. -/
def mTold (c : MCall) (o : Option (List UInt8)) : MRes := if c.1 = 1 then (if o.isSome then mErr 100 else mErr 0) else (if o.isSome then mErr 0 else mErr 101)
theorem mDone_key {c : MCall} (hc : c.1 = 1 ∨ c.1 = 2) (l : List MItem) (k : Int) : mKey k (mDone l c).1 = if c.2.1 = k then mPut c (mKey k l) else mKey k l := by
  unfold mDone mPut
  by_cases h1 : c.1 = 1
  · rw [if_pos h1]
    cases hk : mKey c.2.1 l with
    | some v =>
      simp only [Option.isSome_some, if_true, if_pos h1]
      by_cases h2 : c.2.1 = k
      · subst h2; rw [if_pos rfl, hk]
      · rw [if_neg h2]
    | none =>
      simp only [Option.isSome_none, Bool.false_eq_true, if_false, if_pos h1]
      rw [mKey_ins (x := (c.2.1, c.2.2.2)) k hk]
      by_cases h2 : c.2.1 = k
      · subst h2; simp only [if_true, hk]
      · simp only [if_neg h2]
  · have h2 : c.1 = 2 := by omega
    rw [if_neg h1, if_pos h2, if_neg h1]
    cases hk : mKey c.2.1 l with
    | some v =>
      simp only [Option.isSome_some, if_true]
      rw [mKey_out]
    | none =>
      simp only [Option.isSome_none, Bool.false_eq_true, if_false]
      by_cases h3 : c.2.1 = k
      · subst h3; rw [if_pos rfl, hk]
      · rw [if_neg h3]
theorem mDone_told {c : MCall} (hc : c.1 = 1 ∨ c.1 = 2) (l : List MItem) : (mDone l c).2 = mTold c (mKey c.2.1 l) := by
  unfold mDone mTold
  by_cases h1 : c.1 = 1
  · rw [if_pos h1, if_pos h1]; split <;> rfl
  · have h2 : c.1 = 2 := by omega
    rw [if_neg h1, if_pos h2, if_neg h1]; split <;> rfl
theorem writes_of {c : MCall} (h : mWrites c = true) : c.1 = 1 ∨ c.1 = 2 := by
  unfold mWrites at h; simpa using h
/-- Two calls that write unlike keys. -/
theorem mDone_swap {a b : MCall} {l : List MItem} (ha : mWrites a = true) (hb : mWrites b = true) (hca : mCallOk a = true) (hcb : mCallOk b = true) (hne : a.2.1 ≠ b.2.1) (hl : mOk none l = true) :
    (mDone (mDone l a).1 b).1 = (mDone (mDone l b).1 a).1 ∧ (mDone (mDone l a).1 b).2 = (mDone l b).2 ∧ (mDone (mDone l b).1 a).2 = (mDone l a).2 := by
  have wa := writes_of ha
  have wb := writes_of hb
  refine ⟨mOk_ext (mDone_ok (mDone_ok hl hca) hcb) (mDone_ok (mDone_ok hl hcb) hca) fun k => ?_, ?_, ?_⟩
  · rw [mDone_key wb, mDone_key wa, mDone_key wa, mDone_key wb]
    by_cases h1 : a.2.1 = k
    · have h2 : b.2.1 ≠ k := by omega
      rw [if_pos h1, if_neg h2, if_neg h2, if_pos h1]
    · rw [if_neg h1, if_neg h1]
  · rw [mDone_told wb, mDone_told wb, mDone_key wa, if_neg hne]
  · rw [mDone_told wa, mDone_told wa, mDone_key wb, if_neg (Ne.symm hne)]

/-- What is not written stays. -/
theorem mDone_reads {l : List MItem} {c : MCall} (h : mWrites c = false) : (mDone l c).1 = l := by
  unfold mWrites at h
  simp at h
  unfold mDone
  rw [if_neg h.1, if_neg h.2]
theorem mDone_other {l : List MItem} {c : MCall} {k : Int} (h : k ≠ c.2.1) : mKey k (mDone l c).1 = mKey k l := by
  by_cases hw : mWrites c = true
  · rw [mDone_key (writes_of hw), if_neg (Ne.symm h)]
  · rw [mDone_reads (by simpa using hw)]
theorem mDone_err {l : List MItem} {c : MCall} (h : (mDone l c).2.1 ≠ 0) : (mDone l c).1 = l := by
  unfold mDone at h ⊢
  split
  · rename_i h1
    rw [if_pos h1] at h
    split
    · rfl
    · rename_i h2
      rw [if_neg h2] at h
      exact absurd rfl h
  · rename_i h1
    rw [if_neg h1] at h
    split
    · rename_i h2
      rw [if_pos h2] at h
      split
      · rename_i h3
        rw [if_pos h3] at h
        exact absurd rfl h
      · rfl
    · rfl
/-- Put, and taken out again. -/
theorem mDone_back {l : List MItem} {c : MCall} (hl : mOk none l = true) (hc : mCallOk c = true) (h1 : c.1 = 1) (h0 : (mDone l c).2.1 = 0) :
    (mDone (mDone l c).1 (2, c.2.1, 0, [])).1 = l ∧ (mDone (mDone l c).1 (2, c.2.1, 0, [])).2.1 = 0 := by
  have hn : mKey c.2.1 l = none := by
    cases hk : mKey c.2.1 l with
    | none => rfl
    | some v =>
      rw [mDone_told (.inl h1), mTold, if_pos h1, hk] at h0
      simp [mErr] at h0
  have hk : mKey c.2.1 (mDone l c).1 = some c.2.2.2 := by
    rw [mDone_key (.inl h1), if_pos rfl, hn]
    simp [mPut, h1]
  refine ⟨mOk_ext (mDone_ok (mDone_ok hl hc) (by simp [mCallOk])) hl fun k => ?_, ?_⟩
  · rw [mDone_key (.inr rfl), mDone_key (.inl h1)]
    by_cases h2 : c.2.1 = k
    · subst h2
      simp [mPut, hn]
    · simp only [if_neg h2]
  · rw [mDone_told (.inr rfl), mTold, if_neg (by simp)]
    simp only [hk]
    rfl

/-- Ranges, part by part. -/
theorem mBetween_app (a b : Int) : ∀ (l m : List MItem), mBetween a b (l ++ m) = mBetween a b l ++ mBetween a b m
  | [], m => rfl
  | x :: l, m => by
    rw [List.cons_append, mBetween, mBetween, mBetween_app a b l m]
    split <;> rfl
theorem mBetween_len (a b : Int) (l : List MItem) : (mBetween a b l).length ≤ l.length := by
  induction l with
  | nil => simp [mBetween]
  | cons x l ih => rw [mBetween]; split <;> simp <;> omega
end Go.Proofs.Ytplhcfaonhkegaa
