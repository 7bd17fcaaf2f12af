/-
  The map that clients see, as plain functions; what its calls do, by the place of a key.
-/
import Derived.Test.YtplhcfaonhkegaaB
namespace Go.Proofs.Ytplhcfaonhkegaa

abbrev MItem := Int × List UInt8
abbrev MCall := Int × (Int × (Int × List UInt8))
abbrev MRef := Int × ((Int × Int) × (Int × Int))
abbrev MRes := Int × (Int × (List UInt8 × (List MItem × (MRef × (MRef × Bool)))))

def r0 : MRef := (0, (0, 0), (0, 0))
def mErr (e : Int) : MRes := (e, 0, [], [], r0, r0, false)

/-- Is it a map, behind a key? -/
def mOk : Option Int → List MItem → Bool
  | _, [] => true
  | p, x :: l => decide (x.2.length ≤ 1024) && ((match p with | none => true | some q => decide (q < x.1)) && mOk (some x.1) l)
def mCheck (l : List MItem) : Int := if mOk none l then 0 else 103
def mCallOk (c : MCall) : Bool :=
  if c.1 = 1 then decide (c.2.2.2.length ≤ 1024) && decide (c.2.2.1 = 0)
  else if c.1 = 2 ∨ c.1 = 3 ∨ c.1 = 4 then decide (c.2.2.2.length = 0) && decide (c.2.2.1 = 0)
  else if c.1 = 5 then decide (c.2.2.2.length = 0) else false
def mCall (c : MCall) : Int := if mCallOk c then 0 else 104
def mWrites (c : MCall) : Bool := c.1 == 1 || c.1 == 2
def mKey (k : Int) : List MItem → Option (List UInt8)
  | [] => none
  | x :: l => if x.1 = k then some x.2 else mKey k l
def mIns (x : MItem) : Bool → List MItem → List MItem
  | true, l => l
  | false, [] => [x]
  | false, y :: l => if x.1 < y.1 then x :: y :: l else y :: mIns x false l
def mOut (k : Int) : List MItem → List MItem
  | [] => []
  | y :: l => if y.1 = k then mOut k l else y :: mOut k l
def mBetween (a b : Int) : List MItem → List MItem
  | [] => []
  | y :: l => if a ≤ y.1 ∧ y.1 ≤ b then y :: mBetween a b l else mBetween a b l
def mHigh (c : MCall) : Int := if c.1 = 5 then c.2.2.1 else if c.1 = 4 then 18446744073709551615 else c.2.1
def mAsked (l : List MItem) (c : MCall) : MRes :=
  if c.1 = 5 then (if 64 < (mBetween c.2.1 (mHigh c) l).length then mErr 102 else (0, 0, [], mBetween c.2.1 (mHigh c) l, r0, r0, false))
  else match mBetween c.2.1 (mHigh c) l with
    | [] => mErr 101
    | x :: _ => (0, x.1, x.2, [], r0, r0, true)
def mDone (l : List MItem) (c : MCall) : List MItem × MRes :=
  if c.1 = 1 then (if (mKey c.2.1 l).isSome then (l, mErr 100) else (mIns (c.2.1, c.2.2.2) false l, mErr 0))
  else if c.1 = 2 then (if (mKey c.2.1 l).isSome then (mOut c.2.1 l, mErr 0) else (l, mErr 101))
  else (l, mAsked l c)
def mDo (l : List MItem) (c : MCall) : List MItem × (MRes × Int) :=
  if mOk none l then (if mCallOk c then ((mDone l c).1, (mDone l c).2, 0) else ([], mErr 0, 104)) else ([], mErr 0, 103)
def mRunFrom (l : List MItem) (out : List MRes) : List MCall → List MItem × (List MRes × Int)
  | [] => (l, out, 0)
  | c :: cs => if mCallOk c then mRunFrom (mDone l c).1 (out ++ [(mDone l c).2]) cs else (l, out, 104)
def mRun (l : List MItem) (cs : List MCall) : List MItem × (List MRes × Int) := if mOk none l then mRunFrom l [] cs else ([], [], 103)

/-- How many keys are below one. -/
def mPlace (k : Int) (l : List MItem) : Nat := l.countP fun x => decide (x.1 < k)

theorem mOk_cons {p : Option Int} {x : MItem} {l : List MItem} : mOk p (x :: l) = true ↔ x.2.length ≤ 1024 ∧ (∀ q, p = some q → q < x.1) ∧ mOk (some x.1) l = true := by
  cases p <;> simp [mOk]
theorem mOk_mono {p q : Int} (h : q ≤ p) : ∀ {l : List MItem}, mOk (some p) l = true → mOk (some q) l = true
  | [], _ => rfl
  | x :: l, hl => by
    rw [mOk_cons] at hl ⊢
    exact ⟨hl.1, fun r hr => (by cases hr; have := hl.2.1 p rfl; omega), hl.2.2⟩
theorem mOk_none {p : Int} : ∀ {l : List MItem}, mOk (some p) l = true → mOk none l = true
  | [], _ => rfl
  | x :: l, hl => by
    rw [mOk_cons] at hl ⊢
    exact ⟨hl.1, fun r hr => (by cases hr), hl.2.2⟩
theorem mOk_gt {p : Int} : ∀ {l : List MItem}, mOk (some p) l = true → ∀ x ∈ l, p < x.1
  | [], _, x, hx => by cases hx
  | y :: l, hl, x, hx => by
    rw [mOk_cons] at hl
    rcases List.mem_cons.1 hx with rfl | hx
    · exact hl.2.1 p rfl
    · have := mOk_gt hl.2.2 x hx
      have := hl.2.1 p rfl
      omega
theorem mOk_len : ∀ {p : Option Int} {l : List MItem}, mOk p l = true → ∀ x ∈ l, x.2.length ≤ 1024
  | _, [], _, x, hx => by cases hx
  | p, y :: l, hl, x, hx => by
    rw [mOk_cons] at hl
    rcases List.mem_cons.1 hx with rfl | hx
    · exact hl.1
    · exact mOk_len hl.2.2 x hx

theorem mPlace_le (k : Int) (l : List MItem) : mPlace k l ≤ l.length := List.countP_le_length
theorem mPlace_cons (k : Int) (x : MItem) (l : List MItem) : mPlace k (x :: l) = mPlace k l + (if x.1 < k then 1 else 0) := by
  unfold mPlace; rw [List.countP_cons]; simp
theorem mPlace_zero {k : Int} {l : List MItem} (h : ∀ x ∈ l, k ≤ x.1) : mPlace k l = 0 := by
  unfold mPlace
  rw [List.countP_eq_zero]
  intro x hx
  have := h x hx
  simp; omega
/-- Ahead of its place all keys are below, behind it none is. -/
theorem mPlace_cut (k : Int) : ∀ {p : Option Int} {l : List MItem}, mOk p l = true → (∀ x ∈ l.take (mPlace k l), x.1 < k) ∧ (∀ x ∈ l.drop (mPlace k l), k ≤ x.1)
  | _, [], _ => by simp
  | p, y :: l, h => by
    rw [mOk_cons] at h
    rw [mPlace_cons]
    by_cases hy : y.1 < k
    · rw [if_pos hy]
      have := mPlace_cut k h.2.2
      simp only [List.take_succ_cons, List.drop_succ_cons, List.mem_cons]
      exact ⟨fun x hx => hx.elim (fun e => e ▸ hy) (this.1 x), this.2⟩
    · rw [if_neg hy]
      have h0 : mPlace k l = 0 := mPlace_zero fun x hx => by have := mOk_gt h.2.2 x hx; omega
      rw [h0]
      simp only [Nat.add_zero, List.take_zero, List.drop_zero, List.mem_cons]
      exact ⟨fun x hx => (by cases hx), fun x hx => hx.elim (fun e => by subst e; omega) (fun e => by have := mOk_gt h.2.2 x e; omega)⟩
/-- Which places are below. -/
theorem mPlace_lt {k : Int} {p : Option Int} {l : List MItem} (h : mOk p l = true) (i : Nat) (hi : i < l.length) : l[i].1 < k ↔ i < mPlace k l := by
  obtain ⟨h1, h2⟩ := mPlace_cut k h
  constructor
  · intro hlt
    rcases Nat.lt_or_ge i (mPlace k l) with h' | h'
    · exact h'
    · have : l[i] ∈ l.drop (mPlace k l) := by
        rw [List.mem_drop_iff_getElem]
        exact ⟨i - mPlace k l, by omega, by congr 1; omega⟩
      have := h2 _ this
      omega
  · intro hlt
    refine h1 _ ?_
    rw [List.mem_take_iff_getElem]
    exact ⟨i, by omega, rfl⟩

/-- Is a key there, at its place? -/
def mThere (k : Int) (l : List MItem) : Bool := match l[mPlace k l]? with | some x => decide (x.1 = k) | none => false

theorem mKey_there {k : Int} : ∀ {p : Option Int} {l : List MItem}, mOk p l = true → (mKey k l).isSome = mThere k l
  | _, [], _ => by simp [mKey, mThere]
  | p, y :: l, h => by
    have h' := h
    rw [mOk_cons] at h
    have ih := mKey_there (k := k) h.2.2
    unfold mThere
    rw [mPlace_cons, mKey]
    by_cases h1 : y.1 < k
    · rw [if_pos h1, if_neg (by omega)]
      rw [ih, mThere]
      simp
    · rw [if_neg h1]
      have h0 : mPlace k l = 0 := mPlace_zero fun x hx => by have := mOk_gt h.2.2 x hx; omega
      rw [h0]
      simp only [Nat.add_zero, List.getElem?_cons_zero]
      by_cases h2 : y.1 = k
      · simp [h2]
      · rw [if_neg h2, ih, mThere, h0]
        cases l with
        | nil => simp [h2]
        | cons z l =>
          have := mOk_gt h.2.2 z (by simp)
          simp only [List.getElem?_cons_zero]
          simp only [decide_eq_false h2, decide_eq_false_iff_not]
          omega
theorem mIns_place {x : MItem} : ∀ {p : Option Int} {l : List MItem}, mOk p l = true → mThere x.1 l = false → mIns x false l = l.take (mPlace x.1 l) ++ x :: l.drop (mPlace x.1 l)
  | _, [], _, _ => by simp [mIns, mPlace]
  | p, y :: l, h, ht => by
    have h' := h
    rw [mOk_cons] at h
    unfold mThere at ht
    rw [mPlace_cons] at ht ⊢
    rw [mIns]
    by_cases h1 : y.1 < x.1
    · rw [if_pos h1] at ht ⊢
      rw [if_neg (by omega), mIns_place h.2.2 (by unfold mThere; simpa using ht)]
      simp
    · rw [if_neg h1] at ht ⊢
      have h0 : mPlace x.1 l = 0 := mPlace_zero fun z hz => by have := mOk_gt h.2.2 z hz; omega
      rw [h0] at ht ⊢
      simp only [Nat.add_zero, List.getElem?_cons_zero, decide_eq_false_iff_not] at ht
      rw [if_pos (by omega)]
      simp
theorem mOut_all {k : Int} : ∀ {l : List MItem}, (∀ x ∈ l, x.1 ≠ k) → mOut k l = l
  | [], _ => rfl
  | y :: l, h => by rw [mOut, if_neg (h y (by simp)), mOut_all fun x hx => h x (List.mem_cons_of_mem _ hx)]
theorem mOut_place {k : Int} : ∀ {p : Option Int} {l : List MItem}, mOk p l = true → mThere k l = true → mOut k l = l.take (mPlace k l) ++ l.drop (mPlace k l + 1)
  | _, [], _, ht => by simp [mThere] at ht
  | p, y :: l, h, ht => by
    rw [mOk_cons] at h
    unfold mThere at ht
    rw [mPlace_cons] at ht ⊢
    rw [mOut]
    by_cases h1 : y.1 < k
    · rw [if_pos h1] at ht ⊢
      rw [if_neg (by omega), mOut_place h.2.2 (by unfold mThere; simpa using ht)]
      simp
    · rw [if_neg h1] at ht ⊢
      have h0 : mPlace k l = 0 := mPlace_zero fun z hz => by have := mOk_gt h.2.2 z hz; omega
      rw [h0] at ht ⊢
      simp only [Nat.add_zero, List.getElem?_cons_zero, decide_eq_true_eq] at ht
      rw [if_pos ht, mOut_all fun x hx => by have := mOk_gt h.2.2 x hx; omega]
      simp
theorem mBetween_none {a b : Int} : ∀ {l : List MItem}, (∀ x ∈ l, b < x.1) → mBetween a b l = []
  | [], _ => rfl
  | y :: l, h => by
    have := h y (by simp)
    rw [mBetween, if_neg (by omega), mBetween_none fun x hx => h x (List.mem_cons_of_mem _ hx)]
theorem mBetween_while {a b : Int} : ∀ {p : Option Int} {l : List MItem}, mOk p l = true → (∀ x ∈ l, a ≤ x.1) → mBetween a b l = l.takeWhile fun x => decide (x.1 ≤ b)
  | _, [], _, _ => rfl
  | p, y :: l, h, ha => by
    rw [mOk_cons] at h
    have hy := ha y (by simp)
    rw [mBetween, List.takeWhile_cons]
    by_cases hb : y.1 ≤ b
    · rw [if_pos ⟨hy, hb⟩, decide_eq_true hb, mBetween_while h.2.2 fun x hx => ha x (List.mem_cons_of_mem _ hx)]
      rfl
    · rw [if_neg (fun e => hb e.2), decide_eq_false hb, mBetween_none fun x hx => by have := mOk_gt h.2.2 x hx; omega]
      rfl
theorem mBetween_place {a b : Int} : ∀ {p : Option Int} {l : List MItem}, mOk p l = true → mBetween a b l = (l.drop (mPlace a l)).takeWhile fun x => decide (x.1 ≤ b)
  | _, [], _ => by simp [mBetween]
  | p, y :: l, h => by
    have h' := h
    rw [mOk_cons] at h
    rw [mPlace_cons]
    by_cases h1 : y.1 < a
    · rw [if_pos h1, mBetween, if_neg (by omega), mBetween_place h.2.2]
      simp
    · rw [if_neg h1]
      have h0 : mPlace a l = 0 := mPlace_zero fun z hz => by have := mOk_gt h.2.2 z hz; omega
      rw [h0, Nat.add_zero, List.drop_zero]
      exact mBetween_while h' fun x hx => by
        rcases List.mem_cons.1 hx with rfl | hx
        · omega
        · have := mOk_gt h.2.2 x hx; omega

/-- What stays a map. -/
theorem mOk_ins {x : MItem} (hx : x.2.length ≤ 1024) : ∀ {p : Option Int} {l : List MItem}, mOk p l = true → (∀ q, p = some q → q < x.1) → mKey x.1 l = none → mOk p (mIns x false l) = true
  | p, [], _, hp, _ => by rw [mIns, mOk_cons]; exact ⟨hx, hp, rfl⟩
  | p, y :: l, h, hp, hk => by
    rw [mOk_cons] at h
    rw [mKey] at hk
    split at hk
    · cases hk
    · rename_i hne
      rw [mIns]
      split
      · rename_i hlt
        rw [mOk_cons, mOk_cons]
        exact ⟨hx, hp, h.1, fun q hq => (by cases hq; exact hlt), h.2.2⟩
      · rename_i hlt
        rw [mOk_cons]
        exact ⟨h.1, h.2.1, mOk_ins hx h.2.2 (fun q hq => by cases hq; omega) hk⟩
theorem mOk_out {k : Int} : ∀ {p : Option Int} {l : List MItem}, mOk p l = true → mOk p (mOut k l) = true
  | _, [], _ => rfl
  | p, y :: l, h => by
    rw [mOk_cons] at h
    rw [mOut]
    split
    · refine mOk_out ?_
      cases p with
      | none => exact mOk_none h.2.2
      | some q => exact mOk_mono (by have := h.2.1 q rfl; omega) h.2.2
    · rw [mOk_cons]
      exact ⟨h.1, h.2.1, mOk_out h.2.2⟩
theorem mDone_ok {l : List MItem} {c : MCall} (hl : mOk none l = true) (hc : mCallOk c = true) : mOk none (mDone l c).1 = true := by
  unfold mDone
  split
  · rename_i h1
    split
    · exact hl
    · rename_i h2
      refine mOk_ins ?_ hl (fun q hq => by cases hq) (by simpa using h2)
      unfold mCallOk at hc
      rw [if_pos h1] at hc
      simp at hc
      exact hc.1
  · split
    · split
      · exact mOk_out hl
      · exact hl
    · exact hl
end Go.Proofs.Ytplhcfaonhkegaa
