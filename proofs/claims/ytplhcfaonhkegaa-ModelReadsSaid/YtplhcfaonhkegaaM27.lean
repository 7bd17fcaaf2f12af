/-
  Model: ModelReads, the plain laws.
-/
import Derived.Test.YtplhcfaonhkegaaM0b
namespace Go.Proofs.Ytplhcfaonhkegaa

theorem mBet_mem {a b : Int} {x : MItem} : ∀ {l : List MItem}, x ∈ mBetween a b l ↔ x ∈ l ∧ a ≤ x.1 ∧ x.1 ≤ b
  | [] => by simp [mBetween]
  | y :: l => by
    rw [mBetween]
    split
    · rename_i h
      rw [List.mem_cons, List.mem_cons, mBet_mem]
      constructor
      · rintro (rfl | h1)
        · exact ⟨.inl rfl, h⟩
        · exact ⟨.inr h1.1, h1.2⟩
      · rintro ⟨rfl | h1, h2⟩
        · exact .inl rfl
        · exact .inr ⟨h1, h2⟩
    · rename_i h
      rw [mBet_mem, List.mem_cons]
      constructor
      · rintro ⟨h1, h2⟩
        exact ⟨.inr h1, h2⟩
      · rintro ⟨rfl | h1, h2⟩
        · exact absurd h2 h
        · exact ⟨h1, h2⟩
theorem mKey_mem {x : MItem} : ∀ {p : Option Int} {l : List MItem}, mOk p l = true → x ∈ l → mKey x.1 l = some x.2
  | _, [], _, h => by cases h
  | p, y :: l, hok, h => by
    rw [mOk_cons] at hok
    rw [mKey]
    rcases List.mem_cons.1 h with rfl | h
    · rw [if_pos rfl]
    · have := mOk_gt hok.2.2 x h
      rw [if_neg (by omega), mKey_mem hok.2.2 h]
/-- The first of a part is the least of it. -/
theorem mBet_least {a b : Int} {x y : MItem} {ys : List MItem} : ∀ {p : Option Int} {l : List MItem}, mOk p l = true → mBetween a b l = y :: ys → x ∈ l → a ≤ x.1 → x.1 ≤ b → y.1 ≤ x.1
  | _, [], _, h, _, _, _ => by simp [mBetween] at h
  | p, z :: l, hok, h, hx, h1, h2 => by
    rw [mOk_cons] at hok
    rw [mBetween] at h
    split at h
    · have hz : z = y := by injection h
      subst hz
      rcases List.mem_cons.1 hx with rfl | hx
      · omega
      · have := mOk_gt hok.2.2 x hx; omega
    · rename_i hz
      rcases List.mem_cons.1 hx with rfl | hx
      · exact absurd ⟨h1, h2⟩ hz
      · exact mBet_least hok.2.2 h hx h1 h2
theorem asked4_is {L : List MItem} (hok : mOk none L = true) (low : Int) (hmax : ∀ x ∈ L, x.1 ≤ 18446744073709551615) :
    ∃ (ae ak : Int) (ab : List UInt8) (af : Bool), mAsked L (4, low, 0, []) = (ae, ak, ab, [], r0, r0, af) ∧ (∀ x ∈ L, low ≤ x.1 → ae = 0 ∧ ak ≤ x.1) ∧ (ae = 0 → mKey ak L = some ab ∧ low ≤ ak ∧ af = true) := by
  have hm : mHigh (4, low, 0, []) = 18446744073709551615 := rfl
  unfold mAsked
  rw [if_neg (by simp), hm]
  cases hb : mBetween low 18446744073709551615 L with
  | nil =>
    refine ⟨101, 0, [], false, rfl, fun x hx h1 => ?_, fun h => (by cases h)⟩
    have : x ∈ mBetween low 18446744073709551615 L := mBet_mem.2 ⟨hx, h1, hmax x hx⟩
    rw [hb] at this
    cases this
  | cons y ys =>
    have hy : y ∈ mBetween low 18446744073709551615 L := by rw [hb]; exact List.mem_cons_self ..
    obtain ⟨h1, h2, h3⟩ := mBet_mem.1 hy
    exact ⟨0, y.1, y.2, true, rfl, fun x hx h4 => ⟨rfl, mBet_least hok hb hx h4 (hmax x hx)⟩, fun _ => ⟨mKey_mem hok h1, h2, rfl⟩⟩
theorem asked5_is (L : List MItem) (low high : Int) :
    ∃ (be : Int) (I : List MItem), mAsked L (5, low, high, []) = (be, 0, [], I, r0, r0, false) ∧ (be = 0 → I = mBetween low high L ∧ I.length ≤ 64) ∧ (be ≠ 0 → be = 102 ∧ 64 < (mBetween low high L).length) := by
  have hm : mHigh (5, low, high, []) = high := rfl
  unfold mAsked
  rw [if_pos rfl, hm]
  simp only
  by_cases h : 64 < (mBetween low high L).length
  · rw [if_pos h]
    exact ⟨102, [], rfl, fun h => (by cases h), fun _ => ⟨rfl, h⟩⟩
  · rw [if_neg h]
    exact ⟨0, _, rfl, fun _ => ⟨rfl, by omega⟩, fun h => absurd rfl h⟩
/-- How many of the first ones lie between. -/
def mCnt (low high : Int) (L : List MItem) (j : Nat) : Nat := (mBetween low high (L.take j)).length
theorem mCnt_all (low high : Int) (L : List MItem) : mCnt low high L L.length = (mBetween low high L).length := by unfold mCnt; rw [List.take_length]
theorem mCnt_out {low high : Int} {L : List MItem} {j : Nat} (h : j < L.length) (hx : ¬ (low ≤ L[j].1 ∧ L[j].1 ≤ high)) : mCnt low high L (j + 1) = mCnt low high L j := by
  unfold mCnt
  rw [List.take_succ_eq_append_getElem h, mBetween_app, mBetween, if_neg hx, mBetween, List.append_nil]
theorem mCnt_in {low high : Int} {L : List MItem} {j : Nat} (h : j < L.length) (hx : low ≤ L[j].1 ∧ L[j].1 ≤ high) : mCnt low high L (j + 1) = mCnt low high L j + 1 ∧ mCnt low high L j < (mBetween low high L).length ∧ ∀ (h2 : mCnt low high L j < (mBetween low high L).length), (mBetween low high L)[mCnt low high L j] = L[j] := by
  have e1 : mBetween low high L = mBetween low high (L.take j) ++ L[j] :: mBetween low high (L.drop (j + 1)) := by
    conv => lhs; rw [← List.take_append_drop j L, List.drop_eq_getElem_cons h]
    rw [mBetween_app, mBetween, if_pos hx]
  refine ⟨?_, ?_, fun h2 => ?_⟩
  · unfold mCnt
    rw [List.take_succ_eq_append_getElem h, mBetween_app, mBetween, if_pos hx, mBetween]
    simp
  · rw [e1]; unfold mCnt; simp
  · have : (mBetween low high L)[mCnt low high L j]? = some L[j] := by
      rw [e1]
      unfold mCnt
      rw [List.getElem?_append_right (Nat.le_refl _)]
      simp
    rw [List.getElem?_eq_getElem h2] at this
    exact Option.some.inj this
theorem mCnt_le (low high : Int) (L : List MItem) (j : Nat) : mCnt low high L j ≤ j := by
  have := mBetween_len low high (L.take j)
  unfold mCnt
  rw [List.length_take] at this
  omega
end Go.Proofs.Ytplhcfaonhkegaa
