/-
  Keys: there and back, in order: the plain law.
-/
import Derived.Test.YthjfnpojelfekaaDoorK25
namespace Go.Proofs.YthjfnpojelfekaaDoor
open Go.RowKit Go.Lib

/-- The number of a row of bytes, the greatest first. -/
def beN : List UInt8 → Nat
  | [] => 0
  | c :: l => c.toNat * 256 ^ l.length + beN l
theorem beN_lt : ∀ l : List UInt8, beN l < 256 ^ l.length
  | [] => by simp [beN]
  | c :: l => by
    have h := beN_lt l
    have hc := c.toNat_lt
    rw [beN, List.length_cons, Nat.pow_succ]
    have h2 : c.toNat * 256 ^ l.length ≤ 255 * 256 ^ l.length := Nat.mul_le_mul_right _ (by omega)
    omega
theorem less_be : ∀ {x y : List UInt8}, x.length = y.length → Op.bytesLess x y = decide (beN x < beN y)
  | [], [], _ => by simp [Op.bytesLess, beN]
  | a :: x, b :: y, h => by
    have hl : x.length = y.length := by simpa using h
    have hx := beN_lt x
    have hy := beN_lt y
    rw [Op.bytesLess, less_be hl, beN, beN, hl]
    rw [hl] at hx
    generalize 256 ^ y.length = P at hx hy ⊢
    by_cases h1 : a < b
    · have h1' : a.toNat + 1 ≤ b.toNat := UInt8.lt_iff_toNat_lt.1 h1
      have h2 : (a.toNat + 1) * P ≤ b.toNat * P := Nat.mul_le_mul_right _ h1'
      rw [Nat.add_mul, Nat.one_mul] at h2
      simp only [h1, decide_true, Bool.true_or]
      exact (decide_eq_true (by omega)).symm
    · by_cases h2 : a = b
      · subst h2
        simp only [h1, decide_false, Bool.false_or, beq_self_eq_true, Bool.true_and]
        congr 1
        simp only [eq_iff_iff]
        omega
      · have h3 : b.toNat + 1 ≤ a.toNat := by
          have h4 : ¬ a.toNat < b.toNat := fun h => h1 (UInt8.lt_iff_toNat_lt.2 h)
          have h5 : a.toNat ≠ b.toNat := fun h => h2 (UInt8.toNat_inj.1 h)
          omega
        have h4 : (b.toNat + 1) * P ≤ a.toNat * P := Nat.mul_le_mul_right _ h3
        rw [Nat.add_mul, Nat.one_mul] at h4
        have h5 : (a == b) = false := by simpa using h2
        simp only [h1, decide_false, Bool.false_or, h5, Bool.false_and]
        exact (decide_eq_false (by omega)).symm
theorem fold_be : ∀ (l : List UInt8) (m : Nat), m * 256 ^ l.length + beN l < 18446744073709551616 → l.foldl rdStep m = m * 256 ^ l.length + beN l
  | [], m, _ => by simp [beN]
  | c :: l, m, h => by
    rw [List.length_cons, Nat.pow_succ, beN] at h
    have h1 : 1 ≤ 256 ^ l.length := Nat.one_le_two_pow (n := 0) |> fun _ => Nat.pos_of_ne_zero (by simp)
    have h2 : m * 256 ≤ m * (256 ^ l.length * 256) := Nat.mul_le_mul_left _ (by omega)
    have e : rdStep m c = m * 256 + c.toNat := by unfold rdStep; omega
    have e2 : (m * 256 + c.toNat) * 256 ^ l.length = m * (256 ^ l.length * 256) + c.toNat * 256 ^ l.length := by
      rw [Nat.add_mul, Nat.mul_assoc, Nat.mul_comm 256]
    rw [List.foldl_cons, e, fold_be l _ (by omega), List.length_cons, Nat.pow_succ, beN]
    omega
theorem be_bytes {u : Nat} (h : u < 18446744073709551616) : beN ((List.range 8).map (byteAt u)) = u := by
  have e : List.range 8 = [0, 1, 2, 3, 4, 5, 6, 7] := by decide
  rw [e]
  simp only [List.map_cons, List.map_nil, beN, List.length_cons, List.length_nil, byteAt_toNat]
  simp only [Nat.reducePow, Nat.reduceMul, Nat.reduceSub, Nat.reduceAdd, Nat.zero_add, Nat.mul_one, Nat.add_zero, Nat.div_one]
  omega
theorem rd_bytes {u : Nat} (h : u < 18446744073709551616) : rdVal ((List.range 8).map (byteAt u)) = u := by
  unfold rdVal
  rw [fold_be _ _ (by rw [be_bytes h]; omega), be_bytes h]
  omega
theorem kOk_form {k : MK} (hk : kWf k) (h : kOk k = true) : ∃ r u : Nat, k = ((r : Int), (u : Int)) ∧ u < 18446744073709551616 ∧ 1 ≤ r ∧ r ≤ 3 := by
  obtain ⟨r, n⟩ := k
  obtain ⟨_, h1, h2⟩ := hk
  simp only at h1 h2
  rcases kOk_ranks h with rfl | ⟨rfl, _⟩ | ⟨rfl, _⟩
  · exact ⟨2, n.toNat, by simp; omega, by omega, by omega, by omega⟩
  · exact ⟨1, n.toNat, by simp; omega, by omega, by omega, by omega⟩
  · exact ⟨3, n.toNat, by simp; omega, by omega, by omega, by omega⟩
theorem bytes_eq {k : MK} (h : kOk k = true) {r u : Nat} (e : k = ((r : Int), (u : Int))) : kBytes k = UInt8.ofNat r :: (List.range 8).map (byteAt u) := by
  subst e
  unfold kBytes
  rw [if_neg (by rw [h]; simp)]
  rfl
theorem kRead_cons {c : UInt8} {t : List UInt8} (h : t.length = 8) : kRead (c :: t) = if kOk ((c.toNat : Int), (rdVal t : Int)) then (((c.toNat : Int), (rdVal t : Int)), 0) else ((0, 0), 20) := by
  unfold kRead
  rw [if_pos (by simp [h])]
  rfl
/-- What was written is read. -/
theorem read_bytes {k : MK} (hk : kWf k) (h : kOk k = true) : kRead (kBytes k) = (k, 0) := by
  obtain ⟨r, u, e, hu, h1, h3⟩ := kOk_form hk h
  rw [bytes_eq h e, kRead_cons (by simp), rd_bytes hu]
  have er : (((UInt8.ofNat r).toNat : Nat) : Int) = r := by rw [UInt8.toNat_ofNat']; omega
  rw [er, ← e, if_pos h]
theorem dec_not {u : Nat} {c : UInt8} (hc : ¬ isDig c) : decDigits u ≠ [c] := fun h => hc (dec_dig u c (by rw [h]; simp))
theorem parse_text {k : MK} (hk : kWf k) (h : kOk k = true) : kParse (kTxt k).1 = (k, 0) := by
  obtain ⟨r, n⟩ := k
  obtain ⟨_, h1, h2⟩ := hk
  simp only at h1 h2
  rcases kOk_ranks h with rfl | ⟨rfl, rfl⟩ | ⟨rfl, rfl⟩
  · have e : (kTxt (2, n)).1 = decDigits n.toNat := by unfold kTxt; rw [if_neg (by rw [h]; simp)]; rfl
    rw [e]
    unfold kParse
    rw [if_neg (dec_not (by unfold isDig; decide)), if_neg (dec_not (by unfold isDig; decide)), parse_dec (by omega)]
    simp only [if_true]
    rw [Int.toNat_of_nonneg h1]
  · rfl
  · rfl
theorem text_len {k : MK} (hk : kWf k) : (kTxt k).1.length ≤ 300 := by
  obtain ⟨r, n⟩ := k
  obtain ⟨_, h1, h2⟩ := hk
  simp only at h1 h2
  unfold kTxt
  split
  · simp
  · split
    · simp
    · split
      · simp
      · have := dec_len n.toNat (by omega)
        simp only
        omega
/-- The bytes' order is the keys' own. -/
theorem bytes_less {a b : MK} (ha : kWf a) (hb : kWf b) (oa : kOk a = true) (ob : kOk b = true) : Op.bytesLess (kBytes a) (kBytes b) = kLess a b := by
  obtain ⟨r, u, e, hu, h1, h3⟩ := kOk_form ha oa
  obtain ⟨s, v, e', hv, g1, g3⟩ := kOk_form hb ob
  rw [bytes_eq oa e, bytes_eq ob e', Op.bytesLess, less_be (by simp), be_bytes hu, be_bytes hv]
  have l1 : (UInt8.ofNat r < UInt8.ofNat s) ↔ r < s := by
    rw [UInt8.lt_iff_toNat_lt, UInt8.toNat_ofNat', UInt8.toNat_ofNat', Nat.mod_eq_of_lt (by omega), Nat.mod_eq_of_lt (by omega)]
  have l2 : (UInt8.ofNat r = UInt8.ofNat s) ↔ r = s := by
    rw [← UInt8.toNat_inj, UInt8.toNat_ofNat', UInt8.toNat_ofNat', Nat.mod_eq_of_lt (by omega), Nat.mod_eq_of_lt (by omega)]
  rw [Bool.eq_iff_iff]
  rw [kLess_iff]
  subst e e'
  simp only [Bool.or_eq_true, Bool.and_eq_true, decide_eq_true_eq, beq_iff_eq, l1, l2]
  omega
end Go.Proofs.YthjfnpojelfekaaDoor
