/-
  Histories that are linearizable, as plain functions: what may be, what may be next, what is whole.
  Histories that are linearizable: must, over, may, Check, on both sides.
  Histories that are linearizable: next, after, whole.
-/
import Derived.Test.YtplhcfaonhkegaaH0
import Derived.Test.YtplhcfaonhkegaaH10
import Derived.Test.YtplhcfaonhkegaaM4
import Derived.Test.YtplhcfaonhkegaaM6
import Derived.Laws.Bits64
import Derived.Laws.BitsAllLaws
namespace Go.Proofs.Ytplhcfaonhkegaa

instance decMRes : DecidableEq MRes := @instDecidableEqProd _ _ _ (@instDecidableEqProd _ _ _ (@instDecidableEqProd _ _ _ (@instDecidableEqProd _ _ _ (@instDecidableEqProd _ _ _ (@instDecidableEqProd _ _ _ _)))))
def lMay (x : MHap) : Bool := mCallOk x.1 && (decide (x.1.1 ≠ 5) && (decide (0 ≤ x.2.2.1) && (if x.2.2.2.2.1 then decide (x.2.2.2.1 = 0) else decide (x.2.2.1 ≤ x.2.2.2.1))))
def lCheck (l : List MHap) : Int := if 64 < l.length then 3 else if l.all lMay then 0 else 240
/-- One that stands in the way of x, at place k. -/
def lBad (d : Nat) (i : Nat) (x : MHap) (k : Nat) (y : MHap) : Bool := ((!d.testBit k && decide (k ≠ i)) && hSure y && hAhead y x) || (d.testBit k && hAhead x y)
def lBads (d : Nat) (i : Nat) (x : MHap) : Nat → List MHap → Bool
  | _, [] => false
  | k, y :: l => lBad d i x k y || lBads d i x (k + 1) l
def lNext (l : List MHap) (d i : Nat) (x : MHap) : Bool := !d.testBit i && !lBads d i x 0 l
def lAfter (m : List MItem) (x : MHap) : Option (List MItem) :=
  if (mDo m x.1).2.2 = 0 ∧ (hSure x = true → (mDo m x.1).2.1 = x.2.1) then some (mDo m x.1).1 else none
def lLack (d : Nat) : Nat → List MHap → Bool
  | _, [] => false
  | k, y :: l => (hSure y && !d.testBit k) || lLack d (k + 1) l
def lWhole (l : List MHap) (d : Nat) : Bool := !lLack d 0 l

theorem lBads_iff {d i : Nat} {x : MHap} : ∀ {l : List MHap} {n : Nat}, lBads d i x n l = true ↔ ∃ k, ∃ h : k < l.length, lBad d i x (n + k) l[k] = true
  | [], n => by simp [lBads]
  | y :: l, n => by
    rw [lBads, Bool.or_eq_true, lBads_iff]
    constructor
    · rintro (h | ⟨k, hk, h⟩)
      · exact ⟨0, by simp, by simpa using h⟩
      · exact ⟨k + 1, by simpa using hk, by simpa [Nat.add_assoc, Nat.add_comm 1] using h⟩
    · rintro ⟨k, hk, h⟩
      cases k with
      | zero => exact .inl (by simpa using h)
      | succ k => exact .inr ⟨k, by simpa using hk, by simpa [Nat.add_assoc, Nat.add_comm 1] using h⟩
theorem lLack_iff {d : Nat} : ∀ {l : List MHap} {n : Nat}, lLack d n l = true ↔ ∃ k, ∃ h : k < l.length, hSure l[k] = true ∧ d.testBit (n + k) = false
  | [], n => by simp [lLack]
  | y :: l, n => by
    rw [lLack, Bool.or_eq_true, lLack_iff]
    constructor
    · rintro (h | ⟨k, hk, h⟩)
      · exact ⟨0, by simp, by simpa using h⟩
      · exact ⟨k + 1, by simpa using hk, by simpa [Nat.add_assoc, Nat.add_comm 1] using h⟩
    · rintro ⟨k, hk, h⟩
      cases k with
      | zero => exact .inl (by simpa using h)
      | succ k => exact .inr ⟨k, by simpa using hk, by simpa [Nat.add_assoc, Nat.add_comm 1] using h⟩
theorem lBads_append {d i : Nat} {x y : MHap} : ∀ {l : List MHap} {n : Nat}, lBads d i x n (l ++ [y]) = (lBads d i x n l || lBad d i x (n + l.length) y)
  | [], n => by simp [lBads]
  | z :: l, n => by
    rw [List.cons_append, lBads, lBads_append, lBads, List.length_cons, Bool.or_assoc, Nat.add_assoc, Nat.add_comm 1]
theorem lLack_append {d : Nat} {y : MHap} : ∀ {l : List MHap} {n : Nat}, lLack d n (l ++ [y]) = (lLack d n l || (hSure y && !d.testBit (n + l.length)))
  | [], n => by simp [lLack]
  | z :: l, n => by
    rw [List.cons_append, lLack, lLack_append, lLack, List.length_cons, Bool.or_assoc, Nat.add_assoc, Nat.add_comm 1]
theorem lBads_next {d i : Nat} {x : MHap} {l : List MHap} {j : Nat} (h : j < l.length) : lBads d i x 0 (l.take (j + 1)) = (lBads d i x 0 (l.take j) || lBad d i x j l[j]) := by
  have e : (l.take j).length = j := by rw [List.length_take]; omega
  rw [List.take_succ_eq_append_getElem h, lBads_append, e, Nat.zero_add]
theorem lLack_next {d : Nat} {l : List MHap} {j : Nat} (h : j < l.length) : lLack d 0 (l.take (j + 1)) = (lLack d 0 (l.take j) || (hSure l[j] && !d.testBit j)) := by
  have e : (l.take j).length = j := by rw [List.length_take]; omega
  rw [List.take_succ_eq_append_getElem h, lLack_append, e, Nat.zero_add]
theorem lBads_hit {d i : Nat} {x : MHap} {l : List MHap} {j : Nat} (h : j < l.length) (hb : lBad d i x j l[j] = true) : lBads d i x 0 l = true := lBads_iff.2 ⟨j, h, by simpa using hb⟩
theorem lLack_hit {d : Nat} {l : List MHap} {j : Nat} (h : j < l.length) (h1 : hSure l[j] = true) (h2 : d.testBit j = false) : lLack d 0 l = true := lLack_iff.2 ⟨j, h, h1, by simpa using h2⟩

/-- A bit, in the words of the walk. -/
theorem bit_val (d i : Nat) : d / 2 ^ i % 2 = if d.testBit i then 1 else 0 := by
  rw [Nat.testBit_eq_decide_div_mod_eq]
  have : d / 2 ^ i % 2 < 2 := Nat.mod_lt _ (by decide)
  by_cases h : d / 2 ^ i % 2 = 1
  · simp [h]
  · have h0 : d / 2 ^ i % 2 = 0 := by omega
    simp [h0]
theorem set_lt {d i : Nat} (h : d < 18446744073709551616) (hi : i < 64) : d ||| 2 ^ i < 18446744073709551616 := by
  have e : (18446744073709551616 : Nat) = 2 ^ 64 := by decide
  rw [e] at h ⊢
  exact Nat.or_lt_two_pow h (Nat.pow_lt_pow_right (by decide) hi)
theorem set_bit (d i k : Nat) : (d ||| 2 ^ i).testBit k = (d.testBit k || decide (i = k)) := by
  rw [Nat.testBit_or, Nat.testBit_two_pow]
end Go.Proofs.Ytplhcfaonhkegaa

namespace Go.Proofs.Ytplhcfaonhkegaa
open Go.RowKit Go.Maps

set_option maxRecDepth 100000 in
set_option maxHeartbeats 2000000 in
theorem lmust_any {S : Nat → Prop} {w w0 : World} {v : Value} {x : MHap} (h : HapV S w0 v x) :
    Calls Try.prog 119 #[v] w fun e w' => e = .returned (.bool (hSure x)) ∧ Fr Non w w' := by
  obtain ⟨a0, n0, a1, n1, a2, n2, rfl, _⟩ := h
  obtain ⟨⟨kd, key, high, bs⟩, ⟨e1, k1, b1, l1, ⟨r1, ⟨r2, r3⟩, r4, r5⟩, ⟨c1, ⟨c2, c3⟩, c4, c5⟩, t1⟩, fr, to, op, fe⟩ := x
  simp only [hapCells, resCells, refCells, List.cons_append, List.nil_append, hSure]
  cases op with
  | true =>
    go_enter Try.func119, Try.ntmps119
    go_wp2_with fail
    go_ret
    exact ⟨by trivial, (Fr.refl _ _).alloc _⟩
  | false =>
    go_enter Try.func119, Try.ntmps119
    go_wp2_with fail
    go_ret
    exact ⟨by trivial, (Fr.refl _ _).alloc _⟩

set_option maxRecDepth 100000 in
set_option maxHeartbeats 2000000 in
theorem lrmust_any {S : Nat → Prop} {w w0 : World} {v : Value} {x : MHap} (h : HapV S w0 v x) :
    Calls Try.prog 117 #[v] w fun e w' => e = .returned (.bool (hSure x)) ∧ Fr Non w w' := by
  obtain ⟨a0, n0, a1, n1, a2, n2, rfl, _⟩ := h
  obtain ⟨⟨kd, key, high, bs⟩, ⟨e1, k1, b1, l1, ⟨r1, ⟨r2, r3⟩, r4, r5⟩, ⟨c1, ⟨c2, c3⟩, c4, c5⟩, t1⟩, fr, to, op, fe⟩ := x
  simp only [hapCells, resCells, refCells, List.cons_append, List.nil_append, hSure]
  cases op with
  | true =>
    go_enter Try.func117, Try.ntmps117
    go_wp2_with fail
    go_ret
    exact ⟨by trivial, (Fr.refl _ _).alloc _⟩
  | false =>
    go_enter Try.func117, Try.ntmps117
    go_wp2_with fail
    go_ret
    exact ⟨by trivial, (Fr.refl _ _).alloc _⟩

set_option maxRecDepth 100000 in
set_option maxHeartbeats 2000000 in
theorem lover_any {S S' : Nat → Prop} {w w0 w1 : World} {v v' : Value} {x y : MHap} (h : HapV S w0 v x) (h' : HapV S' w1 v' y) :
    Calls Try.prog 120 #[v, v'] w fun e w' => e = .returned (.bool (hAhead x y)) ∧ Fr Non w w' := by
  obtain ⟨a0, n0, a1, n1, a2, n2, rfl, _⟩ := h
  obtain ⟨a3, n3, a4, n4, a5, n5, rfl, _⟩ := h'
  obtain ⟨⟨kd, key, high, bs⟩, ⟨e1, k1, b1, l1, ⟨r1, ⟨r2, r3⟩, r4, r5⟩, ⟨c1, ⟨c2, c3⟩, c4, c5⟩, t1⟩, fr, to, op, fe⟩ := x
  obtain ⟨⟨kd', key', high', bs'⟩, ⟨e1', k1', b1', l1', ⟨r1', ⟨r2', r3'⟩, r4', r5'⟩, ⟨c1', ⟨c2', c3'⟩, c4', c5'⟩, t1'⟩, fr', to', op', fe'⟩ := y
  simp only [hapCells, resCells, refCells, List.cons_append, List.nil_append, hAhead]
  cases op with
  | true =>
    go_enter Try.func120, Try.ntmps120
    go_wp2_with fail
    go_ret
    exact ⟨by trivial, ((Fr.refl _ _).alloc _).alloc _⟩
  | false =>
    go_enter Try.func120, Try.ntmps120
    go_wp2_with fail
    go_ret
    exact ⟨by simp, ((Fr.refl _ _).alloc _).alloc _⟩

set_option maxRecDepth 100000 in
set_option maxHeartbeats 2000000 in
theorem lrover_any {S S' : Nat → Prop} {w w0 w1 : World} {v v' : Value} {x y : MHap} (h : HapV S w0 v x) (h' : HapV S' w1 v' y) :
    Calls Try.prog 118 #[v, v'] w fun e w' => e = .returned (.bool (hAhead x y)) ∧ Fr Non w w' := by
  obtain ⟨a0, n0, a1, n1, a2, n2, rfl, _⟩ := h
  obtain ⟨a3, n3, a4, n4, a5, n5, rfl, _⟩ := h'
  obtain ⟨⟨kd, key, high, bs⟩, ⟨e1, k1, b1, l1, ⟨r1, ⟨r2, r3⟩, r4, r5⟩, ⟨c1, ⟨c2, c3⟩, c4, c5⟩, t1⟩, fr, to, op, fe⟩ := x
  obtain ⟨⟨kd', key', high', bs'⟩, ⟨e1', k1', b1', l1', ⟨r1', ⟨r2', r3'⟩, r4', r5'⟩, ⟨c1', ⟨c2', c3'⟩, c4', c5'⟩, t1'⟩, fr', to', op', fe'⟩ := y
  simp only [hapCells, resCells, refCells, List.cons_append, List.nil_append, hAhead]
  cases op with
  | true =>
    go_enter Try.func118, Try.ntmps118
    go_wp2_with fail
    go_ret
    exact ⟨by trivial, ((Fr.refl _ _).alloc _).alloc _⟩
  | false =>
    go_enter Try.func118, Try.ntmps118
    go_wp2_with fail
    go_ret
    exact ⟨by simp, ((Fr.refl _ _).alloc _).alloc _⟩
set_option maxRecDepth 100000 in
set_option maxHeartbeats 4000000 in
theorem lmay_any {S : Nat → Prop} {w w0 : World} {v : Value} {x : MHap} (h : HapV S w0 v x) :
    Calls Try.prog 114 #[v] w fun e w' => e = .returned (.bool (lMay x)) ∧ Fr Non w w' := by
  obtain ⟨a0, n0, a1, n1, a2, n2, rfl, _⟩ := h
  have HC := Lib.hid (fun (w' : World) => call_any w' x.1 a0 n0)
  obtain ⟨⟨kd, key, high, bs⟩, ⟨e1, k1, b1, l1, ⟨r1, ⟨r2, r3⟩, r4, r5⟩, ⟨c1, ⟨c2, c3⟩, c4, c5⟩, t1⟩, fr, to, op, fe⟩ := x
  simp only [hapCells, resCells, refCells, List.cons_append, List.nil_append] at HC ⊢
  have hm : mCall (kd, key, high, bs) = if mCallOk (kd, key, high, bs) then 0 else 104 := rfl
  have hy : lMay ((kd, key, high, bs), (e1, k1, b1, l1, (r1, (r2, r3), r4, r5), (c1, (c2, c3), c4, c5), t1), fr, to, op, fe) = (mCallOk (kd, key, high, bs) && (decide (kd ≠ 5) && (decide (0 ≤ fr) && (if op then decide (to = 0) else decide (fr ≤ to))))) := rfl
  obtain ⟨co, hco⟩ : ∃ c, mCallOk (kd, key, high, bs) = c := ⟨_, rfl⟩
  obtain ⟨R, hR⟩ : ∃ c, lMay ((kd, key, high, bs), (e1, k1, b1, l1, (r1, (r2, r3), r4, r5), (c1, (c2, c3), c4, c5), t1), fr, to, op, fe) = c := ⟨_, rfl⟩
  rw [hR] at hy ⊢
  rw [hco] at hm hy
  obtain ⟨mc, hmc⟩ : ∃ c, mCall (kd, key, high, bs) = c := ⟨_, rfl⟩
  rw [hmc] at HC hm
  have HY := Lib.hid hy
  clear hmc hco hy hR
  have f0 : ∀ o, Fr Non w (w.alloc o) := fun o => (Fr.refl _ _).alloc _
  cases co with
  | false =>
    obtain rfl : mc = 104 := hm

    go_enter Try.func114, Try.ntmps114
    go_wp2_with fail
    refine (HC.out _).mono ?_
    rintro e w1 ⟨rfl, f1⟩
    go_wp2_with fail
    all_goals
      go_ret
      exact ⟨by rw [HY.out]; simp, (f0 _).trans f1⟩
  | true =>
  obtain rfl : mc = 0 := hm

  by_cases h5 : kd = 5
  · subst h5
    go_enter Try.func114, Try.ntmps114
    go_wp2_with fail
    refine (HC.out _).mono ?_
    rintro e w1 ⟨rfl, f1⟩
    have q := f1.cell (show (w.alloc _).cell? ⟨w.heap.size, 0, none⟩ = some (.int .i64 5) from by rw [cell_of_row _ _ _ _ _ _ (alloc_at w _)]; rfl) id
    go_wp2_with fail
    all_goals
      go_ret
      exact ⟨by rw [HY.out]; simp, (f0 _).trans f1⟩
  have n5 : (kd == 5) = false := by simpa using h5
  go_enter Try.func114, Try.ntmps114
  go_wp2_with fail
  refine (HC.out _).mono ?_
  rintro e w1 ⟨rfl, f1⟩
  obtain ⟨q0, _⟩ := box_facts (f1.heap (alloc_at w _) id)
  have F := Lib.hid ((f0 _).trans f1)
  have x0 : w1.cell? ⟨w.heap.size, 0, none⟩ = some (.int .i64 kd) := by rw [q0]; rfl
  have x1 : w1.cell? ⟨w.heap.size, 19, none⟩ = some (.int .i64 fr) := by rw [q0]; rfl
  have x2 : w1.cell? ⟨w.heap.size, 20, none⟩ = some (.int .i64 to) := by rw [q0]; rfl
  have x3 : w1.cell? ⟨w.heap.size, 21, none⟩ = some (.bool op) := by rw [q0]; rfl
  clear q0 f1 f0 HC
  have g0 : ¬ 2 = 5 := by omega
  clear g0
  have N5 := Lib.hid h5
  clear h5
  by_cases hf : fr < 0
  · go_wp2_with fail
    all_goals
      go_ret
      exact ⟨by rw [HY.out, decide_eq_false (show ¬ 0 ≤ fr by omega)]; simp, F.out⟩
  have hf2 : 0 ≤ fr := by omega
  cases op with
  | true =>
    go_wp2_with fail
    go_ret
    exact ⟨by rw [HY.out]; simp [N5.out, hf2, beq_dec], F.out⟩
  | false =>
    go_wp2_with fail
    go_ret
    exact ⟨by rw [HY.out]; simp [N5.out, hf2], F.out⟩
set_option maxRecDepth 100000 in
set_option maxHeartbeats 4000000 in
theorem lrmay_any {S : Nat → Prop} {w w0 : World} {v : Value} {x : MHap} (h : HapV S w0 v x) :
    Calls Try.prog 116 #[v] w fun e w' => e = .returned (.bool (lMay x)) ∧ Fr Non w w' := by
  obtain ⟨a0, n0, a1, n1, a2, n2, rfl, _⟩ := h
  have HC := Lib.hid (fun (w' : World) => rcall_any w' x.1 a0 n0)
  obtain ⟨⟨kd, key, high, bs⟩, ⟨e1, k1, b1, l1, ⟨r1, ⟨r2, r3⟩, r4, r5⟩, ⟨c1, ⟨c2, c3⟩, c4, c5⟩, t1⟩, fr, to, op, fe⟩ := x
  simp only [hapCells, resCells, refCells, List.cons_append, List.nil_append] at HC ⊢
  have hm : mCall (kd, key, high, bs) = if mCallOk (kd, key, high, bs) then 0 else 104 := rfl
  have hy : lMay ((kd, key, high, bs), (e1, k1, b1, l1, (r1, (r2, r3), r4, r5), (c1, (c2, c3), c4, c5), t1), fr, to, op, fe) = (mCallOk (kd, key, high, bs) && (decide (kd ≠ 5) && (decide (0 ≤ fr) && (if op then decide (to = 0) else decide (fr ≤ to))))) := rfl
  obtain ⟨co, hco⟩ : ∃ c, mCallOk (kd, key, high, bs) = c := ⟨_, rfl⟩
  obtain ⟨R, hR⟩ : ∃ c, lMay ((kd, key, high, bs), (e1, k1, b1, l1, (r1, (r2, r3), r4, r5), (c1, (c2, c3), c4, c5), t1), fr, to, op, fe) = c := ⟨_, rfl⟩
  rw [hR] at hy ⊢
  rw [hco] at hm hy
  obtain ⟨mc, hmc⟩ : ∃ c, mCall (kd, key, high, bs) = c := ⟨_, rfl⟩
  rw [hmc] at HC hm
  have HY := Lib.hid hy
  clear hmc hco hy hR
  have f0 : ∀ o, Fr Non w (w.alloc o) := fun o => (Fr.refl _ _).alloc _
  cases co with
  | false =>
    obtain rfl : mc = 104 := hm

    go_enter Try.func116, Try.ntmps116
    go_wp2_with fail
    refine (HC.out _).mono ?_
    rintro e w1 ⟨rfl, f1⟩
    go_wp2_with fail
    all_goals
      go_ret
      exact ⟨by rw [HY.out]; simp, (f0 _).trans f1⟩
  | true =>
  obtain rfl : mc = 0 := hm

  by_cases h5 : kd = 5
  · subst h5
    go_enter Try.func116, Try.ntmps116
    go_wp2_with fail
    refine (HC.out _).mono ?_
    rintro e w1 ⟨rfl, f1⟩
    have q := f1.cell (show (w.alloc _).cell? ⟨w.heap.size, 0, none⟩ = some (.int .i64 5) from by rw [cell_of_row _ _ _ _ _ _ (alloc_at w _)]; rfl) id
    go_wp2_with fail
    all_goals
      go_ret
      exact ⟨by rw [HY.out]; simp, (f0 _).trans f1⟩
  have n5 : (kd == 5) = false := by simpa using h5
  go_enter Try.func116, Try.ntmps116
  go_wp2_with fail
  refine (HC.out _).mono ?_
  rintro e w1 ⟨rfl, f1⟩
  obtain ⟨q0, _⟩ := box_facts (f1.heap (alloc_at w _) id)
  have F := Lib.hid ((f0 _).trans f1)
  have x0 : w1.cell? ⟨w.heap.size, 0, none⟩ = some (.int .i64 kd) := by rw [q0]; rfl
  have x1 : w1.cell? ⟨w.heap.size, 19, none⟩ = some (.int .i64 fr) := by rw [q0]; rfl
  have x2 : w1.cell? ⟨w.heap.size, 20, none⟩ = some (.int .i64 to) := by rw [q0]; rfl
  have x3 : w1.cell? ⟨w.heap.size, 21, none⟩ = some (.bool op) := by rw [q0]; rfl
  clear q0 f1 f0 HC
  have g0 : ¬ 2 = 5 := by omega
  clear g0
  have N5 := Lib.hid h5
  clear h5
  by_cases hf : fr < 0
  · go_wp2_with fail
    all_goals
      go_ret
      exact ⟨by rw [HY.out, decide_eq_false (show ¬ 0 ≤ fr by omega)]; simp, F.out⟩
  have hf2 : 0 ≤ fr := by omega
  cases op with
  | true =>
    go_wp2_with fail
    go_ret
    exact ⟨by rw [HY.out]; simp [N5.out, hf2, beq_dec], F.out⟩
  | false =>
    go_wp2_with fail
    go_ret
    exact ⟨by rw [HY.out]; simp [N5.out, hf2], F.out⟩
theorem held_of {t : TypeId} {p v : Value} {y : World} (h : (Instr.loadAt t p).run Try.prog y = .ok v y) : (do pure (Next.value (← Instr.loadAt t p)) : Sem Next).run Try.prog y = .ok (.value v) y := by
  simp only [Sem.run_bind, h, Result.andThen_ok]
  rfl
/-- One of a row, loaded now or later. -/
theorem hap_held {S : Nat → Prop} {w : World} {a : Option Addr} {n c : Nat} {l : List MHap} (h : Sl kHap S w (.slice a n c) l) (i : Nat) (hi : i < l.length) :
    ∃ b o cs, a = some ⟨b, o, none⟩ ∧ kHap.rd S w cs l[i] ∧ HapV S w (.agg cs.toArray) l[i] ∧ cs.length = 23 ∧ ∀ y, Fr Non w y → (Instr.loadAt 76 (.pointer (some ⟨b, o + i * 23, none⟩))).run Try.prog y = .ok (.agg cs.toArray) y := by
  obtain ⟨b, o, cs, rfl, _, _, _, hr, hc⟩ := h.at i hi
  have hl := kHap.len hr
  obtain ⟨a0, n0, a1, n1, a2, n2, e, h0, h1, h2⟩ := hap_cells hr
  refine ⟨b, o, cs, rfl, hr, ⟨a0, n0, a1, n1, a2, n2, by rw [e], h0, h1, h2⟩, hl, fun y f => ?_⟩
  refine run_loadAt_list _ _ Try.underlying76 rfl (by rw [hl]; kernel_rfl) fun j v hv => ?_
  obtain ⟨hj, rfl⟩ := List.getElem?_eq_some_iff.1 hv
  exact f.cell (hc j hj) id
/-- A box that holds one, loaded. -/
theorem box_load {w : World} {D : Nat} {cs : List Value} (h : w.heap[D]? = some (.cells cs.toArray 76 (0, 0))) (hl : cs.length = 23) : (Instr.loadAt 76 (.pointer (some ⟨D, 0, none⟩))).run Try.prog w = .ok (.agg cs.toArray) w := by
  refine run_loadAt_list _ _ Try.underlying76 rfl (by rw [hl]; kernel_rfl) fun j v hv => ?_
  rw [Nat.zero_add, (box_facts h).1]
  simpa using hv
set_option maxRecDepth 100000 in
set_option maxHeartbeats 4000000 in
theorem lcheck_any {w : World} {u : Value} {l : List MHap} (hl : Sl kHap All w u l) :
    Calls Try.prog 90 #[u] w fun e w' => e = .returned (.int .i64 (lCheck l)) ∧ Fr Non w w' := by
  obtain ⟨va, vc, rfl, _, hx, _⟩ := hl.frm
  unfold maxLen at hx
  have HL := Lib.hid hl
  clear hl
  by_cases h64 : 64 < l.length
  · rw [show lCheck l = 3 by unfold lCheck; rw [if_pos h64]]
    have j1 : (64 : Int) < (l.length : Int) := by omega
    go_enter Try.func90, Try.ntmps90
    go_wp2_with fail
    go_ret
    exact ⟨by trivial, Fr.refl _ _⟩
  have j1 : ¬ (64 : Int) < (l.length : Int) := by omega
  obtain ⟨R, hR⟩ : ∃ R, lCheck l = R := ⟨_, rfl⟩
  have HR := Lib.hid (show R = if l.all lMay then 0 else 240 by rw [← hR]; unfold lCheck; rw [if_neg h64])
  rw [hR]
  clear hR
  go_enter Try.func90, Try.ntmps90
  go_wp2_with fail
  go_loopw [10] (fun i wr => ∃ (j : Nat), j ≤ l.length ∧ i = .int .i64 j ∧ Hid (Fr Non w wr ∧ ∀ k (h : k < l.length), k < j → lMay l[k] = true)) (fun i _ => l.length - (intOf i).toNat)
  case atStart => exact ⟨0, by omega, rfl, Fr.refl _ _, fun k _ h => by omega⟩
  case round =>
    obtain ⟨j, hj, rfl, HI⟩ := hrel
    by_cases hlt : j < l.length
    · have f1 := HI.out.1
      obtain ⟨B, O, V, rfl, hV, hld⟩ := hap_load (HL.out.stay f1) j hlt
      have j0 : (0 : Int) ≤ (j : Int) := by omega
      have j1 : (j : Int) < (l.length : Int) := by omega
      have HLD := Lib.hid hld
      obtain ⟨cs, rfl, hlen, _⟩ := hV.size
      clear hld
      have HV := Lib.hid hV
      have HLE := Lib.hid hlen
      have HC := Lib.hid (fun (w' : World) => lmay_any (w := w') hV)
      have HF := Lib.hid f1
      have HD := Lib.hid (fun (h : lMay l[j] = false) => show R = 240 by rw [HR.out, if_neg (by intro h2; have := List.all_eq_true.1 h2 l[j] (List.getElem_mem hlt); rw [h] at this; cases this)])
      have HT := Lib.hid (show lMay l[j] = true → ∀ k (h : k < l.length), k < j + 1 → lMay l[k] = true from fun h k hk hk2 => by
        by_cases hkj : k = j
        · subst hkj; exact h
        · exact HI.out.2 k hk (by omega))
      obtain ⟨b, hb⟩ : ∃ b, lMay l[j] = b := ⟨_, rfl⟩
      have HBB := Lib.hid hb
      rw [hb] at HC
      clear hV hlen f1 hb HI
      go_wp2_with (first | refine wpList_load_v rfl 76 _ rfl _ rfl _ HLD.out ?_ | refine wpList_store_block rfl 76 _ _ rfl wr.heap.size 0 rfl (.agg cs.toArray) rfl _ 76 (alloc_at wr _) ?hfit ?hinf ?hone ?_)
      case hinf => rw [show (Value.agg cs.toArray).cells.size = 23 by simp [Value.cells, HLE.out]]; kernel_rfl
      case hfit => simp [Value.cells, HLE.out]
      case hone => intro u hu; exact HV.out.ones u (by simpa [Value.cells] using hu)
      intro w2 hbx f2
      rw [putAt_whole _ _ (by simp [HLE.out])] at hbx
      have f3 : Fr Non wr w2 := ((Fr.refl Non wr).alloc _).trans2 f2 (fun b hb he => by omega)
      have LD := Lib.hid (box_load (by simpa [Value.cells] using hbx) HLE.out)
      have F3 := Lib.hid (HF.out.trans f3)
      clear hbx f2 f3
      obtain ⟨D, hD⟩ : ∃ D, wr.heap.size = D := ⟨_, rfl⟩
      rw [hD] at LD ⊢
      go_wp2_with (refine wpList_load_w 76 (.pointer (some ⟨D, 0, none⟩)) _ LD.out _ rfl rfl (by rfl) ?_)
      refine (HC.out _).mono ?_
      rintro e w3 ⟨rfl, f4⟩
      have F4 := Lib.hid (F3.out.trans f4)
      clear f4 HC HLD F3 HF
      cases b with
      | true =>
        go_wp2_with fail
        go_roundw
        case rel => exact ⟨j + 1, by omega, by go_num, F4.out, HT.out HBB.out⟩
        case measure => simp [intOf]; omega
      | false =>
        go_wp2_with fail
        go_ret
        exact ⟨by rw [HD.out HBB.out]; rfl, F4.out⟩
    · obtain rfl : j = l.length := by omega
      have HE := Lib.hid (show R = 0 by rw [HR.out, if_pos (List.all_eq_true.2 fun x hx => by obtain ⟨k, hk, rfl⟩ := List.getElem_of_mem hx; exact HI.out.2 k hk hk)])
      go_wp2_with fail
      go_ret
      exact ⟨by rw [HE.out]; rfl, HI.out.1⟩
set_option maxRecDepth 100000 in
set_option maxHeartbeats 4000000 in
theorem lrcheck_any {w : World} {u : Value} {l : List MHap} (hl : Sl kHap All w u l) :
    Calls Try.prog 92 #[u] w fun e w' => e = .returned (.int .i64 (lCheck l)) ∧ Fr Non w w' := by
  obtain ⟨va, vc, rfl, _, hx, _⟩ := hl.frm
  unfold maxLen at hx
  have HL := Lib.hid hl
  clear hl
  by_cases h64 : 64 < l.length
  · rw [show lCheck l = 3 by unfold lCheck; rw [if_pos h64]]
    have j1 : (64 : Int) < (l.length : Int) := by omega
    go_enter Try.func92, Try.ntmps92
    go_wp2_with fail
    go_ret
    exact ⟨by trivial, Fr.refl _ _⟩
  have j1 : ¬ (64 : Int) < (l.length : Int) := by omega
  obtain ⟨R, hR⟩ : ∃ R, lCheck l = R := ⟨_, rfl⟩
  have HR := Lib.hid (show R = if l.all lMay then 0 else 240 by rw [← hR]; unfold lCheck; rw [if_neg h64])
  rw [hR]
  clear hR
  go_enter Try.func92, Try.ntmps92
  go_wp2_with fail
  go_loopw [3] (fun i wr => ∃ (j : Nat), j ≤ l.length ∧ i = .int .i64 j ∧ Hid (Fr Non w wr ∧ ∀ k (h : k < l.length), k < j → lMay l[k] = true)) (fun i _ => l.length - (intOf i).toNat)
  case atStart => exact ⟨0, by omega, rfl, Fr.refl _ _, fun k _ h => by omega⟩
  case round =>
    obtain ⟨j, hj, rfl, HI⟩ := hrel
    by_cases hlt : j < l.length
    · have f1 := HI.out.1
      obtain ⟨B, O, V, rfl, hV, hld⟩ := hap_load (HL.out.stay f1) j hlt
      have j0 : (0 : Int) ≤ (j : Int) := by omega
      have j1 : (j : Int) < (l.length : Int) := by omega
      have HLD := Lib.hid hld
      obtain ⟨cs, rfl, hlen, _⟩ := hV.size
      clear hld
      have HV := Lib.hid hV
      have HLE := Lib.hid hlen
      have HC := Lib.hid (fun (w' : World) => lrmay_any (w := w') hV)
      have HF := Lib.hid f1
      have HD := Lib.hid (fun (h : lMay l[j] = false) => show R = 240 by rw [HR.out, if_neg (by intro h2; have := List.all_eq_true.1 h2 l[j] (List.getElem_mem hlt); rw [h] at this; cases this)])
      have HT := Lib.hid (show lMay l[j] = true → ∀ k (h : k < l.length), k < j + 1 → lMay l[k] = true from fun h k hk hk2 => by
        by_cases hkj : k = j
        · subst hkj; exact h
        · exact HI.out.2 k hk (by omega))
      obtain ⟨b, hb⟩ : ∃ b, lMay l[j] = b := ⟨_, rfl⟩
      have HBB := Lib.hid hb
      rw [hb] at HC
      clear hV hlen f1 hb HI
      have F3 := HF
      go_wp2_with (refine wpList_load_v rfl 76 _ rfl _ rfl _ HLD.out ?_)
      refine (HC.out _).mono ?_
      rintro e w3 ⟨rfl, f4⟩
      have F4 := Lib.hid (F3.out.trans f4)
      clear f4 HC HLD F3 HF
      cases b with
      | true =>
        go_wp2_with fail
        go_roundw
        case rel => exact ⟨j + 1, by omega, by go_num, F4.out, HT.out HBB.out⟩
        case measure => simp [intOf]; omega
      | false =>
        go_wp2_with fail
        go_ret
        exact ⟨by rw [HD.out HBB.out]; rfl, F4.out⟩
    · obtain rfl : j = l.length := by omega
      have HE := Lib.hid (show R = 0 by rw [HR.out, if_pos (List.all_eq_true.2 fun x hx => by obtain ⟨k, hk, rfl⟩ := List.getElem_of_mem hx; exact HI.out.2 k hk hk)])
      go_wp2_with fail
      go_ret
      exact ⟨by rw [HE.out]; rfl, HI.out.1⟩
end Go.Proofs.Ytplhcfaonhkegaa

namespace Go.Proofs.Ytplhcfaonhkegaa
open Go.RowKit Go.Maps

theorem bit_and (d j : Nat) (hd : d < 18446744073709551616) : bits .and .u64 ((d : Int) / 2 ^ j) 1 = if d.testBit j then 1 else 0 := by
  have e : (d : Int) / 2 ^ j = ((d / 2 ^ j : Nat) : Int) := by norm_cast
  have h1 : d / 2 ^ j ≤ d := Nat.div_le_self _ _
  have h2 := u64_and_nat (d / 2 ^ j) 1 (by omega) (by omega)
  rw [e]
  rw [show ((1 : Nat) : Int) = 1 from rfl] at h2
  rw [h2, nat_mask1, bit_val]
  split <;> rfl
set_option maxRecDepth 100000 in
set_option maxHeartbeats 4000000 in
theorem lnext_any {w : World} {u : Value} {l : List MHap} (hl : Sl kHap All w u l) (h64 : l.length ≤ 64) (d : Nat) (hd : d < 18446744073709551616) (i : Nat) (hi : i < l.length) :
    Calls Try.prog 97 #[u, .int .u64 d, .int .i64 i] w fun e w' => e = .returned (.bool (lNext l d i l[i])) ∧ Fr Non w w' := by
  obtain ⟨va, vc, rfl, _, hx, _⟩ := hl.frm
  unfold maxLen at hx
  have HL := Lib.hid hl
  clear hl
  have B := Lib.hid (fun j => bit_and d j hd)
  obtain ⟨R, hR⟩ : ∃ R, lNext l d i l[i] = R := ⟨_, rfl⟩
  have HR := Lib.hid (show R = (!d.testBit i && !lBads d i l[i] 0 l) from hR.symm)
  rw [hR]
  clear hR
  have bi := B.out i
  have i0 : (0 : Int) ≤ (i : Int) := by omega
  have i1 : (i : Int) ≤ 64 := by omega
  have i2 : (i : Int) < (l.length : Int) := by omega
  obtain ⟨bt, hbt⟩ : ∃ b, d.testBit i = b := ⟨_, rfl⟩
  rw [hbt] at bi HR
  clear hbt
  cases bt with
  | true =>
    simp only [if_true] at bi
    have HE := Lib.hid (show R = false by rw [HR.out]; rfl)
    go_enter Try.func97, Try.ntmps97
    go_wp2_with fail
    go_ret
    exact ⟨by rw [HE.out]; rfl, Fr.refl _ _⟩
  | false =>
  simp only [Bool.false_eq_true, if_false] at bi
  go_enter Try.func97, Try.ntmps97
  go_wp2_with fail
  clear bi
  go_loopw [17] (fun v wr => ∃ (j : Nat), j ≤ l.length ∧ v = .int .i64 j ∧ Hid (Fr Non w wr ∧ lBads d i l[i] 0 (l.take j) = false)) (fun v _ => l.length - (intOf v).toNat)
  case atStart => exact ⟨0, by omega, rfl, Fr.refl _ _, rfl⟩
  case round =>
    obtain ⟨j, hj, rfl, HI⟩ := hrel
    by_cases hlt : j < l.length
    · have f1 := HI.out.1
      obtain ⟨B1, O1, cs, e1, _, hV, hlen, hld⟩ := hap_held (HL.out.stay f1) j hlt
      subst e1
      have j0 : (0 : Int) ≤ (j : Int) := by omega
      have j1 : (j : Int) < (l.length : Int) := by omega
      have j2 : (j : Int) ≤ 64 := by omega
      have HLD := Lib.hid (hld _ (Fr.refl _ _))
      clear hld
      have HV := Lib.hid hV
      have HLE := Lib.hid hlen
      have HF := Lib.hid f1
      clear hV hlen
      go_wp2_with (first | refine wpList_load_v rfl 76 _ rfl _ rfl _ HLD.out ?_ | refine wpList_store_block rfl 76 _ _ rfl wr.heap.size 0 rfl (.agg cs.toArray) rfl _ 76 (alloc_at wr _) ?hfit ?hinf ?hone ?_)
      case hinf => rw [show (Value.agg cs.toArray).cells.size = 23 by simp [Value.cells, HLE.out]]; kernel_rfl
      case hfit => simp [Value.cells, HLE.out]
      case hone => intro u hu; exact HV.out.ones u (by simpa [Value.cells] using hu)
      intro w2 hbx f2
      rw [putAt_whole _ _ (by simp [HLE.out])] at hbx
      have f3 : Fr Non wr w2 := ((Fr.refl Non wr).alloc _).trans2 f2 (fun b hb he => by omega)
      have LDB := Lib.hid (fun (w' : World) (f : Fr Non w2 w') => box_load (f.heap (show w2.heap[wr.heap.size]? = some (.cells cs.toArray 76 (0, 0)) by simpa [Value.cells] using hbx) id) HLE.out)
      have F3 := Lib.hid (HF.out.trans f3)
      clear hbx f2 f3
      obtain ⟨D, hD⟩ : ∃ D, wr.heap.size = D := ⟨_, rfl⟩
      rw [hD] at LDB ⊢
      clear hD
      obtain ⟨B2, O2, ds, e2, _, hV2, _, hld2⟩ := hap_held (HL.out.stay F3.out) i hi
      cases e2
      have LDI := Lib.hid hld2
      have HM := Lib.hid (fun (w' : World) => lmust_any (w := w') HV.out)
      have HO1 := Lib.hid (fun (w' : World) => lover_any (w := w') HV.out hV2)
      have HO2 := Lib.hid (fun (w' : World) => lover_any (w := w') hV2 HV.out)
      have bj := B.out j
      have HBAD := Lib.hid (show lBad d i l[i] j l[j] = (((!d.testBit j && decide (j ≠ i)) && hSure l[j] && hAhead l[j] l[i]) || (d.testBit j && hAhead l[i] l[j])) from rfl)
      obtain ⟨tb, htb⟩ : ∃ b, d.testBit j = b := ⟨_, rfl⟩
      obtain ⟨o1, ho1⟩ : ∃ b, hAhead l[j] l[i] = b := ⟨_, rfl⟩
      obtain ⟨o2, ho2⟩ : ∃ b, hAhead l[i] l[j] = b := ⟨_, rfl⟩
      obtain ⟨mu, hmu⟩ : ∃ b, hSure l[j] = b := ⟨_, rfl⟩
      rw [htb, ho1, ho2, hmu] at HBAD
      rw [htb] at bj
      rw [hmu] at HM
      rw [ho1] at HO1
      rw [ho2] at HO2
      clear htb ho1 ho2 hmu hV2 hld2 HLD HV HF f1
      cases tb with
      | true =>
        simp only [if_true] at bj
        replace HBAD := Lib.hid (show lBad d i l[i] j l[j] = o2 by rw [HBAD.out]; simp)
        go_wp2_with fail
        have fd : Fr Non w2 w2.drew := (Fr.refl _ _).drew
        refine wp_draw [((fun y => Fr Non w2 y), [(.free, 0), (.free, 1), (.free, 2), (.free, 3), (.free, 4), (.free, 5), (.free, 6), (.free, 7), (.held, 8), (.kept, 9), (.free, 10), (.free, 11), (.held, 12), (.free, 13), (.free, 14), (.free, 15), (.held, 16), (.kept, 17), (.free, 18), (.free, 19), (.free, 20), (.free, 21), (.free, 22), (.free, 23), (.free, 24), (.held, 25), (.held, 26), (.kept, 27), (.free, 28), (.free, 29)])] 30 (by kernel_rfl) (by kernel_rfl) (fun _ _ _ _ _ h => h) ⟨fd, ?_⟩
        generalize w2.drew = wd at fd ⊢
        repeat (first
          | (refine' wpPlan_free (v := _) rfl (by rfl) ?_ ?_
             rotate_left
             · (intro w'; skip; go_simp; try rfl)
             simp only [List.getElem_toArray, List.getElem_cons_zero, List.getElem_cons_succ, Act.put, List.setIfInBounds_toArray, List.set_cons_zero, List.set_cons_succ])
          | (refine' wpPlan_held (v := _) rfl (by rfl) (fun w' hS => held_of (LDB.out w' hS)) ?_
             simp only [List.getElem_toArray, List.getElem_cons_zero, List.getElem_cons_succ, Act.put, List.setIfInBounds_toArray, List.set_cons_zero, List.set_cons_succ])
          | (refine' wpPlan_held (v := _) rfl (by rfl) (fun w' hS => held_of (LDI.out w' hS)) ?_
             simp only [List.getElem_toArray, List.getElem_cons_zero, List.getElem_cons_succ, Act.put, List.setIfInBounds_toArray, List.set_cons_zero, List.set_cons_succ])
          | (refine' wpPlan_held (v := _) rfl (by rfl) ?_ ?_
             rotate_left
             · (intro w' hS; skip; clear hS; go_simp; try rfl)
             simp only [List.getElem_toArray, List.getElem_cons_zero, List.getElem_cons_succ, Act.put, List.setIfInBounds_toArray, List.set_cons_zero, List.set_cons_succ])
          | (refine' wpPlan_skip rfl (by rfl) ?_
             simp only [List.getElem_toArray, List.getElem_cons_zero, List.getElem_cons_succ, Act.put, List.setIfInBounds_toArray, List.set_cons_zero, List.set_cons_succ])
          | (refine' wpPlan_skipHeld rfl (by rfl) ?_
             simp only [List.getElem_toArray, List.getElem_cons_zero, List.getElem_cons_succ, Act.put, List.setIfInBounds_toArray, List.set_cons_zero, List.set_cons_succ]))
        refine' wpPlan_kept rfl ?_
        intro K hK
        go_simp
        refine hK _ _ ⟨fd, ?_⟩
        clear hK K
        repeat (first
          | (refine' wpPlan_free (v := _) rfl (by rfl) ?_ ?_
             rotate_left
             · (intro w'; skip; go_simp; try rfl)
             simp only [List.getElem_toArray, List.getElem_cons_zero, List.getElem_cons_succ, Act.put, List.setIfInBounds_toArray, List.set_cons_zero, List.set_cons_succ])
          | (refine' wpPlan_held (v := _) rfl (by rfl) (fun w' hS => held_of (LDB.out w' hS)) ?_
             simp only [List.getElem_toArray, List.getElem_cons_zero, List.getElem_cons_succ, Act.put, List.setIfInBounds_toArray, List.set_cons_zero, List.set_cons_succ])
          | (refine' wpPlan_held (v := _) rfl (by rfl) (fun w' hS => held_of (LDI.out w' hS)) ?_
             simp only [List.getElem_toArray, List.getElem_cons_zero, List.getElem_cons_succ, Act.put, List.setIfInBounds_toArray, List.set_cons_zero, List.set_cons_succ])
          | (refine' wpPlan_held (v := _) rfl (by rfl) ?_ ?_
             rotate_left
             · (intro w' hS; skip; clear hS; go_simp; try rfl)
             simp only [List.getElem_toArray, List.getElem_cons_zero, List.getElem_cons_succ, Act.put, List.setIfInBounds_toArray, List.set_cons_zero, List.set_cons_succ])
          | (refine' wpPlan_skip rfl (by rfl) ?_
             simp only [List.getElem_toArray, List.getElem_cons_zero, List.getElem_cons_succ, Act.put, List.setIfInBounds_toArray, List.set_cons_zero, List.set_cons_succ])
          | (refine' wpPlan_skipHeld rfl (by rfl) ?_
             simp only [List.getElem_toArray, List.getElem_cons_zero, List.getElem_cons_succ, Act.put, List.setIfInBounds_toArray, List.set_cons_zero, List.set_cons_succ]))
        refine' wpPlan_kept rfl ?_
        intro K hK
        go_simp
        refine hK _ _ ⟨fd, ?_⟩
        clear hK K
        repeat (first
          | (refine' wpPlan_free (v := _) rfl (by rfl) ?_ ?_
             rotate_left
             · (intro w'; skip; go_simp; try rfl)
             simp only [List.getElem_toArray, List.getElem_cons_zero, List.getElem_cons_succ, Act.put, List.setIfInBounds_toArray, List.set_cons_zero, List.set_cons_succ])
          | (refine' wpPlan_held (v := _) rfl (by rfl) (fun w' hS => held_of (LDB.out w' hS)) ?_
             simp only [List.getElem_toArray, List.getElem_cons_zero, List.getElem_cons_succ, Act.put, List.setIfInBounds_toArray, List.set_cons_zero, List.set_cons_succ])
          | (refine' wpPlan_held (v := _) rfl (by rfl) (fun w' hS => held_of (LDI.out w' hS)) ?_
             simp only [List.getElem_toArray, List.getElem_cons_zero, List.getElem_cons_succ, Act.put, List.setIfInBounds_toArray, List.set_cons_zero, List.set_cons_succ])
          | (refine' wpPlan_held (v := _) rfl (by rfl) ?_ ?_
             rotate_left
             · (intro w' hS; skip; clear hS; go_simp; try rfl)
             simp only [List.getElem_toArray, List.getElem_cons_zero, List.getElem_cons_succ, Act.put, List.setIfInBounds_toArray, List.set_cons_zero, List.set_cons_succ])
          | (refine' wpPlan_skip rfl (by rfl) ?_
             simp only [List.getElem_toArray, List.getElem_cons_zero, List.getElem_cons_succ, Act.put, List.setIfInBounds_toArray, List.set_cons_zero, List.set_cons_succ])
          | (refine' wpPlan_skipHeld rfl (by rfl) ?_
             simp only [List.getElem_toArray, List.getElem_cons_zero, List.getElem_cons_succ, Act.put, List.setIfInBounds_toArray, List.set_cons_zero, List.set_cons_succ]))
        refine' wpPlan_kept rfl ?_
        intro K hK
        go_simp
        refine (HO2.out _).mono ?_
        rintro e y1 ⟨rfl, g1⟩
        go_simp
        have fd1 := fd.trans g1
        refine hK _ _ ⟨fd1, ?_⟩
        clear hK K fd g1
        repeat (first
          | (refine' wpPlan_free (v := _) rfl (by rfl) ?_ ?_
             rotate_left
             · (intro w'; skip; go_simp; try rfl)
             simp only [List.getElem_toArray, List.getElem_cons_zero, List.getElem_cons_succ, Act.put, List.setIfInBounds_toArray, List.set_cons_zero, List.set_cons_succ])
          | (refine' wpPlan_held (v := _) rfl (by rfl) (fun w' hS => held_of (LDB.out w' hS)) ?_
             simp only [List.getElem_toArray, List.getElem_cons_zero, List.getElem_cons_succ, Act.put, List.setIfInBounds_toArray, List.set_cons_zero, List.set_cons_succ])
          | (refine' wpPlan_held (v := _) rfl (by rfl) (fun w' hS => held_of (LDI.out w' hS)) ?_
             simp only [List.getElem_toArray, List.getElem_cons_zero, List.getElem_cons_succ, Act.put, List.setIfInBounds_toArray, List.set_cons_zero, List.set_cons_succ])
          | (refine' wpPlan_held (v := _) rfl (by rfl) ?_ ?_
             rotate_left
             · (intro w' hS; skip; clear hS; go_simp; try rfl)
             simp only [List.getElem_toArray, List.getElem_cons_zero, List.getElem_cons_succ, Act.put, List.setIfInBounds_toArray, List.set_cons_zero, List.set_cons_succ])
          | (refine' wpPlan_skip rfl (by rfl) ?_
             simp only [List.getElem_toArray, List.getElem_cons_zero, List.getElem_cons_succ, Act.put, List.setIfInBounds_toArray, List.set_cons_zero, List.set_cons_succ])
          | (refine' wpPlan_skipHeld rfl (by rfl) ?_
             simp only [List.getElem_toArray, List.getElem_cons_zero, List.getElem_cons_succ, Act.put, List.setIfInBounds_toArray, List.set_cons_zero, List.set_cons_succ]))
        refine wpPlan_end ?_
        simp only [wpSegs, List.drop_succ_cons, List.drop_zero]
        have FD := Lib.hid (F3.out.trans fd1)
        clear fd1
        cases o2 with
        | true =>
          go_wp2_with fail
          go_ret
          exact ⟨by rw [HR.out, lBads_hit hlt HBAD.out]; rfl, FD.out⟩
        | false =>
          go_wp2_with fail
          go_roundw
          case rel => exact ⟨j + 1, by omega, by go_num, FD.out, by rw [lBads_next hlt, HI.out.2, HBAD.out]; rfl⟩
          case measure => simp [intOf]; omega
      | false =>
        simp only [Bool.false_eq_true, if_false] at bj
        by_cases hji : j = i
        · subst hji
          replace HBAD := Lib.hid (show lBad d j l[j] j l[j] = false by rw [HBAD.out]; simp)
          go_wp2_with fail
          have fd : Fr Non w2 w2.drew := (Fr.refl _ _).drew
          refine wp_draw [((fun y => Fr Non w2 y), [(.free, 0), (.free, 1), (.free, 2), (.free, 3), (.free, 4), (.free, 5), (.free, 6), (.free, 7), (.held, 8), (.kept, 9), (.free, 10), (.free, 11), (.held, 12), (.free, 13), (.free, 14), (.free, 15), (.held, 16), (.kept, 17), (.free, 18), (.free, 19), (.free, 20), (.free, 21), (.free, 22), (.free, 23), (.free, 24), (.held, 25), (.held, 26), (.kept, 27), (.free, 28), (.free, 29)])] 30 (by kernel_rfl) (by kernel_rfl) (fun _ _ _ _ _ h => h) ⟨fd, ?_⟩
          generalize w2.drew = wd at fd ⊢
          repeat (first
            | (refine' wpPlan_free (v := _) rfl (by rfl) ?_ ?_
               rotate_left
               · (intro w'; skip; go_simp; try rfl)
               simp only [List.getElem_toArray, List.getElem_cons_zero, List.getElem_cons_succ, Act.put, List.setIfInBounds_toArray, List.set_cons_zero, List.set_cons_succ])
            | (refine' wpPlan_held (v := _) rfl (by rfl) (fun w' hS => held_of (LDB.out w' hS)) ?_
               simp only [List.getElem_toArray, List.getElem_cons_zero, List.getElem_cons_succ, Act.put, List.setIfInBounds_toArray, List.set_cons_zero, List.set_cons_succ])
            | (refine' wpPlan_held (v := _) rfl (by rfl) (fun w' hS => held_of (LDI.out w' hS)) ?_
               simp only [List.getElem_toArray, List.getElem_cons_zero, List.getElem_cons_succ, Act.put, List.setIfInBounds_toArray, List.set_cons_zero, List.set_cons_succ])
            | (refine' wpPlan_held (v := _) rfl (by rfl) ?_ ?_
               rotate_left
               · (intro w' hS; skip; clear hS; go_simp; try rfl)
               simp only [List.getElem_toArray, List.getElem_cons_zero, List.getElem_cons_succ, Act.put, List.setIfInBounds_toArray, List.set_cons_zero, List.set_cons_succ])
            | (refine' wpPlan_skip rfl (by rfl) ?_
               simp only [List.getElem_toArray, List.getElem_cons_zero, List.getElem_cons_succ, Act.put, List.setIfInBounds_toArray, List.set_cons_zero, List.set_cons_succ])
            | (refine' wpPlan_skipHeld rfl (by rfl) ?_
               simp only [List.getElem_toArray, List.getElem_cons_zero, List.getElem_cons_succ, Act.put, List.setIfInBounds_toArray, List.set_cons_zero, List.set_cons_succ]))
          refine' wpPlan_kept rfl ?_
          intro K hK
          go_simp
          refine hK _ _ ⟨fd, ?_⟩
          clear hK K
          repeat (first
            | (refine' wpPlan_free (v := _) rfl (by rfl) ?_ ?_
               rotate_left
               · (intro w'; skip; go_simp; try rfl)
               simp only [List.getElem_toArray, List.getElem_cons_zero, List.getElem_cons_succ, Act.put, List.setIfInBounds_toArray, List.set_cons_zero, List.set_cons_succ])
            | (refine' wpPlan_held (v := _) rfl (by rfl) (fun w' hS => held_of (LDB.out w' hS)) ?_
               simp only [List.getElem_toArray, List.getElem_cons_zero, List.getElem_cons_succ, Act.put, List.setIfInBounds_toArray, List.set_cons_zero, List.set_cons_succ])
            | (refine' wpPlan_held (v := _) rfl (by rfl) (fun w' hS => held_of (LDI.out w' hS)) ?_
               simp only [List.getElem_toArray, List.getElem_cons_zero, List.getElem_cons_succ, Act.put, List.setIfInBounds_toArray, List.set_cons_zero, List.set_cons_succ])
            | (refine' wpPlan_held (v := _) rfl (by rfl) ?_ ?_
               rotate_left
               · (intro w' hS; skip; clear hS; go_simp; try rfl)
               simp only [List.getElem_toArray, List.getElem_cons_zero, List.getElem_cons_succ, Act.put, List.setIfInBounds_toArray, List.set_cons_zero, List.set_cons_succ])
            | (refine' wpPlan_skip rfl (by rfl) ?_
               simp only [List.getElem_toArray, List.getElem_cons_zero, List.getElem_cons_succ, Act.put, List.setIfInBounds_toArray, List.set_cons_zero, List.set_cons_succ])
            | (refine' wpPlan_skipHeld rfl (by rfl) ?_
               simp only [List.getElem_toArray, List.getElem_cons_zero, List.getElem_cons_succ, Act.put, List.setIfInBounds_toArray, List.set_cons_zero, List.set_cons_succ]))
          refine' wpPlan_kept rfl ?_
          intro K hK
          go_simp
          refine hK _ _ ⟨fd, ?_⟩
          clear hK K
          repeat (first
            | (refine' wpPlan_free (v := _) rfl (by rfl) ?_ ?_
               rotate_left
               · (intro w'; skip; go_simp; try rfl)
               simp only [List.getElem_toArray, List.getElem_cons_zero, List.getElem_cons_succ, Act.put, List.setIfInBounds_toArray, List.set_cons_zero, List.set_cons_succ])
            | (refine' wpPlan_held (v := _) rfl (by rfl) (fun w' hS => held_of (LDB.out w' hS)) ?_
               simp only [List.getElem_toArray, List.getElem_cons_zero, List.getElem_cons_succ, Act.put, List.setIfInBounds_toArray, List.set_cons_zero, List.set_cons_succ])
            | (refine' wpPlan_held (v := _) rfl (by rfl) (fun w' hS => held_of (LDI.out w' hS)) ?_
               simp only [List.getElem_toArray, List.getElem_cons_zero, List.getElem_cons_succ, Act.put, List.setIfInBounds_toArray, List.set_cons_zero, List.set_cons_succ])
            | (refine' wpPlan_held (v := _) rfl (by rfl) ?_ ?_
               rotate_left
               · (intro w' hS; skip; clear hS; go_simp; try rfl)
               simp only [List.getElem_toArray, List.getElem_cons_zero, List.getElem_cons_succ, Act.put, List.setIfInBounds_toArray, List.set_cons_zero, List.set_cons_succ])
            | (refine' wpPlan_skip rfl (by rfl) ?_
               simp only [List.getElem_toArray, List.getElem_cons_zero, List.getElem_cons_succ, Act.put, List.setIfInBounds_toArray, List.set_cons_zero, List.set_cons_succ])
            | (refine' wpPlan_skipHeld rfl (by rfl) ?_
               simp only [List.getElem_toArray, List.getElem_cons_zero, List.getElem_cons_succ, Act.put, List.setIfInBounds_toArray, List.set_cons_zero, List.set_cons_succ]))
          refine' wpPlan_kept rfl ?_
          intro K hK
          go_simp
          refine hK _ _ ⟨fd, ?_⟩
          clear hK K
          repeat (first
            | (refine' wpPlan_free (v := _) rfl (by rfl) ?_ ?_
               rotate_left
               · (intro w'; skip; go_simp; try rfl)
               simp only [List.getElem_toArray, List.getElem_cons_zero, List.getElem_cons_succ, Act.put, List.setIfInBounds_toArray, List.set_cons_zero, List.set_cons_succ])
            | (refine' wpPlan_held (v := _) rfl (by rfl) (fun w' hS => held_of (LDB.out w' hS)) ?_
               simp only [List.getElem_toArray, List.getElem_cons_zero, List.getElem_cons_succ, Act.put, List.setIfInBounds_toArray, List.set_cons_zero, List.set_cons_succ])
            | (refine' wpPlan_held (v := _) rfl (by rfl) (fun w' hS => held_of (LDI.out w' hS)) ?_
               simp only [List.getElem_toArray, List.getElem_cons_zero, List.getElem_cons_succ, Act.put, List.setIfInBounds_toArray, List.set_cons_zero, List.set_cons_succ])
            | (refine' wpPlan_held (v := _) rfl (by rfl) ?_ ?_
               rotate_left
               · (intro w' hS; skip; clear hS; go_simp; try rfl)
               simp only [List.getElem_toArray, List.getElem_cons_zero, List.getElem_cons_succ, Act.put, List.setIfInBounds_toArray, List.set_cons_zero, List.set_cons_succ])
            | (refine' wpPlan_skip rfl (by rfl) ?_
               simp only [List.getElem_toArray, List.getElem_cons_zero, List.getElem_cons_succ, Act.put, List.setIfInBounds_toArray, List.set_cons_zero, List.set_cons_succ])
            | (refine' wpPlan_skipHeld rfl (by rfl) ?_
               simp only [List.getElem_toArray, List.getElem_cons_zero, List.getElem_cons_succ, Act.put, List.setIfInBounds_toArray, List.set_cons_zero, List.set_cons_succ]))
          refine wpPlan_end ?_
          simp only [wpSegs, List.drop_succ_cons, List.drop_zero]
          have FD := Lib.hid (F3.out.trans fd)
          clear fd
          go_wp2_with fail
          go_roundw
          case rel => exact ⟨j + 1, by omega, by go_num, FD.out, by rw [lBads_next hlt, HI.out.2, HBAD.out]; rfl⟩
          case measure => simp [intOf]; omega
        have nji : ((j : Int) != (i : Int)) = true := by simp; omega
        have NJI := Lib.hid hji
        cases mu with
        | false =>
          replace HBAD := Lib.hid (show lBad d i l[i] j l[j] = false by rw [HBAD.out]; simp)
          go_wp2_with fail
          have fd : Fr Non w2 w2.drew := (Fr.refl _ _).drew
          refine wp_draw [((fun y => Fr Non w2 y), [(.free, 0), (.free, 1), (.free, 2), (.free, 3), (.free, 4), (.free, 5), (.free, 6), (.free, 7), (.held, 8), (.kept, 9), (.free, 10), (.free, 11), (.held, 12), (.free, 13), (.free, 14), (.free, 15), (.held, 16), (.kept, 17), (.free, 18), (.free, 19), (.free, 20), (.free, 21), (.free, 22), (.free, 23), (.free, 24), (.held, 25), (.held, 26), (.kept, 27), (.free, 28), (.free, 29)])] 30 (by kernel_rfl) (by kernel_rfl) (fun _ _ _ _ _ h => h) ⟨fd, ?_⟩
          generalize w2.drew = wd at fd ⊢
          repeat (first
            | (refine' wpPlan_free (v := _) rfl (by rfl) ?_ ?_
               rotate_left
               · (intro w'; skip; go_simp; try rfl)
               simp only [List.getElem_toArray, List.getElem_cons_zero, List.getElem_cons_succ, Act.put, List.setIfInBounds_toArray, List.set_cons_zero, List.set_cons_succ])
            | (refine' wpPlan_held (v := _) rfl (by rfl) (fun w' hS => held_of (LDB.out w' hS)) ?_
               simp only [List.getElem_toArray, List.getElem_cons_zero, List.getElem_cons_succ, Act.put, List.setIfInBounds_toArray, List.set_cons_zero, List.set_cons_succ])
            | (refine' wpPlan_held (v := _) rfl (by rfl) (fun w' hS => held_of (LDI.out w' hS)) ?_
               simp only [List.getElem_toArray, List.getElem_cons_zero, List.getElem_cons_succ, Act.put, List.setIfInBounds_toArray, List.set_cons_zero, List.set_cons_succ])
            | (refine' wpPlan_held (v := _) rfl (by rfl) ?_ ?_
               rotate_left
               · (intro w' hS; skip; clear hS; go_simp; try rfl)
               simp only [List.getElem_toArray, List.getElem_cons_zero, List.getElem_cons_succ, Act.put, List.setIfInBounds_toArray, List.set_cons_zero, List.set_cons_succ])
            | (refine' wpPlan_skip rfl (by rfl) ?_
               simp only [List.getElem_toArray, List.getElem_cons_zero, List.getElem_cons_succ, Act.put, List.setIfInBounds_toArray, List.set_cons_zero, List.set_cons_succ])
            | (refine' wpPlan_skipHeld rfl (by rfl) ?_
               simp only [List.getElem_toArray, List.getElem_cons_zero, List.getElem_cons_succ, Act.put, List.setIfInBounds_toArray, List.set_cons_zero, List.set_cons_succ]))
          refine' wpPlan_kept rfl ?_
          intro K hK
          go_simp
          refine (HM.out _).mono ?_
          rintro e y1 ⟨rfl, g1⟩
          go_simp
          have fd1 := fd.trans g1
          refine hK _ _ ⟨fd1, ?_⟩
          clear hK K fd g1
          repeat (first
            | (refine' wpPlan_free (v := _) rfl (by rfl) ?_ ?_
               rotate_left
               · (intro w'; skip; go_simp; try rfl)
               simp only [List.getElem_toArray, List.getElem_cons_zero, List.getElem_cons_succ, Act.put, List.setIfInBounds_toArray, List.set_cons_zero, List.set_cons_succ])
            | (refine' wpPlan_held (v := _) rfl (by rfl) (fun w' hS => held_of (LDB.out w' hS)) ?_
               simp only [List.getElem_toArray, List.getElem_cons_zero, List.getElem_cons_succ, Act.put, List.setIfInBounds_toArray, List.set_cons_zero, List.set_cons_succ])
            | (refine' wpPlan_held (v := _) rfl (by rfl) (fun w' hS => held_of (LDI.out w' hS)) ?_
               simp only [List.getElem_toArray, List.getElem_cons_zero, List.getElem_cons_succ, Act.put, List.setIfInBounds_toArray, List.set_cons_zero, List.set_cons_succ])
            | (refine' wpPlan_held (v := _) rfl (by rfl) ?_ ?_
               rotate_left
               · (intro w' hS; skip; clear hS; go_simp; try rfl)
               simp only [List.getElem_toArray, List.getElem_cons_zero, List.getElem_cons_succ, Act.put, List.setIfInBounds_toArray, List.set_cons_zero, List.set_cons_succ])
            | (refine' wpPlan_skip rfl (by rfl) ?_
               simp only [List.getElem_toArray, List.getElem_cons_zero, List.getElem_cons_succ, Act.put, List.setIfInBounds_toArray, List.set_cons_zero, List.set_cons_succ])
            | (refine' wpPlan_skipHeld rfl (by rfl) ?_
               simp only [List.getElem_toArray, List.getElem_cons_zero, List.getElem_cons_succ, Act.put, List.setIfInBounds_toArray, List.set_cons_zero, List.set_cons_succ]))
          refine' wpPlan_kept rfl ?_
          intro K hK
          go_simp
          refine hK _ _ ⟨fd1, ?_⟩
          clear hK K
          repeat (first
            | (refine' wpPlan_free (v := _) rfl (by rfl) ?_ ?_
               rotate_left
               · (intro w'; skip; go_simp; try rfl)
               simp only [List.getElem_toArray, List.getElem_cons_zero, List.getElem_cons_succ, Act.put, List.setIfInBounds_toArray, List.set_cons_zero, List.set_cons_succ])
            | (refine' wpPlan_held (v := _) rfl (by rfl) (fun w' hS => held_of (LDB.out w' hS)) ?_
               simp only [List.getElem_toArray, List.getElem_cons_zero, List.getElem_cons_succ, Act.put, List.setIfInBounds_toArray, List.set_cons_zero, List.set_cons_succ])
            | (refine' wpPlan_held (v := _) rfl (by rfl) (fun w' hS => held_of (LDI.out w' hS)) ?_
               simp only [List.getElem_toArray, List.getElem_cons_zero, List.getElem_cons_succ, Act.put, List.setIfInBounds_toArray, List.set_cons_zero, List.set_cons_succ])
            | (refine' wpPlan_held (v := _) rfl (by rfl) ?_ ?_
               rotate_left
               · (intro w' hS; skip; clear hS; go_simp; try rfl)
               simp only [List.getElem_toArray, List.getElem_cons_zero, List.getElem_cons_succ, Act.put, List.setIfInBounds_toArray, List.set_cons_zero, List.set_cons_succ])
            | (refine' wpPlan_skip rfl (by rfl) ?_
               simp only [List.getElem_toArray, List.getElem_cons_zero, List.getElem_cons_succ, Act.put, List.setIfInBounds_toArray, List.set_cons_zero, List.set_cons_succ])
            | (refine' wpPlan_skipHeld rfl (by rfl) ?_
               simp only [List.getElem_toArray, List.getElem_cons_zero, List.getElem_cons_succ, Act.put, List.setIfInBounds_toArray, List.set_cons_zero, List.set_cons_succ]))
          refine' wpPlan_kept rfl ?_
          intro K hK
          go_simp
          refine hK _ _ ⟨fd1, ?_⟩
          clear hK K
          repeat (first
            | (refine' wpPlan_free (v := _) rfl (by rfl) ?_ ?_
               rotate_left
               · (intro w'; skip; go_simp; try rfl)
               simp only [List.getElem_toArray, List.getElem_cons_zero, List.getElem_cons_succ, Act.put, List.setIfInBounds_toArray, List.set_cons_zero, List.set_cons_succ])
            | (refine' wpPlan_held (v := _) rfl (by rfl) (fun w' hS => held_of (LDB.out w' hS)) ?_
               simp only [List.getElem_toArray, List.getElem_cons_zero, List.getElem_cons_succ, Act.put, List.setIfInBounds_toArray, List.set_cons_zero, List.set_cons_succ])
            | (refine' wpPlan_held (v := _) rfl (by rfl) (fun w' hS => held_of (LDI.out w' hS)) ?_
               simp only [List.getElem_toArray, List.getElem_cons_zero, List.getElem_cons_succ, Act.put, List.setIfInBounds_toArray, List.set_cons_zero, List.set_cons_succ])
            | (refine' wpPlan_held (v := _) rfl (by rfl) ?_ ?_
               rotate_left
               · (intro w' hS; skip; clear hS; go_simp; try rfl)
               simp only [List.getElem_toArray, List.getElem_cons_zero, List.getElem_cons_succ, Act.put, List.setIfInBounds_toArray, List.set_cons_zero, List.set_cons_succ])
            | (refine' wpPlan_skip rfl (by rfl) ?_
               simp only [List.getElem_toArray, List.getElem_cons_zero, List.getElem_cons_succ, Act.put, List.setIfInBounds_toArray, List.set_cons_zero, List.set_cons_succ])
            | (refine' wpPlan_skipHeld rfl (by rfl) ?_
               simp only [List.getElem_toArray, List.getElem_cons_zero, List.getElem_cons_succ, Act.put, List.setIfInBounds_toArray, List.set_cons_zero, List.set_cons_succ]))
          refine wpPlan_end ?_
          simp only [wpSegs, List.drop_succ_cons, List.drop_zero]
          have FD := Lib.hid (F3.out.trans fd1)
          clear fd1
          go_wp2_with fail
          go_roundw
          case rel => exact ⟨j + 1, by omega, by go_num, FD.out, by rw [lBads_next hlt, HI.out.2, HBAD.out]; rfl⟩
          case measure => simp [intOf]; omega
        | true =>
          replace HBAD := Lib.hid (show lBad d i l[i] j l[j] = o1 by rw [HBAD.out]; simp [NJI.out])
          cases o1 with
          | true =>
            go_wp2_with fail
            have fd : Fr Non w2 w2.drew := (Fr.refl _ _).drew
            refine wp_draw [((fun y => Fr Non w2 y), [(.free, 0), (.free, 1), (.free, 2), (.free, 3), (.free, 4), (.free, 5), (.free, 6), (.free, 7), (.held, 8), (.kept, 9), (.free, 10), (.free, 11), (.held, 12), (.free, 13), (.free, 14), (.free, 15), (.held, 16), (.kept, 17), (.free, 18), (.free, 19), (.free, 20), (.free, 21), (.free, 22), (.free, 23), (.free, 24), (.held, 25), (.held, 26), (.kept, 27), (.free, 28), (.free, 29)])] 30 (by kernel_rfl) (by kernel_rfl) (fun _ _ _ _ _ h => h) ⟨fd, ?_⟩
            generalize w2.drew = wd at fd ⊢
            repeat (first
              | (refine' wpPlan_free (v := _) rfl (by rfl) ?_ ?_
                 rotate_left
                 · (intro w'; skip; go_simp; try rfl)
                 simp only [List.getElem_toArray, List.getElem_cons_zero, List.getElem_cons_succ, Act.put, List.setIfInBounds_toArray, List.set_cons_zero, List.set_cons_succ])
              | (refine' wpPlan_held (v := _) rfl (by rfl) (fun w' hS => held_of (LDB.out w' hS)) ?_
                 simp only [List.getElem_toArray, List.getElem_cons_zero, List.getElem_cons_succ, Act.put, List.setIfInBounds_toArray, List.set_cons_zero, List.set_cons_succ])
              | (refine' wpPlan_held (v := _) rfl (by rfl) (fun w' hS => held_of (LDI.out w' hS)) ?_
                 simp only [List.getElem_toArray, List.getElem_cons_zero, List.getElem_cons_succ, Act.put, List.setIfInBounds_toArray, List.set_cons_zero, List.set_cons_succ])
              | (refine' wpPlan_held (v := _) rfl (by rfl) ?_ ?_
                 rotate_left
                 · (intro w' hS; skip; clear hS; go_simp; try rfl)
                 simp only [List.getElem_toArray, List.getElem_cons_zero, List.getElem_cons_succ, Act.put, List.setIfInBounds_toArray, List.set_cons_zero, List.set_cons_succ])
              | (refine' wpPlan_skip rfl (by rfl) ?_
                 simp only [List.getElem_toArray, List.getElem_cons_zero, List.getElem_cons_succ, Act.put, List.setIfInBounds_toArray, List.set_cons_zero, List.set_cons_succ])
              | (refine' wpPlan_skipHeld rfl (by rfl) ?_
                 simp only [List.getElem_toArray, List.getElem_cons_zero, List.getElem_cons_succ, Act.put, List.setIfInBounds_toArray, List.set_cons_zero, List.set_cons_succ]))
            refine' wpPlan_kept rfl ?_
            intro K hK
            go_simp
            refine (HM.out _).mono ?_
            rintro e y1 ⟨rfl, g1⟩
            go_simp
            have fd1 := fd.trans g1
            refine hK _ _ ⟨fd1, ?_⟩
            clear hK K fd g1
            repeat (first
              | (refine' wpPlan_free (v := _) rfl (by rfl) ?_ ?_
                 rotate_left
                 · (intro w'; skip; go_simp; try rfl)
                 simp only [List.getElem_toArray, List.getElem_cons_zero, List.getElem_cons_succ, Act.put, List.setIfInBounds_toArray, List.set_cons_zero, List.set_cons_succ])
              | (refine' wpPlan_held (v := _) rfl (by rfl) (fun w' hS => held_of (LDB.out w' hS)) ?_
                 simp only [List.getElem_toArray, List.getElem_cons_zero, List.getElem_cons_succ, Act.put, List.setIfInBounds_toArray, List.set_cons_zero, List.set_cons_succ])
              | (refine' wpPlan_held (v := _) rfl (by rfl) (fun w' hS => held_of (LDI.out w' hS)) ?_
                 simp only [List.getElem_toArray, List.getElem_cons_zero, List.getElem_cons_succ, Act.put, List.setIfInBounds_toArray, List.set_cons_zero, List.set_cons_succ])
              | (refine' wpPlan_held (v := _) rfl (by rfl) ?_ ?_
                 rotate_left
                 · (intro w' hS; skip; clear hS; go_simp; try rfl)
                 simp only [List.getElem_toArray, List.getElem_cons_zero, List.getElem_cons_succ, Act.put, List.setIfInBounds_toArray, List.set_cons_zero, List.set_cons_succ])
              | (refine' wpPlan_skip rfl (by rfl) ?_
                 simp only [List.getElem_toArray, List.getElem_cons_zero, List.getElem_cons_succ, Act.put, List.setIfInBounds_toArray, List.set_cons_zero, List.set_cons_succ])
              | (refine' wpPlan_skipHeld rfl (by rfl) ?_
                 simp only [List.getElem_toArray, List.getElem_cons_zero, List.getElem_cons_succ, Act.put, List.setIfInBounds_toArray, List.set_cons_zero, List.set_cons_succ]))
            refine' wpPlan_kept rfl ?_
            intro K hK
            go_simp
            refine (HO1.out _).mono ?_
            rintro e y2 ⟨rfl, g2⟩
            go_simp
            have fd2 := fd1.trans g2
            refine hK _ _ ⟨fd2, ?_⟩
            clear hK K fd1 g2
            repeat (first
              | (refine' wpPlan_free (v := _) rfl (by rfl) ?_ ?_
                 rotate_left
                 · (intro w'; skip; go_simp; try rfl)
                 simp only [List.getElem_toArray, List.getElem_cons_zero, List.getElem_cons_succ, Act.put, List.setIfInBounds_toArray, List.set_cons_zero, List.set_cons_succ])
              | (refine' wpPlan_held (v := _) rfl (by rfl) (fun w' hS => held_of (LDB.out w' hS)) ?_
                 simp only [List.getElem_toArray, List.getElem_cons_zero, List.getElem_cons_succ, Act.put, List.setIfInBounds_toArray, List.set_cons_zero, List.set_cons_succ])
              | (refine' wpPlan_held (v := _) rfl (by rfl) (fun w' hS => held_of (LDI.out w' hS)) ?_
                 simp only [List.getElem_toArray, List.getElem_cons_zero, List.getElem_cons_succ, Act.put, List.setIfInBounds_toArray, List.set_cons_zero, List.set_cons_succ])
              | (refine' wpPlan_held (v := _) rfl (by rfl) ?_ ?_
                 rotate_left
                 · (intro w' hS; skip; clear hS; go_simp; try rfl)
                 simp only [List.getElem_toArray, List.getElem_cons_zero, List.getElem_cons_succ, Act.put, List.setIfInBounds_toArray, List.set_cons_zero, List.set_cons_succ])
              | (refine' wpPlan_skip rfl (by rfl) ?_
                 simp only [List.getElem_toArray, List.getElem_cons_zero, List.getElem_cons_succ, Act.put, List.setIfInBounds_toArray, List.set_cons_zero, List.set_cons_succ])
              | (refine' wpPlan_skipHeld rfl (by rfl) ?_
                 simp only [List.getElem_toArray, List.getElem_cons_zero, List.getElem_cons_succ, Act.put, List.setIfInBounds_toArray, List.set_cons_zero, List.set_cons_succ]))
            refine' wpPlan_kept rfl ?_
            intro K hK
            go_simp
            refine hK _ _ ⟨fd2, ?_⟩
            clear hK K
            repeat (first
              | (refine' wpPlan_free (v := _) rfl (by rfl) ?_ ?_
                 rotate_left
                 · (intro w'; skip; go_simp; try rfl)
                 simp only [List.getElem_toArray, List.getElem_cons_zero, List.getElem_cons_succ, Act.put, List.setIfInBounds_toArray, List.set_cons_zero, List.set_cons_succ])
              | (refine' wpPlan_held (v := _) rfl (by rfl) (fun w' hS => held_of (LDB.out w' hS)) ?_
                 simp only [List.getElem_toArray, List.getElem_cons_zero, List.getElem_cons_succ, Act.put, List.setIfInBounds_toArray, List.set_cons_zero, List.set_cons_succ])
              | (refine' wpPlan_held (v := _) rfl (by rfl) (fun w' hS => held_of (LDI.out w' hS)) ?_
                 simp only [List.getElem_toArray, List.getElem_cons_zero, List.getElem_cons_succ, Act.put, List.setIfInBounds_toArray, List.set_cons_zero, List.set_cons_succ])
              | (refine' wpPlan_held (v := _) rfl (by rfl) ?_ ?_
                 rotate_left
                 · (intro w' hS; skip; clear hS; go_simp; try rfl)
                 simp only [List.getElem_toArray, List.getElem_cons_zero, List.getElem_cons_succ, Act.put, List.setIfInBounds_toArray, List.set_cons_zero, List.set_cons_succ])
              | (refine' wpPlan_skip rfl (by rfl) ?_
                 simp only [List.getElem_toArray, List.getElem_cons_zero, List.getElem_cons_succ, Act.put, List.setIfInBounds_toArray, List.set_cons_zero, List.set_cons_succ])
              | (refine' wpPlan_skipHeld rfl (by rfl) ?_
                 simp only [List.getElem_toArray, List.getElem_cons_zero, List.getElem_cons_succ, Act.put, List.setIfInBounds_toArray, List.set_cons_zero, List.set_cons_succ]))
            refine wpPlan_end ?_
            simp only [wpSegs, List.drop_succ_cons, List.drop_zero]
            have FD := Lib.hid (F3.out.trans fd2)
            clear fd2
            go_wp2_with fail
            go_ret
            exact ⟨by rw [HR.out, lBads_hit hlt HBAD.out]; rfl, FD.out⟩
          | false =>
            go_wp2_with fail
            have fd : Fr Non w2 w2.drew := (Fr.refl _ _).drew
            refine wp_draw [((fun y => Fr Non w2 y), [(.free, 0), (.free, 1), (.free, 2), (.free, 3), (.free, 4), (.free, 5), (.free, 6), (.free, 7), (.held, 8), (.kept, 9), (.free, 10), (.free, 11), (.held, 12), (.free, 13), (.free, 14), (.free, 15), (.held, 16), (.kept, 17), (.free, 18), (.free, 19), (.free, 20), (.free, 21), (.free, 22), (.free, 23), (.free, 24), (.held, 25), (.held, 26), (.kept, 27), (.free, 28), (.free, 29)])] 30 (by kernel_rfl) (by kernel_rfl) (fun _ _ _ _ _ h => h) ⟨fd, ?_⟩
            generalize w2.drew = wd at fd ⊢
            repeat (first
              | (refine' wpPlan_free (v := _) rfl (by rfl) ?_ ?_
                 rotate_left
                 · (intro w'; skip; go_simp; try rfl)
                 simp only [List.getElem_toArray, List.getElem_cons_zero, List.getElem_cons_succ, Act.put, List.setIfInBounds_toArray, List.set_cons_zero, List.set_cons_succ])
              | (refine' wpPlan_held (v := _) rfl (by rfl) (fun w' hS => held_of (LDB.out w' hS)) ?_
                 simp only [List.getElem_toArray, List.getElem_cons_zero, List.getElem_cons_succ, Act.put, List.setIfInBounds_toArray, List.set_cons_zero, List.set_cons_succ])
              | (refine' wpPlan_held (v := _) rfl (by rfl) (fun w' hS => held_of (LDI.out w' hS)) ?_
                 simp only [List.getElem_toArray, List.getElem_cons_zero, List.getElem_cons_succ, Act.put, List.setIfInBounds_toArray, List.set_cons_zero, List.set_cons_succ])
              | (refine' wpPlan_held (v := _) rfl (by rfl) ?_ ?_
                 rotate_left
                 · (intro w' hS; skip; clear hS; go_simp; try rfl)
                 simp only [List.getElem_toArray, List.getElem_cons_zero, List.getElem_cons_succ, Act.put, List.setIfInBounds_toArray, List.set_cons_zero, List.set_cons_succ])
              | (refine' wpPlan_skip rfl (by rfl) ?_
                 simp only [List.getElem_toArray, List.getElem_cons_zero, List.getElem_cons_succ, Act.put, List.setIfInBounds_toArray, List.set_cons_zero, List.set_cons_succ])
              | (refine' wpPlan_skipHeld rfl (by rfl) ?_
                 simp only [List.getElem_toArray, List.getElem_cons_zero, List.getElem_cons_succ, Act.put, List.setIfInBounds_toArray, List.set_cons_zero, List.set_cons_succ]))
            refine' wpPlan_kept rfl ?_
            intro K hK
            go_simp
            refine (HM.out _).mono ?_
            rintro e y1 ⟨rfl, g1⟩
            go_simp
            have fd1 := fd.trans g1
            refine hK _ _ ⟨fd1, ?_⟩
            clear hK K fd g1
            repeat (first
              | (refine' wpPlan_free (v := _) rfl (by rfl) ?_ ?_
                 rotate_left
                 · (intro w'; skip; go_simp; try rfl)
                 simp only [List.getElem_toArray, List.getElem_cons_zero, List.getElem_cons_succ, Act.put, List.setIfInBounds_toArray, List.set_cons_zero, List.set_cons_succ])
              | (refine' wpPlan_held (v := _) rfl (by rfl) (fun w' hS => held_of (LDB.out w' hS)) ?_
                 simp only [List.getElem_toArray, List.getElem_cons_zero, List.getElem_cons_succ, Act.put, List.setIfInBounds_toArray, List.set_cons_zero, List.set_cons_succ])
              | (refine' wpPlan_held (v := _) rfl (by rfl) (fun w' hS => held_of (LDI.out w' hS)) ?_
                 simp only [List.getElem_toArray, List.getElem_cons_zero, List.getElem_cons_succ, Act.put, List.setIfInBounds_toArray, List.set_cons_zero, List.set_cons_succ])
              | (refine' wpPlan_held (v := _) rfl (by rfl) ?_ ?_
                 rotate_left
                 · (intro w' hS; skip; clear hS; go_simp; try rfl)
                 simp only [List.getElem_toArray, List.getElem_cons_zero, List.getElem_cons_succ, Act.put, List.setIfInBounds_toArray, List.set_cons_zero, List.set_cons_succ])
              | (refine' wpPlan_skip rfl (by rfl) ?_
                 simp only [List.getElem_toArray, List.getElem_cons_zero, List.getElem_cons_succ, Act.put, List.setIfInBounds_toArray, List.set_cons_zero, List.set_cons_succ])
              | (refine' wpPlan_skipHeld rfl (by rfl) ?_
                 simp only [List.getElem_toArray, List.getElem_cons_zero, List.getElem_cons_succ, Act.put, List.setIfInBounds_toArray, List.set_cons_zero, List.set_cons_succ]))
            refine' wpPlan_kept rfl ?_
            intro K hK
            go_simp
            refine (HO1.out _).mono ?_
            rintro e y2 ⟨rfl, g2⟩
            go_simp
            have fd2 := fd1.trans g2
            refine hK _ _ ⟨fd2, ?_⟩
            clear hK K fd1 g2
            repeat (first
              | (refine' wpPlan_free (v := _) rfl (by rfl) ?_ ?_
                 rotate_left
                 · (intro w'; skip; go_simp; try rfl)
                 simp only [List.getElem_toArray, List.getElem_cons_zero, List.getElem_cons_succ, Act.put, List.setIfInBounds_toArray, List.set_cons_zero, List.set_cons_succ])
              | (refine' wpPlan_held (v := _) rfl (by rfl) (fun w' hS => held_of (LDB.out w' hS)) ?_
                 simp only [List.getElem_toArray, List.getElem_cons_zero, List.getElem_cons_succ, Act.put, List.setIfInBounds_toArray, List.set_cons_zero, List.set_cons_succ])
              | (refine' wpPlan_held (v := _) rfl (by rfl) (fun w' hS => held_of (LDI.out w' hS)) ?_
                 simp only [List.getElem_toArray, List.getElem_cons_zero, List.getElem_cons_succ, Act.put, List.setIfInBounds_toArray, List.set_cons_zero, List.set_cons_succ])
              | (refine' wpPlan_held (v := _) rfl (by rfl) ?_ ?_
                 rotate_left
                 · (intro w' hS; skip; clear hS; go_simp; try rfl)
                 simp only [List.getElem_toArray, List.getElem_cons_zero, List.getElem_cons_succ, Act.put, List.setIfInBounds_toArray, List.set_cons_zero, List.set_cons_succ])
              | (refine' wpPlan_skip rfl (by rfl) ?_
                 simp only [List.getElem_toArray, List.getElem_cons_zero, List.getElem_cons_succ, Act.put, List.setIfInBounds_toArray, List.set_cons_zero, List.set_cons_succ])
              | (refine' wpPlan_skipHeld rfl (by rfl) ?_
                 simp only [List.getElem_toArray, List.getElem_cons_zero, List.getElem_cons_succ, Act.put, List.setIfInBounds_toArray, List.set_cons_zero, List.set_cons_succ]))
            refine' wpPlan_kept rfl ?_
            intro K hK
            go_simp
            refine hK _ _ ⟨fd2, ?_⟩
            clear hK K
            repeat (first
              | (refine' wpPlan_free (v := _) rfl (by rfl) ?_ ?_
                 rotate_left
                 · (intro w'; skip; go_simp; try rfl)
                 simp only [List.getElem_toArray, List.getElem_cons_zero, List.getElem_cons_succ, Act.put, List.setIfInBounds_toArray, List.set_cons_zero, List.set_cons_succ])
              | (refine' wpPlan_held (v := _) rfl (by rfl) (fun w' hS => held_of (LDB.out w' hS)) ?_
                 simp only [List.getElem_toArray, List.getElem_cons_zero, List.getElem_cons_succ, Act.put, List.setIfInBounds_toArray, List.set_cons_zero, List.set_cons_succ])
              | (refine' wpPlan_held (v := _) rfl (by rfl) (fun w' hS => held_of (LDI.out w' hS)) ?_
                 simp only [List.getElem_toArray, List.getElem_cons_zero, List.getElem_cons_succ, Act.put, List.setIfInBounds_toArray, List.set_cons_zero, List.set_cons_succ])
              | (refine' wpPlan_held (v := _) rfl (by rfl) ?_ ?_
                 rotate_left
                 · (intro w' hS; skip; clear hS; go_simp; try rfl)
                 simp only [List.getElem_toArray, List.getElem_cons_zero, List.getElem_cons_succ, Act.put, List.setIfInBounds_toArray, List.set_cons_zero, List.set_cons_succ])
              | (refine' wpPlan_skip rfl (by rfl) ?_
                 simp only [List.getElem_toArray, List.getElem_cons_zero, List.getElem_cons_succ, Act.put, List.setIfInBounds_toArray, List.set_cons_zero, List.set_cons_succ])
              | (refine' wpPlan_skipHeld rfl (by rfl) ?_
                 simp only [List.getElem_toArray, List.getElem_cons_zero, List.getElem_cons_succ, Act.put, List.setIfInBounds_toArray, List.set_cons_zero, List.set_cons_succ]))
            refine wpPlan_end ?_
            simp only [wpSegs, List.drop_succ_cons, List.drop_zero]
            have FD := Lib.hid (F3.out.trans fd2)
            clear fd2
            go_wp2_with fail
            go_roundw
            case rel => exact ⟨j + 1, by omega, by go_num, FD.out, by rw [lBads_next hlt, HI.out.2, HBAD.out]; rfl⟩
            case measure => simp [intOf]; omega
    · obtain rfl : j = l.length := by omega
      have HE := Lib.hid (show R = true by rw [HR.out]; have := HI.out.2; rw [List.take_of_length_le (by omega)] at this; rw [this]; rfl)
      go_wp2_with fail
      go_ret
      exact ⟨by rw [HE.out]; rfl, HI.out.1⟩
end Go.Proofs.Ytplhcfaonhkegaa
