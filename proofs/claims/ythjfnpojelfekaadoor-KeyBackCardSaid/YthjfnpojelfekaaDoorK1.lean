/-
  Keys: Check, Compare, Less, on both sides.
-/
import Derived.Test.YthjfnpojelfekaaDoorK0
import Derived.Test.YthjfnpojelfekaaDoorD
import Derived.Test.YthjfnpojelfekaaDoorE
import Derived.Test.YthjfnpojelfekaaDoorS
import Derived.Test.YthjfnpojelfekaaDoorH
import Derived.Test.YthjfnpojelfekaaDoorB
import Derived.Laws.StructEq
import Derived.Deep.QuietTactic
import Derived.BigQuiet
import Derived.KernelRfl
namespace Go.Proofs.YthjfnpojelfekaaDoor
open Go.RowKit

set_option maxRecDepth 100000 in
set_option maxHeartbeats 1000000 in
theorem check_any (w : World) (k : MK) : Calls Tryd.prog 11 #[kV k] w fun e w' => e = .returned (.int .i64 (kChk k)) ∧ Fr Non w w' := by
  obtain ⟨r, n⟩ := k
  unfold kV
  by_cases h1 : r = 2
  · subst h1
    rw [show kChk (2, n) = 0 by simp [kChk, kOk]]
    go_enter Tryd.func11, Tryd.ntmps11
    go_wp2_with fail
    go_ret
    exact ⟨by trivial, (Fr.refl _ _).alloc _⟩
  have z1 : (r == 2) = false := by simpa using h1
  by_cases h2 : r = 1
  · subst h2
    by_cases h0 : n = 0
    · subst h0
      rw [show kChk (1, 0) = 0 by simp [kChk, kOk]]
      go_enter Tryd.func11, Tryd.ntmps11
      go_wp2_with fail
      go_ret
      exact ⟨by trivial, (Fr.refl _ _).alloc _⟩
    · rw [show kChk (1, n) = 20 by simp [kChk, kOk, h0]]
      have z0 : (n == 0) = false := by simpa using h0
      go_enter Tryd.func11, Tryd.ntmps11
      go_wp2_with fail
      go_ret
      exact ⟨by trivial, (Fr.refl _ _).alloc _⟩
  have z2 : (r == 1) = false := by simpa using h2
  by_cases h3 : r = 3
  · subst h3
    by_cases h0 : n = 0
    · subst h0
      rw [show kChk (3, 0) = 0 by simp [kChk, kOk]]
      go_enter Tryd.func11, Tryd.ntmps11
      go_wp2_with fail
      go_ret
      exact ⟨by trivial, (Fr.refl _ _).alloc _⟩
    · rw [show kChk (3, n) = 20 by simp [kChk, kOk, h0]]
      have z0 : (n == 0) = false := by simpa using h0
      go_enter Tryd.func11, Tryd.ntmps11
      go_wp2_with fail
      go_ret
      exact ⟨by trivial, (Fr.refl _ _).alloc _⟩
  have z3 : (r == 3) = false := by simpa using h3
  rw [show kChk (r, n) = 20 by simp [kChk, kOk, h1, h2, h3]]
  go_enter Tryd.func11, Tryd.ntmps11
  go_wp2_with fail
  go_ret
  exact ⟨by trivial, (Fr.refl _ _).alloc _⟩

set_option maxRecDepth 100000 in
set_option maxHeartbeats 1000000 in
theorem rcheck_any (w : World) (k : MK) : Calls Tryd.prog 12 #[kV k] w fun e w' => e = .returned (.int .i64 (kChk k)) ∧ Fr Non w w' := by
  obtain ⟨r, n⟩ := k
  unfold kV
  by_cases h1 : r = 2
  · subst h1
    rw [show kChk (2, n) = 0 by simp [kChk, kOk]]
    go_enter Tryd.func12, Tryd.ntmps12
    go_wp2_with fail
    go_ret
    exact ⟨by trivial, (Fr.refl _ _).alloc _⟩
  have z1 : (r == 2) = false := by simpa using h1
  by_cases h2 : r = 1
  · subst h2
    by_cases h0 : n = 0
    · subst h0
      rw [show kChk (1, 0) = 0 by simp [kChk, kOk]]
      go_enter Tryd.func12, Tryd.ntmps12
      go_wp2_with fail
      go_ret
      exact ⟨by trivial, (Fr.refl _ _).alloc _⟩
    · rw [show kChk (1, n) = 20 by simp [kChk, kOk, h0]]
      have z0 : (n == 0) = false := by simpa using h0
      go_enter Tryd.func12, Tryd.ntmps12
      go_wp2_with fail
      go_ret
      exact ⟨by trivial, (Fr.refl _ _).alloc _⟩
  have z2 : (r == 1) = false := by simpa using h2
  by_cases h3 : r = 3
  · subst h3
    by_cases h0 : n = 0
    · subst h0
      rw [show kChk (3, 0) = 0 by simp [kChk, kOk]]
      go_enter Tryd.func12, Tryd.ntmps12
      go_wp2_with fail
      go_ret
      exact ⟨by trivial, (Fr.refl _ _).alloc _⟩
    · rw [show kChk (3, n) = 20 by simp [kChk, kOk, h0]]
      have z0 : (n == 0) = false := by simpa using h0
      go_enter Tryd.func12, Tryd.ntmps12
      go_wp2_with fail
      go_ret
      exact ⟨by trivial, (Fr.refl _ _).alloc _⟩
  have z3 : (r == 3) = false := by simpa using h3
  rw [show kChk (r, n) = 20 by simp [kChk, kOk, h1, h2, h3]]
  go_enter Tryd.func12, Tryd.ntmps12
  go_wp2_with fail
  go_ret
  exact ⟨by trivial, (Fr.refl _ _).alloc _⟩

set_option maxRecDepth 100000 in
set_option maxHeartbeats 1000000 in
theorem cmpR_any (w : World) (a b : Int) : Calls Tryd.prog 40 #[.int .i64 a, .int .i64 b] w fun e w' => e = .returned (.int .i64 (c3 a b)) ∧ w' = w := by
  by_cases h1 : a < b
  · rw [show c3 a b = -1 by unfold c3; rw [if_pos h1]]
    go_enter Tryd.func40, Tryd.ntmps40
    go_wp2
    go_ret
    exact ⟨by trivial, rfl⟩
  · by_cases h2 : b < a
    · rw [show c3 a b = 1 by unfold c3; rw [if_neg h1, if_pos h2]]
      go_enter Tryd.func40, Tryd.ntmps40
      go_wp2
      go_ret
      exact ⟨by trivial, rfl⟩
    · rw [show c3 a b = 0 by unfold c3; rw [if_neg h1, if_neg h2]]
      go_enter Tryd.func40, Tryd.ntmps40
      go_wp2
      go_ret
      exact ⟨by trivial, rfl⟩

set_option maxRecDepth 100000 in
set_option maxHeartbeats 1000000 in
theorem cmpN_any (w : World) (a b : Int) : Calls Tryd.prog 41 #[.int .u64 a, .int .u64 b] w fun e w' => e = .returned (.int .i64 (c3 a b)) ∧ w' = w := by
  by_cases h1 : a < b
  · rw [show c3 a b = -1 by unfold c3; rw [if_pos h1]]
    go_enter Tryd.func41, Tryd.ntmps41
    go_wp2
    go_ret
    exact ⟨by trivial, rfl⟩
  · by_cases h2 : b < a
    · rw [show c3 a b = 1 by unfold c3; rw [if_neg h1, if_pos h2]]
      go_enter Tryd.func41, Tryd.ntmps41
      go_wp2
      go_ret
      exact ⟨by trivial, rfl⟩
    · rw [show c3 a b = 0 by unfold c3; rw [if_neg h1, if_neg h2]]
      go_enter Tryd.func41, Tryd.ntmps41
      go_wp2
      go_ret
      exact ⟨by trivial, rfl⟩

set_option maxRecDepth 100000 in
set_option maxHeartbeats 1000000 in
/-- cmp.Or of two. -/
theorem or_any {w : World} {b : Nat} {x y : Int} (h : w.heap[b]? = some (.cells #[.int .i64 x, .int .i64 y] 3 (0, 0))) : Calls Tryd.prog 39 #[.slice (some ⟨b, 0, none⟩) 2 2] w fun e w' => e = .returned (.int .i64 (if x ≠ 0 then x else y)) ∧ w' = w := by
  have c0 : w.cell? ⟨b, 0, none⟩ = some (.int .i64 x) := by rw [cell_of_row w b 0 _ _ _ h]; rfl
  have c1 : w.cell? ⟨b, 1, none⟩ = some (.int .i64 y) := by rw [cell_of_row w b 1 _ _ _ h]; rfl
  clear h
  by_cases h0 : x = 0
  · subst h0
    have e : (if (0 : Int) ≠ 0 then (0 : Int) else y) = y := by simp
    rw [e]
    clear e
    by_cases h1 : y = 0
    · subst h1
      go_enter Tryd.func39, Tryd.ntmps39
      go_wp2_with fail
      refine wp_loop_rounds 3 ?_
      rw [rounds_succ]
      go_wp2_with fail
      rw [rounds_succ]
      go_wp2_with fail
      rw [rounds_succ]
      go_wp2_with fail
      go_ret
      exact ⟨by trivial, rfl⟩
    · have z1 : (y == 0) = false := by simpa using h1
      go_enter Tryd.func39, Tryd.ntmps39
      go_wp2_with fail
      refine wp_loop_rounds 3 ?_
      rw [rounds_succ]
      go_wp2_with fail
      rw [rounds_succ]
      go_wp2_with fail
      go_ret
      exact ⟨by trivial, rfl⟩
  · have z1 : (x == 0) = false := by simpa using h0
    rw [if_pos h0]
    go_enter Tryd.func39, Tryd.ntmps39
    go_wp2_with fail
    refine wp_loop_rounds 3 ?_
    rw [rounds_succ]
    go_wp2_with fail
    go_ret
    exact ⟨by trivial, rfl⟩

end Go.Proofs.YthjfnpojelfekaaDoor
