/-
  Keys: the text of the key 70.
-/
import Derived.Test.YthjfnpojelfekaaDoorK3
namespace Go.Proofs.YthjfnpojelfekaaDoor
open Go.RowKit

set_option maxRecDepth 100000 in
set_option maxHeartbeats 1000000 in
theorem small70 (w : World) : Calls Tryd.prog 68 #[.int .i64 70] w fun e w' => e = .returned (.string ⟨#[55, 48]⟩) ∧ w' = w := by
  go_enter Tryd.func68, Tryd.ntmps68
  go_wp2
  go_ret
  exact ⟨by trivial, rfl⟩

set_option maxRecDepth 100000 in
set_option maxHeartbeats 1000000 in
theorem text70 (w : World) : Calls Tryd.prog 31 #[kV (2, 70)] w fun e w' => e = .returned (.tuple #[.string ⟨#[55, 48]⟩, .int .i64 0]) ∧ Fr Non w w' := by
  have HC := Lib.hid (fun w => check_any w (2, 70))
  unfold kV at HC ⊢
  rw [show kChk (2, 70) = 0 from rfl] at HC
  have bA := alloc_at w (.cells #[.int .i64 2, .int .u64 70] 25)
  go_enter Tryd.func31, Tryd.ntmps31
  go_wp2_with fail
  refine (HC.out _).mono ?_
  rintro e w1 ⟨rfl, f1⟩
  obtain ⟨x0, _⟩ := box_facts (f1.heap bA id)
  have c0 : w1.cell? ⟨w.heap.size, 0, none⟩ = some (.int .i64 2) := by rw [x0]; rfl
  have c1 : w1.cell? ⟨w.heap.size, 1, none⟩ = some (.int .u64 70) := by rw [x0]; rfl
  have F1 := Lib.hid (((Fr.refl Non w).alloc _).trans f1)
  clear x0 f1 bA
  go_wp2_with (first | (go_at_call 68; refine (small70 _).mono ?_; rintro e w' ⟨rfl, rfl⟩) | go_in)
  refine bodyPost_ret (v := .tuple #[.string ⟨#[55, 48]⟩, .int .i64 0]) (by simp [results, Tryd.results31, go_sem]) rfl ⟨by trivial, F1.out⟩
end Go.Proofs.YthjfnpojelfekaaDoor
