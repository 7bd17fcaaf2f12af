/-
  Keys: the next one, the one ahead, what lies between, on both sides.
-/
import Derived.Test.YthjfnpojelfekaaDoorK2
namespace Go.Proofs.YthjfnpojelfekaaDoor
open Go.RowKit

set_option maxRecDepth 100000 in
set_option maxHeartbeats 1000000 in
theorem at_any (w : World) (n : Int) : Calls Tryd.prog 42 #[.int .u64 n] w fun e w' => e = .returned (kV (2, n)) ∧ Fr Non w w' := by
  unfold kV
  go_enter Tryd.func42, Tryd.ntmps42
  go_wp2
  refine bodyPost_ret (v := .agg #[.int .i64 2, .int .u64 n]) (by simp [results, Tryd.results42, go_sem]) rfl ⟨by trivial, (Fr.refl _ _).alloc _⟩

set_option maxRecDepth 100000 in
set_option maxHeartbeats 1000000 in
theorem ranks_any (w : World) : Calls Tryd.prog 47 #[] w fun e w' => e = .returned (.agg #[.int .i64 1, .int .i64 2, .int .i64 3]) ∧ Fr Non w w' := by
  go_enter Tryd.func47, Tryd.ntmps47
  go_wp2
  refine bodyPost_ret (v := .agg #[.int .i64 1, .int .i64 2, .int .i64 3]) (by simp [results, Tryd.results47, go_sem]) rfl ⟨by trivial, (Fr.refl _ _).alloc _⟩
theorem kOk_ranks {r n : Int} (h : kOk (r, n) = true) : r = 2 ∨ (r = 1 ∧ n = 0) ∨ (r = 3 ∧ n = 0) := by
  unfold kOk at h
  simp at h
  omega
/-- Two stores into a block of one's own. -/
theorem Fr.put2 {w w2 : World} (f : Fr Non w w2) {R : Nat} (h : w.heap.size ≤ R) (a b : Value) : Fr Non w ((w2.setCell ⟨R, 0, none⟩ a).setCell ⟨R, 1, none⟩ b) :=
  f.trans2 (((Fr.refl (fun b => b = R) w2).setCell (p := ⟨R, 0, none⟩) (.inl rfl) a).setCell (p := ⟨R, 1, none⟩) (.inl rfl) b) (fun k hk e => by omega)

set_option maxRecDepth 100000 in
set_option maxHeartbeats 1000000 in
theorem next_any (w : World) (k : MK) (hk : kWf k) : Calls Tryd.prog 24 #[kV k] w fun e w' => e = .returned (.tuple #[kV (kNext k).1, .bool (kNext k).2]) ∧ Fr Non w w' := by
  have HC := Lib.hid (fun w => check_any w k)
  obtain ⟨r, n⟩ := k
  have hn := hk.2
  simp only at hn
  unfold kV at HC ⊢
  have bA := alloc_at2 w (.cells #[.int .i64 r, .int .u64 n] 25) (.cells #[.int .i64 0, .int .u64 0] 25)
  have bR := alloc_at2' w (.cells #[.int .i64 r, .int .u64 n] 25) (.cells #[.int .i64 0, .int .u64 0] 25)
  have f0 : Fr Non w ((w.alloc (.cells #[.int .i64 r, .int .u64 n] 25)).alloc (.cells #[.int .i64 0, .int .u64 0] 25)) := ((Fr.refl _ _).alloc _).alloc _
  clear hk
  go_enter Tryd.func24, Tryd.ntmps24
  go_wp2_with fail
  refine (ranks_any _).mono ?_
  rintro e w1 ⟨rfl, f1⟩
  have bA1 := f1.heap bA id
  have bR1 := f1.heap bR id
  have f01 := f0.trans f1
  obtain ⟨x0, z0⟩ := box_facts bA1
  have a0 : w1.cell? ⟨w.heap.size, 0, none⟩ = some (.int .i64 r) := by rw [x0]; rfl
  have a1 : w1.cell? ⟨w.heap.size, 1, none⟩ = some (.int .u64 n) := by rw [x0]; rfl
  clear x0 z0 bA bR f1 f0
  have l0 : w.heap.size < w1.heap.size := lt_of_block bA1
  have l1 : w.heap.size + 1 < w1.heap.size := lt_of_block bR1
  have n0 : w.heap.size ≠ w1.heap.size := by omega
  have n1 : ¬ w1.heap.size = w.heap.size := by omega
  go_wp2_with fail
  refine (HC.out _).mono ?_
  rintro e w2 ⟨rfl, f2⟩
  have b1 := alloc_at w1 (.cells #[.int .i64 1, .int .i64 2, .int .i64 3] 56)
  have f12 : Fr Non w1 w2 := ((Fr.refl _ _).alloc _).trans f2
  have bA2 := f12.heap bA1 id
  have bR2 := f12.heap bR1 id
  have bG2 := f2.heap b1 id
  have f02 := f01.trans f12
  generalize hG : w1.heap.size = G at bG2 l0 l1 n0 n1 ⊢
  clear hG f12 f01 bA1 bR1 b1 f2 a0 a1 n0 n1
  obtain ⟨y0, yz⟩ := box_facts bG2
  have g0 : w2.cell? ⟨G, 0, none⟩ = some (.int .i64 1) := by rw [y0]; rfl
  have g1 : w2.cell? ⟨G, 1, none⟩ = some (.int .i64 2) := by rw [y0]; rfl
  have g2 : w2.cell? ⟨G, 2, none⟩ = some (.int .i64 3) := by rw [y0]; rfl
  clear y0 yz bG2
  obtain ⟨x0, xz⟩ := box_facts bA2
  have a0 : w2.cell? ⟨w.heap.size, 0, none⟩ = some (.int .i64 r) := by rw [x0]; rfl
  have a1 : w2.cell? ⟨w.heap.size, 1, none⟩ = some (.int .u64 n) := by rw [x0]; rfl
  have HR2 := Lib.hid bR2
  have F02 := Lib.hid f02
  clear x0 xz bA2 bR2 f02
  by_cases hok : kOk (r, n) = true
  rotate_left
  · rw [show kChk (r, n) = 20 by unfold kChk; rw [if_neg hok]]
    have hf : kOk (r, n) = false := by simpa using hok
    have HS := Lib.hid (show kNext (r, n) = ((0, 0), false) by unfold kNext; rw [if_pos (.inl hf)])
    clear hf hok
    obtain ⟨r0, rz⟩ := box_facts HR2.out
    have e0 : w2.cell? ⟨w.heap.size + 1, 0, none⟩ = some (.int .i64 0) := by rw [r0]; rfl
    have e1 : w2.cell? ⟨w.heap.size + 1, 1, none⟩ = some (.int .u64 0) := by rw [r0]; rfl
    have z0 := rz 0
    have z1 := rz 1
    clear r0 rz
    go_wp2_with fail
    refine bodyPost_ret (v := .tuple #[.agg #[.int .i64 0, .int .u64 0], .bool false]) (by rw [results_cell_tmp rfl]; go_simp) rfl ⟨by rw [HS.out], F02.out.put2 (by omega) _ _⟩
  rw [show kChk (r, n) = 0 by unfold kChk; rw [if_pos hok]]
  rcases kOk_ranks hok with rfl | ⟨rfl, rfl⟩ | ⟨rfl, rfl⟩
  · clear hok
    by_cases hm : n = 18446744073709551615
    · subst hm
      have HS := Lib.hid (show kNext (2, 18446744073709551615) = ((3, 0), true) by simp [kNext, kOk])
      clear hn
      obtain ⟨r0, rz⟩ := box_facts HR2.out
      have e0 : w2.cell? ⟨w.heap.size + 1, 0, none⟩ = some (.int .i64 0) := by rw [r0]; rfl
      have e1 : w2.cell? ⟨w.heap.size + 1, 1, none⟩ = some (.int .u64 0) := by rw [r0]; rfl
      have z0 := rz 0
      have z1 := rz 1
      clear r0 rz
      go_wp2_with fail
      refine bodyPost_ret (v := .tuple #[.agg #[.int .i64 3, .int .u64 0], .bool true]) (by rw [results_cell_tmp rfl]; go_simp) rfl ⟨by rw [HS.out], F02.out.put2 (by omega) _ _⟩
    · have zm : (n == 18446744073709551615) = false := by simpa using hm
      have HS := Lib.hid (show kNext (2, n) = ((2, n + 1), true) by simp [kNext, kOk, hm])
      have W1 : IntKind.u64.wrap (n + 1) = n + 1 := by rw [IntWalk.u64_in _ (by omega)]
      clear hm
      obtain ⟨r0, rz⟩ := box_facts HR2.out
      have e0 : w2.cell? ⟨w.heap.size + 1, 0, none⟩ = some (.int .i64 0) := by rw [r0]; rfl
      have e1 : w2.cell? ⟨w.heap.size + 1, 1, none⟩ = some (.int .u64 0) := by rw [r0]; rfl
      have z0 := rz 0
      have z1 := rz 1
      clear r0 rz
      go_wp2_with fail
      refine bodyPost_ret (v := .tuple #[.agg #[.int .i64 2, .int .u64 (n + 1)], .bool true]) (by rw [results_cell_tmp rfl]; go_simp) rfl ⟨by rw [HS.out], F02.out.put2 (by omega) _ _⟩
  · clear hok
    have HS := Lib.hid (show kNext (1, 0) = ((2, 0), true) by simp [kNext, kOk])
    obtain ⟨r0, rz⟩ := box_facts HR2.out
    have e0 : w2.cell? ⟨w.heap.size + 1, 0, none⟩ = some (.int .i64 0) := by rw [r0]; rfl
    have e1 : w2.cell? ⟨w.heap.size + 1, 1, none⟩ = some (.int .u64 0) := by rw [r0]; rfl
    have z0 := rz 0
    have z1 := rz 1
    clear r0 rz
    go_wp2_with fail
    refine bodyPost_ret (v := .tuple #[.agg #[.int .i64 2, .int .u64 0], .bool true]) (by rw [results_cell_tmp rfl]; go_simp) rfl ⟨by rw [HS.out], F02.out.put2 (by omega) _ _⟩
  · clear hok
    have HS := Lib.hid (show kNext (3, 0) = ((0, 0), false) by simp [kNext, kOk])
    obtain ⟨r0, rz⟩ := box_facts HR2.out
    have e0 : w2.cell? ⟨w.heap.size + 1, 0, none⟩ = some (.int .i64 0) := by rw [r0]; rfl
    have e1 : w2.cell? ⟨w.heap.size + 1, 1, none⟩ = some (.int .u64 0) := by rw [r0]; rfl
    have z0 := rz 0
    have z1 := rz 1
    clear r0 rz
    go_wp2_with fail
    refine bodyPost_ret (v := .tuple #[.agg #[.int .i64 0, .int .u64 0], .bool false]) (by rw [results_cell_tmp rfl]; go_simp) rfl ⟨by rw [HS.out], F02.out.put2 (by omega) _ _⟩

set_option maxRecDepth 100000 in
set_option maxHeartbeats 1000000 in
theorem prev_any (w : World) (k : MK) (hk : kWf k) : Calls Tryd.prog 25 #[kV k] w fun e w' => e = .returned (.tuple #[kV (kPrev k).1, .bool (kPrev k).2]) ∧ Fr Non w w' := by
  have HC := Lib.hid (fun w => check_any w k)
  obtain ⟨r, n⟩ := k
  have hn := hk.2
  simp only at hn
  unfold kV at HC ⊢
  have bA := alloc_at2 w (.cells #[.int .i64 r, .int .u64 n] 25) (.cells #[.int .i64 0, .int .u64 0] 25)
  have bR := alloc_at2' w (.cells #[.int .i64 r, .int .u64 n] 25) (.cells #[.int .i64 0, .int .u64 0] 25)
  have f0 : Fr Non w ((w.alloc (.cells #[.int .i64 r, .int .u64 n] 25)).alloc (.cells #[.int .i64 0, .int .u64 0] 25)) := ((Fr.refl _ _).alloc _).alloc _
  clear hk
  go_enter Tryd.func25, Tryd.ntmps25
  go_wp2_with fail
  refine (ranks_any _).mono ?_
  rintro e w1 ⟨rfl, f1⟩
  have bA1 := f1.heap bA id
  have bR1 := f1.heap bR id
  have f01 := f0.trans f1
  obtain ⟨x0, z0⟩ := box_facts bA1
  have a0 : w1.cell? ⟨w.heap.size, 0, none⟩ = some (.int .i64 r) := by rw [x0]; rfl
  have a1 : w1.cell? ⟨w.heap.size, 1, none⟩ = some (.int .u64 n) := by rw [x0]; rfl
  clear x0 z0 bA bR f1 f0
  have l0 : w.heap.size < w1.heap.size := lt_of_block bA1
  have l1 : w.heap.size + 1 < w1.heap.size := lt_of_block bR1
  have n0 : w.heap.size ≠ w1.heap.size := by omega
  have n1 : ¬ w1.heap.size = w.heap.size := by omega
  go_wp2_with fail
  refine (HC.out _).mono ?_
  rintro e w2 ⟨rfl, f2⟩
  have b1 := alloc_at w1 (.cells #[.int .i64 1, .int .i64 2, .int .i64 3] 56)
  have f12 : Fr Non w1 w2 := ((Fr.refl _ _).alloc _).trans f2
  have bA2 := f12.heap bA1 id
  have bR2 := f12.heap bR1 id
  have bG2 := f2.heap b1 id
  have f02 := f01.trans f12
  generalize hG : w1.heap.size = G at bG2 l0 l1 n0 n1 ⊢
  clear hG f12 f01 bA1 bR1 b1 f2 a0 a1 n0 n1
  obtain ⟨y0, yz⟩ := box_facts bG2
  have g0 : w2.cell? ⟨G, 0, none⟩ = some (.int .i64 1) := by rw [y0]; rfl
  have g1 : w2.cell? ⟨G, 1, none⟩ = some (.int .i64 2) := by rw [y0]; rfl
  have g2 : w2.cell? ⟨G, 2, none⟩ = some (.int .i64 3) := by rw [y0]; rfl
  clear y0 yz bG2
  obtain ⟨x0, xz⟩ := box_facts bA2
  have a0 : w2.cell? ⟨w.heap.size, 0, none⟩ = some (.int .i64 r) := by rw [x0]; rfl
  have a1 : w2.cell? ⟨w.heap.size, 1, none⟩ = some (.int .u64 n) := by rw [x0]; rfl
  have HR2 := Lib.hid bR2
  have F02 := Lib.hid f02
  clear x0 xz bA2 bR2 f02
  by_cases hok : kOk (r, n) = true
  rotate_left
  · rw [show kChk (r, n) = 20 by unfold kChk; rw [if_neg hok]]
    have hf : kOk (r, n) = false := by simpa using hok
    have HS := Lib.hid (show kPrev (r, n) = ((0, 0), false) by unfold kPrev; rw [if_pos (.inl hf)])
    clear hf hok
    obtain ⟨r0, rz⟩ := box_facts HR2.out
    have e0 : w2.cell? ⟨w.heap.size + 1, 0, none⟩ = some (.int .i64 0) := by rw [r0]; rfl
    have e1 : w2.cell? ⟨w.heap.size + 1, 1, none⟩ = some (.int .u64 0) := by rw [r0]; rfl
    have z0 := rz 0
    have z1 := rz 1
    clear r0 rz
    go_wp2_with fail
    refine bodyPost_ret (v := .tuple #[.agg #[.int .i64 0, .int .u64 0], .bool false]) (by rw [results_cell_tmp rfl]; go_simp) rfl ⟨by rw [HS.out], F02.out.put2 (by omega) _ _⟩
  rw [show kChk (r, n) = 0 by unfold kChk; rw [if_pos hok]]
  rcases kOk_ranks hok with rfl | ⟨rfl, rfl⟩ | ⟨rfl, rfl⟩
  · clear hok
    by_cases hm : n = 0
    · subst hm
      have HS := Lib.hid (show kPrev (2, 0) = ((1, 0), true) by simp [kPrev, kOk])
      clear hn
      obtain ⟨r0, rz⟩ := box_facts HR2.out
      have e0 : w2.cell? ⟨w.heap.size + 1, 0, none⟩ = some (.int .i64 0) := by rw [r0]; rfl
      have e1 : w2.cell? ⟨w.heap.size + 1, 1, none⟩ = some (.int .u64 0) := by rw [r0]; rfl
      have z0 := rz 0
      have z1 := rz 1
      clear r0 rz
      go_wp2_with fail
      refine bodyPost_ret (v := .tuple #[.agg #[.int .i64 1, .int .u64 0], .bool true]) (by rw [results_cell_tmp rfl]; go_simp) rfl ⟨by rw [HS.out], F02.out.put2 (by omega) _ _⟩
    · have zm : (n == 0) = false := by simpa using hm
      have HS := Lib.hid (show kPrev (2, n) = ((2, n - 1), true) by simp [kPrev, kOk, hm])
      have W1 : IntKind.u64.wrap (n - 1) = n - 1 := by rw [IntWalk.u64_in _ (by omega)]
      clear hm
      obtain ⟨r0, rz⟩ := box_facts HR2.out
      have e0 : w2.cell? ⟨w.heap.size + 1, 0, none⟩ = some (.int .i64 0) := by rw [r0]; rfl
      have e1 : w2.cell? ⟨w.heap.size + 1, 1, none⟩ = some (.int .u64 0) := by rw [r0]; rfl
      have z0 := rz 0
      have z1 := rz 1
      clear r0 rz
      go_wp2_with fail
      refine bodyPost_ret (v := .tuple #[.agg #[.int .i64 2, .int .u64 (n - 1)], .bool true]) (by rw [results_cell_tmp rfl]; go_simp) rfl ⟨by rw [HS.out], F02.out.put2 (by omega) _ _⟩
  · clear hok
    have HS := Lib.hid (show kPrev (1, 0) = ((0, 0), false) by simp [kPrev, kOk])
    obtain ⟨r0, rz⟩ := box_facts HR2.out
    have e0 : w2.cell? ⟨w.heap.size + 1, 0, none⟩ = some (.int .i64 0) := by rw [r0]; rfl
    have e1 : w2.cell? ⟨w.heap.size + 1, 1, none⟩ = some (.int .u64 0) := by rw [r0]; rfl
    have z0 := rz 0
    have z1 := rz 1
    clear r0 rz
    go_wp2_with fail
    refine bodyPost_ret (v := .tuple #[.agg #[.int .i64 0, .int .u64 0], .bool false]) (by rw [results_cell_tmp rfl]; go_simp) rfl ⟨by rw [HS.out], F02.out.put2 (by omega) _ _⟩
  · clear hok
    have HS := Lib.hid (show kPrev (3, 0) = ((2, 18446744073709551615), true) by simp [kPrev, kOk])
    obtain ⟨r0, rz⟩ := box_facts HR2.out
    have e0 : w2.cell? ⟨w.heap.size + 1, 0, none⟩ = some (.int .i64 0) := by rw [r0]; rfl
    have e1 : w2.cell? ⟨w.heap.size + 1, 1, none⟩ = some (.int .u64 0) := by rw [r0]; rfl
    have z0 := rz 0
    have z1 := rz 1
    clear r0 rz
    go_wp2_with fail
    refine bodyPost_ret (v := .tuple #[.agg #[.int .i64 2, .int .u64 18446744073709551615], .bool true]) (by rw [results_cell_tmp rfl]; go_simp) rfl ⟨by rw [HS.out], F02.out.put2 (by omega) _ _⟩

set_option maxRecDepth 100000 in
set_option maxHeartbeats 1000000 in
theorem rnext_any (w : World) (k : MK) (hk : kWf k) : Calls Tryd.prog 26 #[kV k] w fun e w' => e = .returned (.tuple #[kV (kNext k).1, .bool (kNext k).2]) ∧ Fr Non w w' := by
  have HC := Lib.hid (fun w => rcheck_any w k)
  obtain ⟨r, n⟩ := k
  have hn := hk.2
  simp only at hn
  unfold kV at HC ⊢
  have bA := alloc_at2 w (.cells #[.int .i64 r, .int .u64 n] 25) (.cells #[.int .i64 0, .int .u64 0] 25)
  have bR := alloc_at2' w (.cells #[.int .i64 r, .int .u64 n] 25) (.cells #[.int .i64 0, .int .u64 0] 25)
  have f0 : Fr Non w ((w.alloc (.cells #[.int .i64 r, .int .u64 n] 25)).alloc (.cells #[.int .i64 0, .int .u64 0] 25)) := ((Fr.refl _ _).alloc _).alloc _
  clear hk
  go_enter Tryd.func26, Tryd.ntmps26
  go_wp2_with fail
  refine (HC.out _).mono ?_
  rintro e w2 ⟨rfl, f2⟩
  have bA2 := f2.heap bA id
  have bR2 := f2.heap bR id
  have f02 := f0.trans f2
  clear bA bR f2 f0
  obtain ⟨x0, xz⟩ := box_facts bA2
  have a0 : w2.cell? ⟨w.heap.size, 0, none⟩ = some (.int .i64 r) := by rw [x0]; rfl
  have a1 : w2.cell? ⟨w.heap.size, 1, none⟩ = some (.int .u64 n) := by rw [x0]; rfl
  have HR2 := Lib.hid bR2
  have F02 := Lib.hid f02
  clear x0 xz bA2 bR2 f02
  by_cases hok : kOk (r, n) = true
  rotate_left
  · rw [show kChk (r, n) = 20 by unfold kChk; rw [if_neg hok]]
    have hf : kOk (r, n) = false := by simpa using hok
    have HS := Lib.hid (show kNext (r, n) = ((0, 0), false) by unfold kNext; rw [if_pos (.inl hf)])
    clear hf hok
    obtain ⟨r0, rz⟩ := box_facts HR2.out
    have e0 : w2.cell? ⟨w.heap.size + 1, 0, none⟩ = some (.int .i64 0) := by rw [r0]; rfl
    have e1 : w2.cell? ⟨w.heap.size + 1, 1, none⟩ = some (.int .u64 0) := by rw [r0]; rfl
    have z0 := rz 0
    have z1 := rz 1
    clear r0 rz
    go_wp2_with fail
    refine bodyPost_ret (v := .tuple #[.agg #[.int .i64 0, .int .u64 0], .bool false]) (by rw [results_cell_tmp rfl]; go_simp) rfl ⟨by rw [HS.out], F02.out.put2 (by omega) _ _⟩
  rw [show kChk (r, n) = 0 by unfold kChk; rw [if_pos hok]]
  rcases kOk_ranks hok with rfl | ⟨rfl, rfl⟩ | ⟨rfl, rfl⟩
  · clear hok
    by_cases hm : n = 18446744073709551615
    · subst hm
      have HS := Lib.hid (show kNext (2, 18446744073709551615) = ((3, 0), true) by simp [kNext, kOk])
      clear hn
      obtain ⟨r0, rz⟩ := box_facts HR2.out
      have e0 : w2.cell? ⟨w.heap.size + 1, 0, none⟩ = some (.int .i64 0) := by rw [r0]; rfl
      have e1 : w2.cell? ⟨w.heap.size + 1, 1, none⟩ = some (.int .u64 0) := by rw [r0]; rfl
      have z0 := rz 0
      have z1 := rz 1
      clear r0 rz
      go_wp2_with fail
      refine bodyPost_ret (v := .tuple #[.agg #[.int .i64 3, .int .u64 0], .bool true]) (by rw [results_cell_tmp rfl]; go_simp) rfl ⟨by rw [HS.out], F02.out.put2 (by omega) _ _⟩
    · have zm : (n == 18446744073709551615) = false := by simpa using hm
      have HS := Lib.hid (show kNext (2, n) = ((2, n + 1), true) by simp [kNext, kOk, hm])
      have W1 : IntKind.u64.wrap (n + 1) = n + 1 := by rw [IntWalk.u64_in _ (by omega)]
      clear hm
      go_wp2_with fail
      refine (at_any _ (n + 1)).mono ?_
      rintro e w3 ⟨rfl, f3⟩
      unfold kV
      obtain ⟨r0, rz⟩ := box_facts (f3.heap HR2.out id)
      have e0 : w3.cell? ⟨w.heap.size + 1, 0, none⟩ = some (.int .i64 0) := by rw [r0]; rfl
      have e1 : w3.cell? ⟨w.heap.size + 1, 1, none⟩ = some (.int .u64 0) := by rw [r0]; rfl
      have z0 := rz 0
      have z1 := rz 1
      have F03 := Lib.hid (F02.out.trans f3)
      clear r0 rz f3 a0 a1
      go_wp2_with fail
      refine bodyPost_ret (v := .tuple #[.agg #[.int .i64 2, .int .u64 (n + 1)], .bool true]) (by rw [results_cell_tmp rfl]; go_simp) rfl ⟨by rw [HS.out], F03.out.put2 (by omega) _ _⟩
  · clear hok
    have HS := Lib.hid (show kNext (1, 0) = ((2, 0), true) by simp [kNext, kOk])
    go_wp2_with fail
    refine (at_any _ 0).mono ?_
    rintro e w3 ⟨rfl, f3⟩
    unfold kV
    obtain ⟨r0, rz⟩ := box_facts (f3.heap HR2.out id)
    have e0 : w3.cell? ⟨w.heap.size + 1, 0, none⟩ = some (.int .i64 0) := by rw [r0]; rfl
    have e1 : w3.cell? ⟨w.heap.size + 1, 1, none⟩ = some (.int .u64 0) := by rw [r0]; rfl
    have z0 := rz 0
    have z1 := rz 1
    have F03 := Lib.hid (F02.out.trans f3)
    clear r0 rz f3 a0 a1
    go_wp2_with fail
    refine bodyPost_ret (v := .tuple #[.agg #[.int .i64 2, .int .u64 0], .bool true]) (by rw [results_cell_tmp rfl]; go_simp) rfl ⟨by rw [HS.out], F03.out.put2 (by omega) _ _⟩
  · clear hok
    have HS := Lib.hid (show kNext (3, 0) = ((0, 0), false) by simp [kNext, kOk])
    obtain ⟨r0, rz⟩ := box_facts HR2.out
    have e0 : w2.cell? ⟨w.heap.size + 1, 0, none⟩ = some (.int .i64 0) := by rw [r0]; rfl
    have e1 : w2.cell? ⟨w.heap.size + 1, 1, none⟩ = some (.int .u64 0) := by rw [r0]; rfl
    have z0 := rz 0
    have z1 := rz 1
    clear r0 rz
    go_wp2_with fail
    refine bodyPost_ret (v := .tuple #[.agg #[.int .i64 0, .int .u64 0], .bool false]) (by rw [results_cell_tmp rfl]; go_simp) rfl ⟨by rw [HS.out], F02.out.put2 (by omega) _ _⟩

set_option maxRecDepth 100000 in
set_option maxHeartbeats 1000000 in
theorem rprev_any (w : World) (k : MK) (hk : kWf k) : Calls Tryd.prog 27 #[kV k] w fun e w' => e = .returned (.tuple #[kV (kPrev k).1, .bool (kPrev k).2]) ∧ Fr Non w w' := by
  have HC := Lib.hid (fun w => rcheck_any w k)
  obtain ⟨r, n⟩ := k
  have hn := hk.2
  simp only at hn
  unfold kV at HC ⊢
  have bA := alloc_at2 w (.cells #[.int .i64 r, .int .u64 n] 25) (.cells #[.int .i64 0, .int .u64 0] 25)
  have bR := alloc_at2' w (.cells #[.int .i64 r, .int .u64 n] 25) (.cells #[.int .i64 0, .int .u64 0] 25)
  have f0 : Fr Non w ((w.alloc (.cells #[.int .i64 r, .int .u64 n] 25)).alloc (.cells #[.int .i64 0, .int .u64 0] 25)) := ((Fr.refl _ _).alloc _).alloc _
  clear hk
  go_enter Tryd.func27, Tryd.ntmps27
  go_wp2_with fail
  refine (HC.out _).mono ?_
  rintro e w2 ⟨rfl, f2⟩
  have bA2 := f2.heap bA id
  have bR2 := f2.heap bR id
  have f02 := f0.trans f2
  clear bA bR f2 f0
  obtain ⟨x0, xz⟩ := box_facts bA2
  have a0 : w2.cell? ⟨w.heap.size, 0, none⟩ = some (.int .i64 r) := by rw [x0]; rfl
  have a1 : w2.cell? ⟨w.heap.size, 1, none⟩ = some (.int .u64 n) := by rw [x0]; rfl
  have HR2 := Lib.hid bR2
  have F02 := Lib.hid f02
  clear x0 xz bA2 bR2 f02
  by_cases hok : kOk (r, n) = true
  rotate_left
  · rw [show kChk (r, n) = 20 by unfold kChk; rw [if_neg hok]]
    have hf : kOk (r, n) = false := by simpa using hok
    have HS := Lib.hid (show kPrev (r, n) = ((0, 0), false) by unfold kPrev; rw [if_pos (.inl hf)])
    clear hf hok
    obtain ⟨r0, rz⟩ := box_facts HR2.out
    have e0 : w2.cell? ⟨w.heap.size + 1, 0, none⟩ = some (.int .i64 0) := by rw [r0]; rfl
    have e1 : w2.cell? ⟨w.heap.size + 1, 1, none⟩ = some (.int .u64 0) := by rw [r0]; rfl
    have z0 := rz 0
    have z1 := rz 1
    clear r0 rz
    go_wp2_with fail
    refine bodyPost_ret (v := .tuple #[.agg #[.int .i64 0, .int .u64 0], .bool false]) (by rw [results_cell_tmp rfl]; go_simp) rfl ⟨by rw [HS.out], F02.out.put2 (by omega) _ _⟩
  rw [show kChk (r, n) = 0 by unfold kChk; rw [if_pos hok]]
  rcases kOk_ranks hok with rfl | ⟨rfl, rfl⟩ | ⟨rfl, rfl⟩
  · clear hok
    by_cases hm : n = 0
    · subst hm
      have HS := Lib.hid (show kPrev (2, 0) = ((1, 0), true) by simp [kPrev, kOk])
      clear hn
      obtain ⟨r0, rz⟩ := box_facts HR2.out
      have e0 : w2.cell? ⟨w.heap.size + 1, 0, none⟩ = some (.int .i64 0) := by rw [r0]; rfl
      have e1 : w2.cell? ⟨w.heap.size + 1, 1, none⟩ = some (.int .u64 0) := by rw [r0]; rfl
      have z0 := rz 0
      have z1 := rz 1
      clear r0 rz
      go_wp2_with fail
      refine bodyPost_ret (v := .tuple #[.agg #[.int .i64 1, .int .u64 0], .bool true]) (by rw [results_cell_tmp rfl]; go_simp) rfl ⟨by rw [HS.out], F02.out.put2 (by omega) _ _⟩
    · have zm : (n == 0) = false := by simpa using hm
      have HS := Lib.hid (show kPrev (2, n) = ((2, n - 1), true) by simp [kPrev, kOk, hm])
      have W1 : IntKind.u64.wrap (n - 1) = n - 1 := by rw [IntWalk.u64_in _ (by omega)]
      clear hm
      go_wp2_with fail
      refine (at_any _ (n - 1)).mono ?_
      rintro e w3 ⟨rfl, f3⟩
      unfold kV
      obtain ⟨r0, rz⟩ := box_facts (f3.heap HR2.out id)
      have e0 : w3.cell? ⟨w.heap.size + 1, 0, none⟩ = some (.int .i64 0) := by rw [r0]; rfl
      have e1 : w3.cell? ⟨w.heap.size + 1, 1, none⟩ = some (.int .u64 0) := by rw [r0]; rfl
      have z0 := rz 0
      have z1 := rz 1
      have F03 := Lib.hid (F02.out.trans f3)
      clear r0 rz f3 a0 a1
      go_wp2_with fail
      refine bodyPost_ret (v := .tuple #[.agg #[.int .i64 2, .int .u64 (n - 1)], .bool true]) (by rw [results_cell_tmp rfl]; go_simp) rfl ⟨by rw [HS.out], F03.out.put2 (by omega) _ _⟩
  · clear hok
    have HS := Lib.hid (show kPrev (1, 0) = ((0, 0), false) by simp [kPrev, kOk])
    obtain ⟨r0, rz⟩ := box_facts HR2.out
    have e0 : w2.cell? ⟨w.heap.size + 1, 0, none⟩ = some (.int .i64 0) := by rw [r0]; rfl
    have e1 : w2.cell? ⟨w.heap.size + 1, 1, none⟩ = some (.int .u64 0) := by rw [r0]; rfl
    have z0 := rz 0
    have z1 := rz 1
    clear r0 rz
    go_wp2_with fail
    refine bodyPost_ret (v := .tuple #[.agg #[.int .i64 0, .int .u64 0], .bool false]) (by rw [results_cell_tmp rfl]; go_simp) rfl ⟨by rw [HS.out], F02.out.put2 (by omega) _ _⟩
  · clear hok
    have HS := Lib.hid (show kPrev (3, 0) = ((2, 18446744073709551615), true) by simp [kPrev, kOk])
    go_wp2_with fail
    refine (at_any _ 18446744073709551615).mono ?_
    rintro e w3 ⟨rfl, f3⟩
    unfold kV
    obtain ⟨r0, rz⟩ := box_facts (f3.heap HR2.out id)
    have e0 : w3.cell? ⟨w.heap.size + 1, 0, none⟩ = some (.int .i64 0) := by rw [r0]; rfl
    have e1 : w3.cell? ⟨w.heap.size + 1, 1, none⟩ = some (.int .u64 0) := by rw [r0]; rfl
    have z0 := rz 0
    have z1 := rz 1
    have F03 := Lib.hid (F02.out.trans f3)
    clear r0 rz f3 a0 a1
    go_wp2_with fail
    refine bodyPost_ret (v := .tuple #[.agg #[.int .i64 2, .int .u64 18446744073709551615], .bool true]) (by rw [results_cell_tmp rfl]; go_simp) rfl ⟨by rw [HS.out], F03.out.put2 (by omega) _ _⟩

set_option maxRecDepth 100000 in
set_option maxHeartbeats 1000000 in
theorem in_any (w : World) (a k b : MK) : Calls Tryd.prog 28 #[kV a, kV k, kV b] w fun e w' => e = .returned (.bool (kIn a k b)) ∧ Fr Non w w' := by
  have H1 := Lib.hid (fun w => less_any w k a)
  have H2 := Lib.hid (fun w => less_any w b k)
  have HE := Lib.hid (show kIn a k b = (!kLess k a && !kLess b k) from rfl)
  obtain ⟨a1, a2⟩ := a
  obtain ⟨k1, k2⟩ := k
  obtain ⟨b1, b2⟩ := b
  unfold kV at H1 H2 ⊢
  generalize kLess (k1, k2) (a1, a2) = p at H1 HE
  generalize kLess (b1, b2) (k1, k2) = q at H2 HE
  have bK := alloc_at2 (w.alloc (.cells #[.int .i64 a1, .int .u64 a2] 25)) (.cells #[.int .i64 k1, .int .u64 k2] 25) (.cells #[.int .i64 b1, .int .u64 b2] 25)
  have bB := alloc_at2' (w.alloc (.cells #[.int .i64 a1, .int .u64 a2] 25)) (.cells #[.int .i64 k1, .int .u64 k2] 25) (.cells #[.int .i64 b1, .int .u64 b2] 25)
  simp only [World.size_alloc] at bK bB
  go_enter Tryd.func28, Tryd.ntmps28
  go_wp2_with fail
  refine (H1.out _).mono ?_
  rintro e w1 ⟨rfl, f1⟩
  have f01 : Fr Non w w1 := ((((Fr.refl _ _).alloc _).alloc _).alloc _).trans f1.fr
  obtain ⟨x0, _⟩ := box_facts (f1.fr.heap bK id)
  obtain ⟨y0, _⟩ := box_facts (f1.fr.heap bB id)
  have c0 : w1.cell? ⟨w.heap.size + 1, 0, none⟩ = some (.int .i64 k1) := by rw [x0]; rfl
  have c1 : w1.cell? ⟨w.heap.size + 1, 1, none⟩ = some (.int .u64 k2) := by rw [x0]; rfl
  have d0 : w1.cell? ⟨w.heap.size + 1 + 1, 0, none⟩ = some (.int .i64 b1) := by rw [y0]; rfl
  have d1 : w1.cell? ⟨w.heap.size + 1 + 1, 1, none⟩ = some (.int .u64 b2) := by rw [y0]; rfl
  have F01 := Lib.hid f01
  clear x0 y0 bK bB f1 f01
  cases p with
  | true =>
    go_wp2_with fail
    go_ret
    exact ⟨by rw [HE.out]; rfl, F01.out⟩
  | false =>
    go_wp2_with fail
    refine (H2.out _).mono ?_
    rintro e w2 ⟨rfl, f2⟩
    go_wp2_with fail
    go_ret
    exact ⟨by rw [HE.out]; rfl, F01.out.trans f2.fr⟩

set_option maxRecDepth 100000 in
set_option maxHeartbeats 1000000 in
theorem rin_any (w : World) (a k b : MK) : Calls Tryd.prog 29 #[kV a, kV k, kV b] w fun e w' => e = .returned (.bool (kIn a k b)) ∧ Fr Non w w' := by
  have H1 := Lib.hid (fun w => rless_any w k a)
  have H2 := Lib.hid (fun w => rless_any w b k)
  have HE := Lib.hid (show kIn a k b = (!kLess k a && !kLess b k) from rfl)
  obtain ⟨a1, a2⟩ := a
  obtain ⟨k1, k2⟩ := k
  obtain ⟨b1, b2⟩ := b
  unfold kV at H1 H2 ⊢
  generalize kLess (k1, k2) (a1, a2) = p at H1 HE
  generalize kLess (b1, b2) (k1, k2) = q at H2 HE
  have bK := alloc_at2 (w.alloc (.cells #[.int .i64 a1, .int .u64 a2] 25)) (.cells #[.int .i64 k1, .int .u64 k2] 25) (.cells #[.int .i64 b1, .int .u64 b2] 25)
  have bB := alloc_at2' (w.alloc (.cells #[.int .i64 a1, .int .u64 a2] 25)) (.cells #[.int .i64 k1, .int .u64 k2] 25) (.cells #[.int .i64 b1, .int .u64 b2] 25)
  simp only [World.size_alloc] at bK bB
  go_enter Tryd.func29, Tryd.ntmps29
  go_wp2_with fail
  refine (H1.out _).mono ?_
  rintro e w1 ⟨rfl, f1⟩
  have f01 : Fr Non w w1 := ((((Fr.refl _ _).alloc _).alloc _).alloc _).trans f1
  obtain ⟨x0, _⟩ := box_facts (f1.heap bK id)
  obtain ⟨y0, _⟩ := box_facts (f1.heap bB id)
  have c0 : w1.cell? ⟨w.heap.size + 1, 0, none⟩ = some (.int .i64 k1) := by rw [x0]; rfl
  have c1 : w1.cell? ⟨w.heap.size + 1, 1, none⟩ = some (.int .u64 k2) := by rw [x0]; rfl
  have d0 : w1.cell? ⟨w.heap.size + 1 + 1, 0, none⟩ = some (.int .i64 b1) := by rw [y0]; rfl
  have d1 : w1.cell? ⟨w.heap.size + 1 + 1, 1, none⟩ = some (.int .u64 b2) := by rw [y0]; rfl
  have F01 := Lib.hid f01
  clear x0 y0 bK bB f1 f01
  cases p with
  | true =>
    go_wp2_with fail
    go_ret
    exact ⟨by rw [HE.out]; rfl, F01.out⟩
  | false =>
    go_wp2_with fail
    refine (H2.out _).mono ?_
    rintro e w2 ⟨rfl, f2⟩
    go_wp2_with fail
    go_ret
    exact ⟨by rw [HE.out]; rfl, F01.out.trans f2⟩

end Go.Proofs.YthjfnpojelfekaaDoor
