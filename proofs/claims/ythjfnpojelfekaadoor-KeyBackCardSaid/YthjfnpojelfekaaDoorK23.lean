/-
  Keys: the reference's Parse; the cut of a text.
-/
import Derived.Test.YthjfnpojelfekaaDoorK22
namespace Go.Proofs.YthjfnpojelfekaaDoor
open Go.RowKit Go.Lib

/-- Byte by byte, in the words of the walk. -/
theorem aStep_int (m : Nat) (c : UInt8) : IntKind.u64.wrap (IntKind.u64.wrap ((m : Int) * 10) + ((c.toNat : Int) - 48) % 256) = ((aStep m c : Nat) : Int) := by
  have := c.toNat_lt
  unfold aStep
  rw [IntKind.wrap_u64, IntKind.wrap_u64]
  omega
set_option maxRecDepth 100000 in
set_option maxHeartbeats 4000000 in
theorem rparse_any (s : ByteArray) (hs : s.size ≤ 300) (w : World) : Calls Tryd.prog 34 #[.string s] w fun e w' => e = .returned (pV (kParse s.data.toList)) ∧ Fr Non w w' := by
  by_cases h1 : s.data.toList = [45]
  · obtain rfl := ba_eq h1
    rw [show kParse _ = ((1, 0), 0) by unfold kParse; rw [if_pos h1]]
    clear h1 hs
    go_enter Tryd.func34, Tryd.ntmps34
    go_wp2
    refine bodyPost_ret (v := .tuple #[.agg #[.int .i64 1, .int .u64 0], .int .i64 0]) (by rw [results_cell_tmp rfl]; go_simp) rfl ⟨by trivial, ?_⟩
    first | exact (Fr.refl _ _).alloc _ | exact ((Fr.refl _ _).alloc _).put2 (by omega) _ _
  by_cases h2 : s.data.toList = [43]
  · obtain rfl := ba_eq h2
    rw [show kParse _ = ((3, 0), 0) by unfold kParse; rw [if_neg h1, if_pos h2]]
    clear h1 h2 hs
    go_enter Tryd.func34, Tryd.ntmps34
    go_wp2
    refine bodyPost_ret (v := .tuple #[.agg #[.int .i64 3, .int .u64 0], .int .i64 0]) (by rw [results_cell_tmp rfl]; go_simp) rfl ⟨by trivial, ?_⟩
    first | exact (Fr.refl _ _).alloc _ | exact ((Fr.refl _ _).alloc _).put2 (by omega) _ _
  have f0 : Fr Non w (w.alloc (.cells #[.int .i64 0, .int .u64 0] 25)) := (Fr.refl _ _).alloc _
  have bR := alloc_at w (.cells #[.int .i64 0, .int .u64 0] 25)
  have HK := Lib.hid (kParse_ref h1 h2)
  have n1 : (s.toList == [45]) = false := by rw [ByteArray.toList_eq]; simpa using h1
  have n2 : (s.toList == [43]) = false := by rw [ByteArray.toList_eq]; simpa using h2
  have m1 : ¬ s.toList = [45] := by rw [ByteArray.toList_eq]; exact h1
  have m2 : ¬ s.toList = [43] := by rw [ByteArray.toList_eq]; exact h2
  have HL := Lib.hid (show s.data.toList.length = s.size by simp)
  clear h1 h2
  go_enter Tryd.func34, Tryd.ntmps34
  go_wp2_with fail
  go_loopw [4, 5] (fun x i wr => ∃ (j m : Nat), j ≤ s.size ∧ j ≤ 20 ∧ m < 18446744073709551616 ∧ x = .int .u64 m ∧ i = .int .i64 j ∧ Hid (m = aVal (s.data.toList.take j)) ∧ wr = w.alloc (.cells #[.int .i64 0, .int .u64 0] 25)) (fun _ i _ => s.size - (RowKit.intOf i).toNat)
  case atStart => exact ⟨0, 0, by omega, by omega, by omega, rfl, rfl, rfl, rfl⟩
  case round =>
    obtain ⟨j, m, hj, hj2, hm, rfl, rfl, hv, rfl⟩ := hrel
    by_cases hlt : j < s.size
    · by_cases hl2 : j < 20
      · have g1 : decide (j < s.size) = true := decide_eq_true hlt
        have g2 : decide (j < 20) = true := decide_eq_true hl2
        have a1 : (j : Int) < (s.size : Int) := by omega
        have a2 : (j : Int) < 20 := by omega
        go_wp2_with fail
        go_roundw
        case rel =>
          refine ⟨j + 1, aStep m s[j], by omega, by omega, Nat.mod_lt _ (by decide), by rw [aStep_int], by simp, ?_, by trivial⟩
          rw [aVal_next (by rw [HL.out]; exact hlt), ← hv.out]
          rfl
        case measure => simp [RowKit.intOf]; omega
      · obtain rfl : j = 20 := by omega
        have a1 : ((20 : Nat) : Int) < (s.size : Int) := by omega
        have g1 : decide (20 < s.size) = true := decide_eq_true hlt
        have HS := Lib.hid (show kParse s.data.toList = ((0, 0), 20) by rw [HK.out, if_neg (by rw [HL.out]; omega)])
        clear HK hv
        go_wp2_with fail
        refine bodyPost_ret (v := .tuple #[.agg #[.int .i64 0, .int .u64 0], .int .i64 20]) (by rw [results_cell_tmp rfl]; go_simp) rfl ⟨by rw [HS.out]; rfl, ?_⟩
        first | exact f0 | exact f0.put2 (by omega) _ _
    · obtain rfl : j = s.size := by omega
      have g1 : decide (s.size < s.size) = false := decide_eq_false (by omega)
      have g3 : decide (20 < s.size) = false := decide_eq_false (by omega)
      have a3 : ¬ ((20 : Int) < (s.size : Int)) := by omega
      have a4 : ¬ ((s.size : Int) < (s.size : Int)) := by omega
      have hv2 := hv.out
      rw [List.take_of_length_le (by rw [HL.out]; omega)] at hv2
      have HS := Lib.hid (show kParse s.data.toList = if decDigits m = s.data.toList then ((2, (m : Int)), 0) else ((0, 0), 20) by
        rw [HK.out, List.take_of_length_le (by rw [HL.out]; omega), ← hv2]
        simp only [HL.out, hj2, true_and])
      clear hv2
      have HD := Lib.hid (digits_any m hm (w.alloc (.cells #[.int .i64 0, .int .u64 0] 25)))
      clear HK hv
      go_wp2_with fail
      refine HD.out.mono ?_
      rintro e w2 ⟨rfl, f2⟩
      have w2R := Lib.hid (f2.heap bR id)
      have F2 := Lib.hid (f0.trans f2)
      clear HD bR f0 f2
      by_cases hd : decDigits m = s.data.toList
      · rw [if_pos hd] at HS
        have es : (⟨(decDigits m).toArray⟩ : ByteArray) = s := by rw [hd]
        rw [es]
        clear es hd
        have HA := Lib.hid (at_any w2 m)
        go_wp2_with fail
        refine HA.out.mono ?_
        rintro e w3 ⟨rfl, f3⟩
        obtain ⟨r0, rz⟩ := box_facts (f3.heap w2R.out id)
        have F3 := Lib.hid (F2.out.trans f3)
        clear HA f3 w2R F2
        have e0 : w3.cell? ⟨w.heap.size, 0, none⟩ = some (.int .i64 0) := by rw [r0]; rfl
        have e1 : w3.cell? ⟨w.heap.size, 1, none⟩ = some (.int .u64 0) := by rw [r0]; rfl
        have z0 := rz 0
        have z1 := rz 1
        clear r0 rz
        simp only [kV]
        go_wp2_with fail
        refine bodyPost_ret (v := .tuple #[.agg #[.int .i64 2, .int .u64 m], .int .i64 0]) (by rw [results_cell_tmp rfl]; go_simp) rfl ⟨by rw [HS.out]; rfl, F3.out.put2 (by omega) _ _⟩
      · rw [if_neg hd] at HS
        have q1 : ((⟨(decDigits m).toArray⟩ : ByteArray).toList == s.toList) = false := by rw [ByteArray.toList_eq, ByteArray.toList_eq]; simpa using hd
        generalize (⟨(decDigits m).toArray⟩ : ByteArray) = T at q1 ⊢
        have q2 : ¬ T.toList = s.toList := by simpa using q1
        clear hd
        obtain ⟨r0, rz⟩ := box_facts w2R.out
        have e0 : w2.cell? ⟨w.heap.size, 0, none⟩ = some (.int .i64 0) := by rw [r0]; rfl
        have e1 : w2.cell? ⟨w.heap.size, 1, none⟩ = some (.int .u64 0) := by rw [r0]; rfl
        have z0 := rz 0
        have z1 := rz 1
        clear r0 rz
        go_wp2_with fail
        refine bodyPost_ret (v := .tuple #[.agg #[.int .i64 0, .int .u64 0], .int .i64 20]) (by rw [results_cell_tmp rfl]; go_simp) rfl ⟨by rw [HS.out]; rfl, F2.out.put2 (by omega) _ _⟩
end Go.Proofs.YthjfnpojelfekaaDoor
