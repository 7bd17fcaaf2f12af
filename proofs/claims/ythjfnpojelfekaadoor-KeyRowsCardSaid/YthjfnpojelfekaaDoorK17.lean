/-
  KeyRows, walked.
-/
import Derived.Test.YthjfnpojelfekaaDoorK9
import Derived.Test.YthjfnpojelfekaaDoorK13
import Derived.Test.YthjfnpojelfekaaDoorK14
import Derived.Test.YthjfnpojelfekaaDoorK16
namespace Go.Proofs.YthjfnpojelfekaaDoor
open Go.RowKit

set_option maxRecDepth 100000 in
set_option maxHeartbeats 4000000 in
theorem rows_law {w : World} {u : Value} {l : List MK} (hl : Sl kKey All w u l) (k : MK) : Calls Tryd.prog 5 #[u, kV k] w (KEnd w) := by
  obtain ⟨a, n, rfl, _⟩ := hl.frm
  have HL := Lib.hid hl.there
  have H0 := Lib.hid (fun w => awake_any w)
  obtain ⟨k1, k2⟩ := k
  unfold kV
  have bK := alloc_at w (.cells #[.int .i64 k1, .int .u64 k2] 25)
  have f0 : Fr Non w (w.alloc (.cells #[.int .i64 k1, .int .u64 k2] 25)) := (Fr.refl _ _).alloc _
  have HF := Lib.hid (few_any ((HL.out.stay f0).all))
  have BK := Lib.hid bK
  have F0 := Lib.hid f0
  clear hl bK f0
  go_enter Tryd.func5, Tryd.ntmps5
  go_wp2_with fail
  refine HF.out.mono ?_
  rintro e w1 ⟨v1, rfl, hs1, rfl⟩
  have hlen : (l.take 100).length ≤ 100 := by rw [List.length_take]; omega
  have HS1 := Lib.hid hs1.there
  obtain ⟨b, c, rfl, _⟩ := hs1.frm
  have HP := Lib.hid (place_any hs1 (by omega) (k1, k2))
  obtain ⟨L, hL⟩ : ∃ L, l.take 100 = L := ⟨_, rfl⟩
  rw [hL] at HP HS1 hlen ⊢
  obtain ⟨W, hW⟩ : ∃ W, w.alloc (.cells #[.int .i64 k1, .int .u64 k2] 25) = W := ⟨_, rfl⟩
  rw [hW] at HP HS1 BK F0
  have s0a : W.cell? ⟨w.heap.size, 0, none⟩ = some (.int .i64 k1) := by rw [(box_facts BK.out).1]; rfl
  have s0b : W.cell? ⟨w.heap.size, 1, none⟩ = some (.int .u64 k2) := by rw [(box_facts BK.out).1]; rfl
  unfold kV at HP
  (try rw [hW])
  clear hs1 hL hW HF
  go_wp2_with fail
  refine HP.out.mono ?_
  rintro e w2 ⟨rfl, f2⟩
  have BK2 := Lib.hid (f2.heap BK.out id)
  have F2 := Lib.hid (F0.out.trans f2)
  have HS2 := Lib.hid (HS1.out.stay f2)
  have HP2 := Lib.hid (rplace_any HS2.out.all (by omega) (k1, k2))
  have s0a : w2.cell? ⟨w.heap.size, 0, none⟩ = some (.int .i64 k1) := by rw [(box_facts BK2.out).1]; rfl
  have s0b : w2.cell? ⟨w.heap.size, 1, none⟩ = some (.int .u64 k2) := by rw [(box_facts BK2.out).1]; rfl
  unfold kV at HP2
  clear f2 BK HP HS1 F0
  go_wp2_with fail
  refine HP2.out.mono ?_
  rintro e w3 ⟨rfl, f3⟩
  have F3 := Lib.hid (F2.out.trans f3)
  have HS3 := Lib.hid (HS2.out.stay f3)
  have HSO := Lib.hid (sorted_any HS3.out.all (by omega))
  have HWF := Lib.hid (kSorted_wf (keys_wf HS3.out))
  obtain ⟨C, hC⟩ : ∃ C, kCount (k1, k2) L = C := ⟨_, rfl⟩
  obtain ⟨T, hT⟩ : ∃ T, kThere (k1, k2) L = T := ⟨_, rfl⟩
  rw [hC, hT]
  clear f3 s0a s0b BK2 HS2 HP2 F2 hC hT
  go_wp2_with fail
  refine HSO.out.mono ?_
  rintro e w4 ⟨v4, rfl, k4, f4, _⟩
  have F4 := Lib.hid (F3.out.trans f4)
  have HS4 := Lib.hid (HS3.out.stay f4)
  have HR := Lib.hid (rsorted_any HS4.out.all hlen)
  have K4 := Lib.hid k4
  obtain ⟨da, dn, rfl⟩ := GRow.form k4
  clear k4 f4 HS3 HSO F3
  go_wp2_with fail
  refine HR.out.mono ?_
  rintro e w5 ⟨v5, rfl, k5, f5⟩
  rw [kRSort_eq] at k5
  have hsl := kSorted_len L
  have HSM := Lib.hid (same_any ((K4.out.fr f5).sl HWF.out) (k5.sl HWF.out) (by omega))
  have F5 := Lib.hid (F4.out.trans f5)
  obtain ⟨ea, en, rfl⟩ := GRow.form k5
  clear k5 f5 HR K4 F4 HS4 hsl
  go_wp2_with fail
  refine HSM.out.mono ?_
  rintro e w6 ⟨rfl, f6⟩
  have F6 := Lib.hid (F5.out.trans f6)
  clear f6 HSM F5
  go_wp2_with fail
  refine (H0.out _).mono ?_
  rintro e w7 ⟨rfl, f7⟩
  go_wp2_with fail
  go_ret
  exact ⟨by trivial, F6.out.trans f7⟩
end Go.Proofs.YthjfnpojelfekaaDoor
