/-
  Net: NetFull.
-/
import Derived.Test.YtkmpmibjenodlaaN13
namespace Go.Proofs.Ytkmpmibjenodlaa
open Go.RowKit Go.Maps

theorem u8_of (j : Nat) : bcs [UInt8.ofNat j] = [Value.int .u8 ((j : Int) % 256)] := by simp [bcs]

set_option maxRecDepth 100000 in
set_option maxHeartbeats 4000000 in
theorem full_any (x : Int) (w : World) : Calls Try.prog 4 #[.int .i64 x] w fun e w' => e = .returned (.bool true) ∧ Fr Non w w' := by
  go_enter Try.func4, Try.ntmps4
  by_cases hx : x = 1
  · subst hx
    go_wp2_with fail
    refine (new_any _).mono ?_
    rintro e w1 ⟨bn, bm, rfl, h1, f1, d1⟩
    have a1 := Mine.mk f1 h1 d1
    go_wp2_with fail
    go_loopw [4] (fun i wr => ∃ (j : Nat), j ≤ 4096 ∧ i = .int .i64 j ∧ Hid (∃ lv vs st, Mine w wr bn bm lv vs j st ∧ st.l.length = j ∧ st.c 0 = j ∧ st.c 3 = 0)) (fun i _ => 4096 - (intOf i).toNat)
    case atStart => exact ⟨0, by omega, rfl, _, _, _, a1, rfl, rfl, rfl⟩
    case round =>
      obtain ⟨j, hj, rfl, HI⟩ := hrel
      obtain ⟨lv, vs, st, m1, l1, c0, c3⟩ := HI.out
      by_cases hlt : j < 4096
      · have j1 : (j : Int) < 4096 := by omega
        go_wp2_with fail
        have a2 := m1.alloc (.cells #[.int .u8 ((j : Int) % 256)] 5)
        refine (put_ok a2.net (by omega) ⟨false, 0, false, 0, [UInt8.ofNat j]⟩ _ (by rw [u8_of]; exact Src.block (m := 1) (alloc_at wr _) rfl (by simp [Value.oneCell'])) (by simp) (by simp) (by simp) (by omega)).mono ?_
        rintro e w2 ⟨rfl, f2, lv2, vs2, h2, d2⟩
        have a3 := a2.post f2 h2 d2
        go_wp2_with fail
        go_roundw
        case rel => exact ⟨j + 1, by omega, by go_num, _, _, _, a3, by simp [l1], by simp [upd, c0], by simp [upd, c3]⟩
        case measure => simp [intOf]; omega
      · obtain rfl : j = 4096 := by omega
        go_wp2_with fail
        refine (put_many m1.net (by omega) ⟨false, 0, false, 0, []⟩ _ ⟨rfl, by simp [bcs], .inl ⟨rfl, rfl⟩⟩ (by decide) (by decide) (by decide) l1).mono ?_
        rintro e w2 ⟨rfl, f2, lv2, vs2, h2, d2⟩
        have a2 := m1.post f2 h2 d2
        go_wp2_with fail
        refine (drop_ok h2 (by omega) 7 (by simp only; omega)).mono ?_
        rintro e w3 ⟨rfl, f3, lv3, vs3, h3, d3⟩
        have a3 := a2.post f3 h3 d3
        go_wp2_with fail
        have l3 : (st.l.eraseIdx 7).length = 4095 := by rw [List.length_eraseIdx_of_lt (by omega)]; omega
        refine (put_ok h3 (by omega) ⟨false, 0, false, 0, []⟩ _ ⟨rfl, by simp [bcs], .inl ⟨rfl, rfl⟩⟩ (by decide) (by decide) (by decide) (by simp only; omega)).mono ?_
        rintro e w4 ⟨rfl, f4, lv4, vs4, h4, d4⟩
        have a4 := a3.post f4 h4 d4
        go_wp2_with fail
        refine (stats_any h4).mono ?_
        rintro e w5 ⟨rfl, f5⟩
        have a5 := a4.quiet f5
        have e0 : upd (upd (upd st.c 3 (st.c 3 + 1)) 2 (upd st.c 3 (st.c 3 + 1) 2 + 1)) 0 (upd (upd st.c 3 (st.c 3 + 1)) 2 (upd st.c 3 (st.c 3 + 1) 2 + 1) 0 + 1) 0 = 4097 := by simp [upd, c0]
        have e3 : upd (upd (upd st.c 3 (st.c 3 + 1)) 2 (upd st.c 3 (st.c 3 + 1) 2 + 1)) 0 (upd (upd st.c 3 (st.c 3 + 1)) 2 (upd st.c 3 (st.c 3 + 1) 2 + 1) 0 + 1) 3 = 1 := by simp [upd, c3]
        have l4 : (st.l.eraseIdx 7 ++ [(⟨false, 0, false, 0, []⟩ : Parcel)]).length = 4096 := by simp [l3]
        simp only [statsOf, e0, e3]
        have a6 := a5.alloc (.cells #[.int .i64 4097, .int .i64 (upd (upd (upd st.c 3 (st.c 3 + 1)) 2 (upd st.c 3 (st.c 3 + 1) 2 + 1)) 0 (upd (upd st.c 3 (st.c 3 + 1)) 2 (upd st.c 3 (st.c 3 + 1) 2 + 1) 0 + 1) 1), .int .i64 (upd (upd (upd st.c 3 (st.c 3 + 1)) 2 (upd st.c 3 (st.c 3 + 1) 2 + 1)) 0 (upd (upd st.c 3 (st.c 3 + 1)) 2 (upd st.c 3 (st.c 3 + 1) 2 + 1) 0 + 1) 2), .int .i64 1] 44)
        go_wp2_with fail
        refine (len_any a6.net).mono ?_
        rintro e w6 ⟨rfl, rfl⟩
        simp only [l4]
        go_wp2_with fail
        refine (alive_any _).mono ?_
        rintro e w7 ⟨rfl, f7⟩
        go_wp2_with fail
        go_ret
        exact ⟨rfl, a6.fr.trans f7⟩
  · have hx' : (x == 1) = false := by simpa using hx
    go_wp2_with fail
    refine (alive_any _).mono ?_
    rintro e w1 ⟨rfl, f1⟩
    go_wp2_with fail
    go_ret
    exact ⟨rfl, f1⟩
end Go.Proofs.Ytkmpmibjenodlaa
