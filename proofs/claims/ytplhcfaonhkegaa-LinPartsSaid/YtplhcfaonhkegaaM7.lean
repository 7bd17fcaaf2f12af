/-
  Model: Key, err, few, some.
-/
import Derived.Test.YtplhcfaonhkegaaM6
namespace Go.Proofs.Ytplhcfaonhkegaa
open Go.RowKit Go.Maps

theorem mKey_next {k : Int} {x : MItem} {l : List MItem} (h : x.1 ≠ k) : mKey k (x :: l) = mKey k l := by rw [mKey, if_neg h]
theorem mKey_hit {x : MItem} {l : List MItem} : mKey x.1 (x :: l) = some x.2 := by rw [mKey, if_pos rfl]

set_option maxRecDepth 100000 in
set_option maxHeartbeats 4000000 in
theorem key_any {w : World} {v : Value} {l : List MItem} (h : Sl kItem All w v l) (k : Int) :
    Calls Try.prog 34 #[v, .int .u64 k] w fun e w' => ∃ a c, e = .returned (.tuple #[.slice a ((mKey k l).getD []).length c, .bool (mKey k l).isSome]) ∧ Sl kByte All w' (.slice a ((mKey k l).getD []).length c) ((mKey k l).getD []) ∧ Fr Non w w' := by
  obtain ⟨va, vc, rfl, _, hm, _⟩ := h.frm
  unfold maxLen at hm
  have HS := Lib.hid h
  clear h
  go_enter Try.func34, Try.ntmps34
  go_wp2_with fail
  go_loopw [10] (fun i wr => ∃ (j : Nat), j ≤ l.length ∧ i = .int .i64 j ∧ Hid (Fr Non w wr ∧ mKey k l = mKey k (l.drop j))) (fun i _ => l.length - (intOf i).toNat)
  case atStart => exact ⟨0, by omega, rfl, Fr.refl _ _, by simp⟩
  case round =>
    obtain ⟨j, hj, rfl, HI⟩ := hrel
    by_cases hlt : j < l.length
    · have f1 := HI.out.1
      obtain ⟨B, O, u, rfl, _, _, c0, c1, hu, hul, _, _⟩ := item_at (HS.out.stay f1) j hlt
      have HD := Lib.hid (drop_at hlt)
      obtain ⟨x, hx⟩ : ∃ x, l[j] = x := ⟨_, rfl⟩
      rw [hx] at c0 hu hul HD
      clear hx
      obtain ⟨ua, uc, rfl, _⟩ := hu.frm
      have HU := Lib.hid hu
      have j0 : (0 : Int) ≤ (j : Int) := by omega
      have j1 : (j : Int) < (l.length : Int) := by omega
      have f2 : Fr Non wr (wr.alloc (.cells #[.int .u64 x.1, .slice ua x.2.length uc] 60)) := (Fr.refl _ _).alloc _
      clear hu
      by_cases hk : x.1 = k
      · have e0 : mKey k l = some x.2 := by rw [HI.out.2, HD.out, ← hk, mKey_hit]
        subst hk
        have E0 := Lib.hid e0
        clear e0
        go_wp2_with fail
        refine (clone_bytes (HU.out.stay f2).all hul).mono ?_
        rintro e w4 ⟨a4, c4, rfl, g4, f4⟩
        clear c0 c1
        go_wp2_with fail
        refine bodyPost_ret (v := .tuple #[.slice a4 x.2.length c4, .bool true]) (by simp [results, Try.results34, go_sem]) rfl ?_
        rw [E0.out]
        exact ⟨a4, c4, rfl, g4.all, (f1.trans f2).trans f4⟩
      · have G1 : (x.1 == k) = false := by simpa using hk
        go_wp2_with fail
        go_roundw
        case rel => exact ⟨j + 1, by omega, by go_num, f1.trans f2, by rw [HI.out.2, HD.out, mKey_next hk]⟩
        case measure => simp [intOf]; omega
    · obtain rfl : j = l.length := by omega
      obtain ⟨h1, h2⟩ := HI.out
      rw [List.drop_length] at h2
      have e0 : mKey k l = none := h2
      have E0 := Lib.hid e0
      clear e0 h2
      go_wp2_with fail
      refine bodyPost_ret (v := .tuple #[.slice none 0 0, .bool false]) (by simp [results, Try.results34, go_sem]) rfl ?_
      rw [E0.out]
      exact ⟨none, 0, rfl, .inl ⟨rfl, rfl⟩, h1⟩

set_option maxRecDepth 100000 in
set_option maxHeartbeats 4000000 in
theorem rkey_any {w : World} {v : Value} {l : List MItem} (h : Sl kItem All w v l) (k : Int) :
    Calls Try.prog 33 #[v, .int .u64 k] w fun e w' => ∃ a c, e = .returned (.tuple #[.slice a ((mKey k l).getD []).length c, .bool (mKey k l).isSome]) ∧ Sl kByte All w' (.slice a ((mKey k l).getD []).length c) ((mKey k l).getD []) ∧ Fr Non w w' := by
  obtain ⟨va, vc, rfl, _, hm, _⟩ := h.frm
  unfold maxLen at hm
  have HS := Lib.hid h
  clear h
  go_enter Try.func33, Try.ntmps33
  go_wp2_with fail
  go_loopw [6] (fun i wr => ∃ (j : Nat), j ≤ l.length ∧ i = .int .i64 j ∧ Hid (Fr Non w wr ∧ mKey k l = mKey k (l.drop j))) (fun i _ => l.length - (intOf i).toNat)
  case atStart => exact ⟨0, by omega, rfl, Fr.refl _ _, by simp⟩
  case round =>
    obtain ⟨j, hj, rfl, HI⟩ := hrel
    by_cases hlt : j < l.length
    · have f1 := HI.out.1
      obtain ⟨B, O, u, rfl, _, _, c0, c1, hu, hul, _, _⟩ := item_at (HS.out.stay f1) j hlt
      have HD := Lib.hid (drop_at hlt)
      obtain ⟨x, hx⟩ : ∃ x, l[j] = x := ⟨_, rfl⟩
      rw [hx] at c0 hu hul HD
      clear hx
      obtain ⟨ua, uc, rfl, _⟩ := hu.frm
      have HU := Lib.hid hu
      have j0 : (0 : Int) ≤ (j : Int) := by omega
      have j1 : (j : Int) < (l.length : Int) := by omega
      clear hu
      by_cases hk : x.1 = k
      · have e0 : mKey k l = some x.2 := by rw [HI.out.2, HD.out, ← hk, mKey_hit]
        subst hk
        have E0 := Lib.hid e0
        clear e0
        go_wp2_with fail
        refine bodyPost_ret (v := .tuple #[.slice ua x.2.length uc, .bool true]) (by simp [results, Try.results33, go_sem]) rfl ?_
        rw [E0.out]
        exact ⟨ua, uc, rfl, HU.out, f1⟩
      · have G1 : (x.1 == k) = false := by simpa using hk
        go_wp2_with fail
        go_roundw
        case rel => exact ⟨j + 1, by omega, by go_num, f1, by rw [HI.out.2, HD.out, mKey_next hk]⟩
        case measure => simp [intOf]; omega
    · obtain rfl : j = l.length := by omega
      obtain ⟨h1, h2⟩ := HI.out
      rw [List.drop_length] at h2
      have e0 : mKey k l = none := h2
      have E0 := Lib.hid e0
      clear e0 h2
      go_wp2_with fail
      refine bodyPost_ret (v := .tuple #[.slice none 0 0, .bool false]) (by simp [results, Try.results33, go_sem]) rfl ?_
      rw [E0.out]
      exact ⟨none, 0, rfl, .inl ⟨rfl, rfl⟩, h1⟩

set_option maxHeartbeats 1000000 in
theorem err_any (w : World) (x : Int) : Calls Try.prog 75 #[.int .i64 x] w fun e w' => e = .returned (.agg (resCells (mErr x) (.slice none 0 0) (.slice none 0 0)).toArray) ∧ Fr Non w w' := by
  simp only [resCells, refCells, mErr, r0, List.cons_append, List.nil_append]
  go_enter Try.func75, Try.ntmps75
  go_wp2_with fail
  exact bodyPost_ret (v := .agg #[.int .i64 x, .int .u64 0, .slice none 0 0, .slice none 0 0, .int .i64 0, .int .i64 0, .int .u64 0, .int .i64 0, .int .u64 0, .int .i64 0, .int .i64 0, .int .u64 0, .int .i64 0, .int .u64 0, .bool false])
    (by simp [results, Try.results75, go_sem]) rfl ⟨by trivial, (Fr.refl _ _).alloc _⟩

theorem few_any {w : World} {v : Value} {l : List MItem} (h : Sl kItem All w v l) :
    Calls Try.prog 21 #[v] w fun e w' => ∃ a c, e = .returned (.slice a (l.take 200).length c) ∧ Sl kItem All w (.slice a (l.take 200).length c) (l.take 200) ∧ w' = w := by
  obtain ⟨va, vc, rfl, hc, hm, hn⟩ := h.frm
  by_cases h1 : 200 < l.length
  · obtain ⟨B, O, u, rfl, _⟩ := item_at h 0 (by omega)
    have hs := h.sub 0 200 vc (by omega) (by omega) hm
    have ht : (l.take 200).length = 200 := by rw [List.length_take]; omega
    rw [ht]
    simp only [Nat.zero_mul, Nat.add_zero, List.drop_zero] at hs
    have g1 : (200 : Int) < (l.length : Int) := by omega
    have g2 : (200 : Int) ≤ (vc : Int) := by omega
    unfold maxLen at hm
    clear h
    go_enter Try.func21, Try.ntmps21
    go_wp2_with fail
    go_ret
    exact ⟨_, _, by trivial, hs, rfl⟩
  · have ht : l.take 200 = l := List.take_of_length_le (by omega)
    rw [ht]
    have g1 : ¬ (200 : Int) < (l.length : Int) := by omega
    go_enter Try.func21, Try.ntmps21
    go_wp2_with fail
    go_ret
    exact ⟨va, vc, by trivial, h, rfl⟩
theorem some_any {w : World} {v : Value} {l : List MCall} (h : Sl kCall All w v l) :
    Calls Try.prog 22 #[v] w fun e w' => ∃ a c, e = .returned (.slice a (l.take 40).length c) ∧ Sl kCall All w (.slice a (l.take 40).length c) (l.take 40) ∧ w' = w := by
  obtain ⟨va, vc, rfl, hc, hm, hn⟩ := h.frm
  by_cases h1 : 40 < l.length
  · obtain ⟨B, O, u, rfl, _⟩ := h.at 0 (by omega)
    have hs := h.sub 0 40 vc (by omega) (by omega) hm
    have ht : (l.take 40).length = 40 := by rw [List.length_take]; omega
    rw [ht]
    simp only [Nat.zero_mul, Nat.add_zero, List.drop_zero] at hs
    have g1 : (40 : Int) < (l.length : Int) := by omega
    have g2 : (40 : Int) ≤ (vc : Int) := by omega
    unfold maxLen at hm
    clear h
    go_enter Try.func22, Try.ntmps22
    go_wp2_with fail
    go_ret
    exact ⟨_, _, by trivial, hs, rfl⟩
  · have ht : l.take 40 = l := List.take_of_length_le (by omega)
    rw [ht]
    have g1 : ¬ (40 : Int) < (l.length : Int) := by omega
    go_enter Try.func22, Try.ntmps22
    go_wp2_with fail
    go_ret
    exact ⟨va, vc, by trivial, h, rfl⟩
end Go.Proofs.Ytplhcfaonhkegaa
