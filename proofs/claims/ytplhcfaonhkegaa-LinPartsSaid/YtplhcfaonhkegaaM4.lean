/-
  Model: Call, Writes, Same.
-/
import Derived.Test.YtplhcfaonhkegaaM3
namespace Go.Proofs.Ytplhcfaonhkegaa
open Go.RowKit Go.Maps

set_option maxRecDepth 100000 in
set_option maxHeartbeats 4000000 in
theorem call_any (w : World) (c : MCall) (va : Option Addr) (vc : Nat) :
    Calls Try.prog 36 #[.agg #[.int .i64 c.1, .int .u64 c.2.1, .int .u64 c.2.2.1, .slice va c.2.2.2.length vc]] w fun e w' => e = .returned (.int .i64 (mCall c)) ∧ Fr Non w w' := by
  obtain ⟨kd, key, high, bs⟩ := c
  simp only
  by_cases h1 : kd = 1
  · subst h1
    go_enter Try.func36, Try.ntmps36
    go_wp2
    all_goals
      go_ret
      refine ⟨?_, (Fr.refl _ _).alloc _⟩
      simp_all [mCall, mCallOk]
      try omega
  by_cases h5 : kd = 5
  · subst h5
    go_enter Try.func36, Try.ntmps36
    go_wp2
    all_goals
      go_ret
      refine ⟨?_, (Fr.refl _ _).alloc _⟩
      simp_all [mCall, mCallOk]
  go_enter Try.func36, Try.ntmps36
  go_wp2
  all_goals
    go_ret
    refine ⟨?_, (Fr.refl _ _).alloc _⟩
    simp_all [mCall, mCallOk]

set_option maxRecDepth 100000 in
set_option maxHeartbeats 4000000 in
theorem rcall_any (w : World) (c : MCall) (va : Option Addr) (vc : Nat) :
    Calls Try.prog 30 #[.agg #[.int .i64 c.1, .int .u64 c.2.1, .int .u64 c.2.2.1, .slice va c.2.2.2.length vc]] w fun e w' => e = .returned (.int .i64 (mCall c)) ∧ Fr Non w w' := by
  obtain ⟨kd, key, high, bs⟩ := c
  simp only
  by_cases h1 : kd = 1
  · subst h1
    go_enter Try.func30, Try.ntmps30
    go_wp2
    all_goals
      go_ret
      refine ⟨?_, (Fr.refl _ _).alloc _⟩
      simp_all [mCall, mCallOk]
      try omega
  by_cases h5 : kd = 5
  · subst h5
    go_enter Try.func30, Try.ntmps30
    go_wp2
    all_goals
      go_ret
      refine ⟨?_, (Fr.refl _ _).alloc _⟩
      simp_all [mCall, mCallOk]
  go_enter Try.func30, Try.ntmps30
  go_wp2
  all_goals
    go_ret
    refine ⟨?_, (Fr.refl _ _).alloc _⟩
    simp_all [mCall, mCallOk]

set_option maxHeartbeats 1000000 in
theorem writes_any (w : World) (c : MCall) (v : Value) (hv : ∃ a n m, v = .slice a n m) :
    Calls Try.prog 37 #[.agg #[.int .i64 c.1, .int .u64 c.2.1, .int .u64 c.2.2.1, v]] w fun e w' => e = .returned (.bool (mWrites c)) ∧ Fr Non w w' := by
  obtain ⟨a, n, m, rfl⟩ := hv
  obtain ⟨kd, key, high, bs⟩ := c
  simp only
  go_enter Try.func37, Try.ntmps37
  go_wp2
  all_goals
    go_ret
    refine ⟨?_, (Fr.refl _ _).alloc _⟩
    simp_all [mWrites]
set_option maxHeartbeats 1000000 in
theorem rwrites_any (w : World) (c : MCall) (v : Value) (hv : ∃ a n m, v = .slice a n m) :
    Calls Try.prog 28 #[.agg #[.int .i64 c.1, .int .u64 c.2.1, .int .u64 c.2.2.1, v]] w fun e w' => e = .returned (.bool (mWrites c)) ∧ Fr Non w w' := by
  obtain ⟨a, n, m, rfl⟩ := hv
  obtain ⟨kd, key, high, bs⟩ := c
  simp only
  go_enter Try.func28, Try.ntmps28
  go_wp2
  all_goals
    go_ret
    refine ⟨?_, (Fr.refl _ _).alloc _⟩
    simp_all [mWrites]

set_option maxHeartbeats 1000000 in
theorem sameItem_any {w : World} (x y : MItem) {u v : Value} (hu : Sl kByte All w u x.2) (hv : Sl kByte All w v y.2) :
    Calls Try.prog 74 #[.agg #[.int .u64 x.1, u], .agg #[.int .u64 y.1, v]] w fun e w' => e = .returned (.bool (decide (x = y))) ∧ Fr Non w w' := by
  obtain ⟨a, c, rfl, _⟩ := hu.frm
  obtain ⟨b, d, rfl, _⟩ := hv.frm
  obtain ⟨xk, xb⟩ := x
  obtain ⟨yk, yb⟩ := y
  simp only at hu hv ⊢
  have f0 : Fr Non w ((w.alloc (.cells #[.int .u64 xk, .slice a xb.length c] 60)).alloc (.cells #[.int .u64 yk, .slice b yb.length d] 60)) := ((Fr.refl _ _).alloc _).alloc _
  by_cases h : xk = yk
  · subst h
    go_enter Try.func74, Try.ntmps74
    go_wp2_with fail
    refine (bytes_equal (hu.stay f0) (hv.stay f0)).mono ?_
    rintro e w' ⟨rfl, rfl⟩
    go_wp2_with fail
    go_ret
    exact ⟨by simp, f0⟩
  · have h2 : (xk == yk) = false := by simpa using h
    go_enter Try.func74, Try.ntmps74
    go_wp2_with fail
    go_ret
    exact ⟨by simp, f0⟩
end Go.Proofs.Ytplhcfaonhkegaa
