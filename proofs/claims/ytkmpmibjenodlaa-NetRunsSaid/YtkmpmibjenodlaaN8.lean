/-
  Net: Take, Twin, At, Drop where there is no such parcel, or no network.
-/
import Derived.Test.YtkmpmibjenodlaaN7
namespace Go.Proofs.Ytkmpmibjenodlaa
open Go.RowKit Go.Maps

def pz : Value := .agg #[.bool false, .int .i64 0, .bool false, .int .i64 0, .slice none 0 0]

/-- The first place of a new row of one number. -/
theorem one_int {w : World} (x : Int) (t : TypeId) : ∀ j, (hj : j < [x].length) → (w.alloc (.cells #[.int .i64 x] t)).cell? ⟨w.heap.size, j, none⟩ = some (.int .i64 [x][j]) := by
  intro j hj
  obtain rfl : j = 0 := by simp at hj; omega
  simp
theorem two_int {w : World} (x y : Int) (t : TypeId) : ∀ j, (hj : j < [x, y].length) → (w.alloc (.cells #[.int .i64 x, .int .i64 y] t)).cell? ⟨w.heap.size, j, none⟩ = some (.int .i64 [x, y][j]) := by
  intro j hj
  match j, hj with
  | 0, _ => simp
  | 1, _ => simp

set_option maxRecDepth 100000 in
set_option maxHeartbeats 1000000 in
theorem take_bad {w : World} {bn bm : Nat} {lv : Value} {vs : List Value} {k : Nat} {st : NetSt} (h : NetAt w bn bm lv vs k st) (i : Int) (hi : ¬ (0 ≤ i ∧ i < st.l.length)) :
    Calls Try.prog 12 #[.pointer (some ⟨bn, 0, none⟩), .int .i64 i] w fun e w' => e = .returned (.tuple #[pz, .int .i64 5]) ∧ Fr Non w w' := by
  go_enter Try.func12, Try.ntmps12
  go_wp2_with fail
  refine (place_bad (h.fr (((Fr.refl Non w).alloc _).alloc _) (fun _ _ => id)) [i] _ 1 (fun j hj => by simpa using one_int (w := w.alloc (.cells #[.bool false, .int .i64 0, .bool false, .int .i64 0, .slice none 0 0] 30)) i 3 j hj) (by simp) (by simpa using hi)).mono ?_
  rintro e w' ⟨rfl, rfl⟩
  go_wp2_with fail
  refine bodyPost_ret (v := .tuple #[pz, .int .i64 5]) (by simp [results, Try.results12, go_sem, pz]) rfl ⟨rfl, ((Fr.refl _ _).alloc _).alloc _⟩

set_option maxRecDepth 100000 in
set_option maxHeartbeats 1000000 in
theorem take_nil {w : World} (i : Int) :
    Calls Try.prog 12 #[.pointer none, .int .i64 i] w fun e w' => e = .returned (.tuple #[pz, .int .i64 4]) ∧ Fr Non w w' := by
  go_enter Try.func12, Try.ntmps12
  go_wp2_with fail
  refine (place_nil _ _).mono ?_
  rintro e w' ⟨rfl, rfl⟩
  go_wp2_with fail
  refine bodyPost_ret (v := .tuple #[pz, .int .i64 4]) (by simp [results, Try.results12, go_sem, pz]) rfl ⟨rfl, ((Fr.refl _ _).alloc _).alloc _⟩

set_option maxRecDepth 100000 in
set_option maxHeartbeats 1000000 in
theorem take_zero {w : World} {bn : Nat} (h : w.cell? ⟨bn, 1, none⟩ = some (.map none)) (i : Int) :
    Calls Try.prog 12 #[.pointer (some ⟨bn, 0, none⟩), .int .i64 i] w fun e w' => e = .returned (.tuple #[pz, .int .i64 4]) ∧ Fr Non w w' := by
  go_enter Try.func12, Try.ntmps12
  go_wp2_with fail
  refine (place_zero _ _ ((((Fr.refl Non w).alloc _).alloc _).cell h id)).mono ?_
  rintro e w' ⟨rfl, rfl⟩
  go_wp2_with fail
  refine bodyPost_ret (v := .tuple #[pz, .int .i64 4]) (by simp [results, Try.results12, go_sem, pz]) rfl ⟨rfl, ((Fr.refl _ _).alloc _).alloc _⟩

set_option maxRecDepth 100000 in
set_option maxHeartbeats 1000000 in
theorem twin_bad {w : World} {bn bm : Nat} {lv : Value} {vs : List Value} {k : Nat} {st : NetSt} (h : NetAt w bn bm lv vs k st) (i : Int) (hi : ¬ (0 ≤ i ∧ i < st.l.length)) :
    Calls Try.prog 11 #[.pointer (some ⟨bn, 0, none⟩), .int .i64 i] w fun e w' => e = .returned (.tuple #[pz, .int .i64 5]) ∧ Fr Non w w' := by
  go_enter Try.func11, Try.ntmps11
  go_wp2_with fail
  refine (place_bad (h.fr (((Fr.refl Non w).alloc _).alloc _) (fun _ _ => id)) [i] _ 1 (fun j hj => by simpa using one_int (w := w.alloc (.cells #[.bool false, .int .i64 0, .bool false, .int .i64 0, .slice none 0 0] 30)) i 3 j hj) (by simp) (by simpa using hi)).mono ?_
  rintro e w' ⟨rfl, rfl⟩
  go_wp2_with fail
  refine bodyPost_ret (v := .tuple #[pz, .int .i64 5]) (by simp [results, Try.results11, go_sem, pz]) rfl ⟨rfl, ((Fr.refl _ _).alloc _).alloc _⟩

set_option maxRecDepth 100000 in
set_option maxHeartbeats 1000000 in
theorem twin_nil {w : World} (i : Int) :
    Calls Try.prog 11 #[.pointer none, .int .i64 i] w fun e w' => e = .returned (.tuple #[pz, .int .i64 4]) ∧ Fr Non w w' := by
  go_enter Try.func11, Try.ntmps11
  go_wp2_with fail
  refine (place_nil _ _).mono ?_
  rintro e w' ⟨rfl, rfl⟩
  go_wp2_with fail
  refine bodyPost_ret (v := .tuple #[pz, .int .i64 4]) (by simp [results, Try.results11, go_sem, pz]) rfl ⟨rfl, ((Fr.refl _ _).alloc _).alloc _⟩

set_option maxRecDepth 100000 in
set_option maxHeartbeats 1000000 in
theorem twin_zero {w : World} {bn : Nat} (h : w.cell? ⟨bn, 1, none⟩ = some (.map none)) (i : Int) :
    Calls Try.prog 11 #[.pointer (some ⟨bn, 0, none⟩), .int .i64 i] w fun e w' => e = .returned (.tuple #[pz, .int .i64 4]) ∧ Fr Non w w' := by
  go_enter Try.func11, Try.ntmps11
  go_wp2_with fail
  refine (place_zero _ _ ((((Fr.refl Non w).alloc _).alloc _).cell h id)).mono ?_
  rintro e w' ⟨rfl, rfl⟩
  go_wp2_with fail
  refine bodyPost_ret (v := .tuple #[pz, .int .i64 4]) (by simp [results, Try.results11, go_sem, pz]) rfl ⟨rfl, ((Fr.refl _ _).alloc _).alloc _⟩

set_option maxRecDepth 100000 in
set_option maxHeartbeats 1000000 in
theorem at_bad {w : World} {bn bm : Nat} {lv : Value} {vs : List Value} {k : Nat} {st : NetSt} (h : NetAt w bn bm lv vs k st) (i : Int) (hi : ¬ (0 ≤ i ∧ i < st.l.length)) :
    Calls Try.prog 23 #[.pointer (some ⟨bn, 0, none⟩), .int .i64 i] w fun e w' => e = .returned (.tuple #[pz, .int .i64 5]) ∧ Fr Non w w' := by
  go_enter Try.func23, Try.ntmps23
  go_wp2_with fail
  refine (place_bad (h.fr (((Fr.refl Non w).alloc _).alloc _) (fun _ _ => id)) [i] _ 1 (fun j hj => by simpa using one_int (w := w.alloc (.cells #[.bool false, .int .i64 0, .bool false, .int .i64 0, .slice none 0 0] 30)) i 3 j hj) (by simp) (by simpa using hi)).mono ?_
  rintro e w' ⟨rfl, rfl⟩
  go_wp2_with fail
  refine bodyPost_ret (v := .tuple #[pz, .int .i64 5]) (by simp [results, Try.results23, go_sem, pz]) rfl ⟨rfl, ((Fr.refl _ _).alloc _).alloc _⟩

set_option maxRecDepth 100000 in
set_option maxHeartbeats 1000000 in
theorem at_nil {w : World} (i : Int) :
    Calls Try.prog 23 #[.pointer none, .int .i64 i] w fun e w' => e = .returned (.tuple #[pz, .int .i64 4]) ∧ Fr Non w w' := by
  go_enter Try.func23, Try.ntmps23
  go_wp2_with fail
  refine (place_nil _ _).mono ?_
  rintro e w' ⟨rfl, rfl⟩
  go_wp2_with fail
  refine bodyPost_ret (v := .tuple #[pz, .int .i64 4]) (by simp [results, Try.results23, go_sem, pz]) rfl ⟨rfl, ((Fr.refl _ _).alloc _).alloc _⟩

set_option maxRecDepth 100000 in
set_option maxHeartbeats 1000000 in
theorem at_zero {w : World} {bn : Nat} (h : w.cell? ⟨bn, 1, none⟩ = some (.map none)) (i : Int) :
    Calls Try.prog 23 #[.pointer (some ⟨bn, 0, none⟩), .int .i64 i] w fun e w' => e = .returned (.tuple #[pz, .int .i64 4]) ∧ Fr Non w w' := by
  go_enter Try.func23, Try.ntmps23
  go_wp2_with fail
  refine (place_zero _ _ ((((Fr.refl Non w).alloc _).alloc _).cell h id)).mono ?_
  rintro e w' ⟨rfl, rfl⟩
  go_wp2_with fail
  refine bodyPost_ret (v := .tuple #[pz, .int .i64 4]) (by simp [results, Try.results23, go_sem, pz]) rfl ⟨rfl, ((Fr.refl _ _).alloc _).alloc _⟩

set_option maxRecDepth 100000 in
set_option maxHeartbeats 1000000 in
theorem drop_bad {w : World} {bn bm : Nat} {lv : Value} {vs : List Value} {k : Nat} {st : NetSt} (h : NetAt w bn bm lv vs k st) (i : Int) (hi : ¬ (0 ≤ i ∧ i < st.l.length)) :
    Calls Try.prog 16 #[.pointer (some ⟨bn, 0, none⟩), .int .i64 i] w fun e w' => e = .returned (.int .i64 5) ∧ Fr Non w w' := by
  go_enter Try.func16, Try.ntmps16
  go_wp2_with fail
  refine (place_bad (h.fr ((Fr.refl Non w).alloc _) (fun _ _ => id)) [i] _ 1 (fun j hj => by simpa using one_int (w := w) i 3 j hj) (by simp) (by simpa using hi)).mono ?_
  rintro e w' ⟨rfl, rfl⟩
  go_wp2_with fail
  go_ret
  exact ⟨rfl, (Fr.refl _ _).alloc _⟩

set_option maxRecDepth 100000 in
set_option maxHeartbeats 1000000 in
theorem swap_bad {w : World} {bn bm : Nat} {lv : Value} {vs : List Value} {k : Nat} {st : NetSt} (h : NetAt w bn bm lv vs k st) (i j : Int) (hi : ¬ ((0 ≤ i ∧ i < st.l.length) ∧ (0 ≤ j ∧ j < st.l.length))) :
    Calls Try.prog 14 #[.pointer (some ⟨bn, 0, none⟩), .int .i64 i, .int .i64 j] w fun e w' => e = .returned (.int .i64 5) ∧ Fr Non w w' := by
  go_enter Try.func14, Try.ntmps14
  go_wp2_with fail
  refine (place_bad (h.fr ((Fr.refl Non w).alloc _) (fun _ _ => id)) [i, j] _ 2 (fun m hm => by simpa using two_int (w := w) i j 3 m hm) (by simp) (by simpa using hi)).mono ?_
  rintro e w' ⟨rfl, rfl⟩
  go_wp2_with fail
  go_ret
  exact ⟨rfl, (Fr.refl _ _).alloc _⟩

set_option maxRecDepth 100000 in
set_option maxHeartbeats 1000000 in
theorem drop_nil {w : World} (i : Int) :
    Calls Try.prog 16 #[.pointer none, .int .i64 i] w fun e w' => e = .returned (.int .i64 4) ∧ Fr Non w w' := by
  go_enter Try.func16, Try.ntmps16
  go_wp2_with fail
  refine (place_nil _ _).mono ?_
  rintro e w' ⟨rfl, rfl⟩
  go_wp2_with fail
  go_ret
  exact ⟨rfl, (Fr.refl _ _).alloc _⟩

set_option maxRecDepth 100000 in
set_option maxHeartbeats 1000000 in
theorem swap_nil {w : World} (i j : Int) :
    Calls Try.prog 14 #[.pointer none, .int .i64 i, .int .i64 j] w fun e w' => e = .returned (.int .i64 4) ∧ Fr Non w w' := by
  go_enter Try.func14, Try.ntmps14
  go_wp2_with fail
  refine (place_nil _ _).mono ?_
  rintro e w' ⟨rfl, rfl⟩
  go_wp2_with fail
  go_ret
  exact ⟨rfl, (Fr.refl _ _).alloc _⟩

set_option maxRecDepth 100000 in
set_option maxHeartbeats 1000000 in
theorem drop_zero {w : World} {bn : Nat} (h : w.cell? ⟨bn, 1, none⟩ = some (.map none)) (i : Int) :
    Calls Try.prog 16 #[.pointer (some ⟨bn, 0, none⟩), .int .i64 i] w fun e w' => e = .returned (.int .i64 4) ∧ Fr Non w w' := by
  go_enter Try.func16, Try.ntmps16
  go_wp2_with fail
  refine (place_zero _ _ (((Fr.refl Non w).alloc _).cell h id)).mono ?_
  rintro e w' ⟨rfl, rfl⟩
  go_wp2_with fail
  go_ret
  exact ⟨rfl, (Fr.refl _ _).alloc _⟩

set_option maxRecDepth 100000 in
set_option maxHeartbeats 1000000 in
theorem swap_zero {w : World} {bn : Nat} (h : w.cell? ⟨bn, 1, none⟩ = some (.map none)) (i j : Int) :
    Calls Try.prog 14 #[.pointer (some ⟨bn, 0, none⟩), .int .i64 i, .int .i64 j] w fun e w' => e = .returned (.int .i64 4) ∧ Fr Non w w' := by
  go_enter Try.func14, Try.ntmps14
  go_wp2_with fail
  refine (place_zero _ _ (((Fr.refl Non w).alloc _).cell h id)).mono ?_
  rintro e w' ⟨rfl, rfl⟩
  go_wp2_with fail
  go_ret
  exact ⟨rfl, (Fr.refl _ _).alloc _⟩
end Go.Proofs.Ytkmpmibjenodlaa
