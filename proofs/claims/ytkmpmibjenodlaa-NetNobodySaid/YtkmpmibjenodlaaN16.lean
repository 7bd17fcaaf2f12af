/-
  Net: NetNobody.
-/
import Derived.Test.YtkmpmibjenodlaaN15
namespace Go.Proofs.Ytkmpmibjenodlaa
open Go.RowKit Go.Maps

/-- A pointer to a net that nobody made. -/
def Nobody (w : World) (v : Value) : Prop := v = .pointer none ∨ ∃ bn, v = .pointer (some ⟨bn, 0, none⟩) ∧ w.cell? ⟨bn, 1, none⟩ = some (.map none)
theorem Nobody.fr {w w' : World} {v : Value} (h : Nobody w v) (f : Fr Non w w') : Nobody w' v := by
  rcases h with h | ⟨bn, h1, h2⟩
  · exact .inl h
  · exact .inr ⟨bn, h1, f.cell h2 id⟩

section
variable {w : World} {v : Value} (h : Nobody w v)
include h
theorem nob_take (i : Int) : Calls Try.prog 12 #[v, .int .i64 i] w fun e w' => e = .returned (.tuple #[pz, .int .i64 4]) ∧ Fr Non w w' := by
  rcases h with rfl | ⟨bn, rfl, h⟩
  · exact take_nil i
  · exact take_zero h i
theorem nob_twin (i : Int) : Calls Try.prog 11 #[v, .int .i64 i] w fun e w' => e = .returned (.tuple #[pz, .int .i64 4]) ∧ Fr Non w w' := by
  rcases h with rfl | ⟨bn, rfl, h⟩
  · exact twin_nil i
  · exact twin_zero h i
theorem nob_at (i : Int) : Calls Try.prog 23 #[v, .int .i64 i] w fun e w' => e = .returned (.tuple #[pz, .int .i64 4]) ∧ Fr Non w w' := by
  rcases h with rfl | ⟨bn, rfl, h⟩
  · exact at_nil i
  · exact at_zero h i
theorem nob_drop (i : Int) : Calls Try.prog 16 #[v, .int .i64 i] w fun e w' => e = .returned (.int .i64 4) ∧ Fr Non w w' := by
  rcases h with rfl | ⟨bn, rfl, h⟩
  · exact drop_nil i
  · exact drop_zero h i
theorem nob_swap (i j : Int) : Calls Try.prog 14 #[v, .int .i64 i, .int .i64 j] w fun e w' => e = .returned (.int .i64 4) ∧ Fr Non w w' := by
  rcases h with rfl | ⟨bn, rfl, h⟩
  · exact swap_nil i j
  · exact swap_zero h i j
theorem nob_cut (a : Bool) (n : Int) : Calls Try.prog 19 #[v, .agg #[.bool a, .int .i64 n]] w fun e w' => e = .returned (.tuple #[.int .i64 0, .int .i64 4]) ∧ Fr Non w w' := by
  rcases h with rfl | ⟨bn, rfl, h⟩
  · exact cut_nil a n
  · exact cut_zero h a n
theorem nob_put (fa : Bool) (fn : Int) (ta : Bool) (tn : Int) (x : Value) : Calls Try.prog 10 #[v, .agg #[.bool fa, .int .i64 fn, .bool ta, .int .i64 tn, x]] w fun e w' => e = .returned (.int .i64 4) ∧ Fr Non w w' := by
  rcases h with rfl | ⟨bn, rfl, h⟩
  · exact put_nil ⟨fa, fn, ta, tn, []⟩ x
  · exact put_zero h ⟨fa, fn, ta, tn, []⟩ x
theorem nob_len : Calls Try.prog 18 #[v] w fun e w' => e = .returned (.int .i64 0) ∧ w' = w := by
  rcases h with rfl | ⟨bn, rfl, h⟩
  · exact len_nil w
  · exact len_zero w h
theorem nob_to (a : Bool) (n : Int) : Calls Try.prog 24 #[v, .agg #[.bool a, .int .i64 n]] w fun e w' => e = .returned (.slice none 0 0) ∧ Fr Non w w' := by
  rcases h with rfl | ⟨bn, rfl, h⟩
  · exact to_nil w _ ⟨a, n, rfl⟩
  · exact to_zero h _ ⟨a, n, rfl⟩
theorem nob_stats : Calls Try.prog 17 #[v] w fun e w' => e = .returned (statsOf 0 0 0 0) ∧ Fr Non w w' := by
  rcases h with rfl | ⟨bn, rfl, h⟩
  · exact stats_nil
  · exact stats_zero h
end

set_option maxRecDepth 100000 in
set_option maxHeartbeats 4000000 in
theorem nobody_any (kd i k fn tn : Int) (fa ta : Bool) (va : Option Addr) (vn vc : Nat) (w : World) :
    Calls Try.prog 7 #[.agg #[.int .i64 kd, .bool fa, .int .i64 fn, .bool ta, .int .i64 tn, .slice va vn vc, .int .i64 i, .int .i64 k]] w fun e w' => e = .returned (.bool true) ∧ Fr Non w w' := by
  go_enter Try.func7, Try.ntmps7
  go_wp2_with fail
  obtain ⟨w3, hw3⟩ : ∃ x, x = ((w.alloc (.cells #[.int .i64 kd, .bool fa, .int .i64 fn, .bool ta, .int .i64 tn, .slice va vn vc, .int .i64 i, .int .i64 k] 32)).alloc (.cells #[.slice none 0 0, .map none] 58)).alloc (.cells #[.pointer none, .pointer (some ⟨w.heap.size + 1, 0, none⟩)] 23) := ⟨_, rfl⟩
  have f3 : Fr Non w w3 := by rw [hw3]; exact (((Fr.refl _ _).alloc _).alloc _).alloc _
  have b0 := fun {x : World} (f : Fr Non w3 x) => (f.box (b := w.heap.size) (cs := #[.int .i64 kd, .bool fa, .int .i64 fn, .bool ta, .int .i64 tn, .slice va vn vc, .int .i64 i, .int .i64 k]) (t := 32) (by rw [hw3]; exact (Below.heap_alloc _ _ _ (by simp; omega)).trans (alloc_at2 w _ _)) id).1
  have b1 := fun {x : World} (f : Fr Non w3 x) => (f.box (b := w.heap.size + 1) (cs := #[.slice none 0 0, .map none]) (t := 58) (by rw [hw3]; have := alloc_at2 (w.alloc (.cells #[.int .i64 kd, .bool fa, .int .i64 fn, .bool ta, .int .i64 tn, .slice va vn vc, .int .i64 i, .int .i64 k] 32)) (.cells #[.slice none 0 0, .map none] 58) (.cells #[.pointer none, .pointer (some ⟨w.heap.size + 1, 0, none⟩)] 23); simpa using this) id).1
  have b2 := fun {x : World} (f : Fr Non w3 x) => (f.box (b := w.heap.size + 2) (cs := #[.pointer none, .pointer (some ⟨w.heap.size + 1, 0, none⟩)]) (t := 23) (by rw [hw3]; have := alloc_at ((w.alloc (.cells #[.int .i64 kd, .bool fa, .int .i64 fn, .bool ta, .int .i64 tn, .slice va vn vc, .int .i64 i, .int .i64 k] 32)).alloc (.cells #[.slice none 0 0, .map none] 58)) (.cells #[.pointer none, .pointer (some ⟨w.heap.size + 1, 0, none⟩)] 23); simpa using this) id).1
  have hs3 : w3.heap.size = w.heap.size + 3 := by rw [hw3]; simp
  rw [← hw3]
  clear hw3
  go_loopw [21] (fun x wr => ∃ (j : Nat), j ≤ 2 ∧ x = .int .i64 j ∧ Fr Non w3 wr) (fun x _ => 2 - (intOf x).toNat)
  case atStart => exact ⟨0, by omega, rfl, Fr.refl _ _⟩
  case round =>
    obtain ⟨j, hj, rfl, f4⟩ := hrel
    by_cases hlt : j < 2
    · have j0 : (0 : Int) ≤ (j : Int) := by omega
      have j1 : (j : Int) < 2 := by omega
      obtain ⟨v, hv, hN⟩ : ∃ v, wr.cell? ⟨w.heap.size + 2, j, none⟩ = some v ∧ Nobody wr v := by
        have h2 := b2 f4 j
        rcases (by omega : j = 0 ∨ j = 1) with rfl | rfl
        · exact ⟨_, by simpa using h2, .inl rfl⟩
        · exact ⟨_, by simpa using h2, .inr ⟨_, rfl, by simpa using b1 f4 1⟩⟩
      have q4 := b0 f4
      have HB := Lib.hid (And.intro f4 (fun x (f : Fr Non w3 x) => b0 f))
      clear b0 b1 b2
      go_wp2_with fail
      refine (nob_take hN i).mono ?_
      rintro e w5 ⟨rfl, g5⟩
      have f5 := f4.trans g5
      have q5 := HB.out.2 _ f5
      clear q4
      have z5 : w.heap.size < w5.heap.size := by have := f5.size; omega
      clear hv
      simp only [pz]
      go_wp2_with fail
      have f5a := f5.alloc (.cells #[.bool false, .int .i64 0, .bool false, .int .i64 0, .slice none 0 0] 30)
      refine (nob_twin (hN.fr (g5.alloc (.cells #[.bool false, .int .i64 0, .bool false, .int .i64 0, .slice none 0 0] 30))) i).mono ?_
      rintro e w6 ⟨rfl, g6⟩
      have f6 := f5a.trans g6
      have q6 := HB.out.2 _ f6
      have c5 := (g6.box (alloc_at w5 _) id).1
      clear q5
      have y6 : w5.heap.size < w6.heap.size := by have := g6.size; simp at this; omega
      have z6 : w.heap.size < w6.heap.size := by omega
      simp only [pz]
      go_wp2_with fail
      have hN6 := (hN.fr (g5.alloc (.cells #[.bool false, .int .i64 0, .bool false, .int .i64 0, .slice none 0 0] 30))).fr g6
      have f6a := f6.alloc (.cells #[.bool false, .int .i64 0, .bool false, .int .i64 0, .slice none 0 0] 30)
      refine (nob_at (hN6.fr ((Fr.refl Non w6).alloc (.cells #[.bool false, .int .i64 0, .bool false, .int .i64 0, .slice none 0 0] 30))) i).mono ?_
      rintro e w7 ⟨rfl, g7⟩
      have f7 := f6a.trans g7
      have q7 := HB.out.2 _ f7
      have c6 := (g7.box (alloc_at w6 _) id).1
      have c5' := ((((Fr.refl Non w6).alloc (.cells #[.bool false, .int .i64 0, .bool false, .int .i64 0, .slice none 0 0] 30)).trans g7).box (g6.heap (alloc_at w5 _) id) id).1
      clear q6 c5
      have y7 : w6.heap.size < w7.heap.size := by have := g7.size; simp at this; omega
      have z7 : w.heap.size < w7.heap.size := by omega
      have x7 : w5.heap.size < w7.heap.size := by omega
      simp only [pz]
      go_wp2_with fail
      have hN7 := (hN6.fr ((Fr.refl Non w6).alloc (.cells #[.bool false, .int .i64 0, .bool false, .int .i64 0, .slice none 0 0] 30))).fr g7
      have f7a := f7.alloc (.cells #[.bool false, .int .i64 0, .bool false, .int .i64 0, .slice none 0 0] 30)
      refine (nob_cut (hN7.fr ((Fr.refl Non w7).alloc (.cells #[.bool false, .int .i64 0, .bool false, .int .i64 0, .slice none 0 0] 30))) fa fn).mono ?_
      rintro e w8 ⟨rfl, g8⟩
      have f8 := f7a.trans g8
      have p7 := g8.heap (alloc_at w7 _) id
      have p6 := (((Fr.refl Non w7).alloc (.cells #[.bool false, .int .i64 0, .bool false, .int .i64 0, .slice none 0 0] 30)).trans g8).heap (g7.heap (alloc_at w6 _) id) id
      have p5 := ((((((Fr.refl Non w6).alloc (.cells #[.bool false, .int .i64 0, .bool false, .int .i64 0, .slice none 0 0] 30)).trans g7).alloc (.cells #[.bool false, .int .i64 0, .bool false, .int .i64 0, .slice none 0 0] 30))).trans g8).heap (g6.heap (alloc_at w5 _) id) id
      have HP := Lib.hid (And.intro p5 (And.intro p6 p7))
      have hN8 := (hN7.fr ((Fr.refl Non w7).alloc (.cells #[.bool false, .int .i64 0, .bool false, .int .i64 0, .slice none 0 0] 30))).fr g8
      have y8 : w7.heap.size < w8.heap.size := by have := g8.size; simp at this; omega
      clear q7 c6 c5' p5 p6 p7
      have hF8 : Hid (Fr Non wr w8) := (g5.alloc _).trans ((g6.alloc _).trans ((g7.alloc _).trans g8))
      go_wp2_with fail
      refine wp_draw [((Fr Non w8), [(.free, 0), (.free, 1), (.free, 2), (.free, 3), (.free, 4), (.free, 5), (.held, 6), (.free, 8), (.free, 9), (.held, 10), (.free, 12), (.free, 13), (.held, 14), (.free, 15), (.held, 16), (.free, 20), (.kept, 7), (.kept, 11), (.kept, 17), (.kept, 18), (.free, 19)])] 21 (by kernel_rfl) (by kernel_rfl) (fun _ _ _ _ _ h => h) ⟨(Fr.refl _ _).drew, ?_⟩
      repeat (first
        | (refine' wpPlan_free (v := _) rfl (by rfl) ?_ ?_
           rotate_left
           · (intro w'; go_simp; try rfl)
           simp only [List.getElem_toArray, List.getElem_cons_zero, List.getElem_cons_succ, Act.put, List.setIfInBounds_toArray, List.set_cons_zero, List.set_cons_succ])
        | (refine' wpPlan_held (v := _) rfl (by rfl) ?_ ?_
           rotate_left
           · (intro w' hS; have q := HB.out.2 _ (f8.trans hS); go_simp; try rfl)
           simp only [List.getElem_toArray, List.getElem_cons_zero, List.getElem_cons_succ, Act.put, List.setIfInBounds_toArray, List.set_cons_zero, List.set_cons_succ])
        | (refine' wpPlan_skip rfl (by rfl) ?_
           simp only [List.getElem_toArray, List.getElem_cons_zero, List.getElem_cons_succ, Act.put, List.setIfInBounds_toArray, List.set_cons_zero, List.set_cons_succ])
        | (refine' wpPlan_skipHeld rfl (by rfl) ?_
           simp only [List.getElem_toArray, List.getElem_cons_zero, List.getElem_cons_succ, Act.put, List.setIfInBounds_toArray, List.set_cons_zero, List.set_cons_succ]))
      refine' wpPlan_kept rfl ?_
      intro K hK
      go_simp
      refine (nob_put (hN8.fr (Fr.refl Non w8).drew) fa fn ta tn _).mono ?_
      rintro e w9 ⟨rfl, g9⟩
      go_simp
      refine hK _ _ ⟨(Fr.refl Non w8).drew.trans g9, ?_⟩
      clear hK K
      repeat (first
        | (refine' wpPlan_free (v := _) rfl (by rfl) ?_ ?_
           rotate_left
           · (intro w'; go_simp; try rfl)
           simp only [List.getElem_toArray, List.getElem_cons_zero, List.getElem_cons_succ, Act.put, List.setIfInBounds_toArray, List.set_cons_zero, List.set_cons_succ])
        | (refine' wpPlan_held (v := _) rfl (by rfl) ?_ ?_
           rotate_left
           · (intro w' hS; go_simp; try rfl)
           simp only [List.getElem_toArray, List.getElem_cons_zero, List.getElem_cons_succ, Act.put, List.setIfInBounds_toArray, List.set_cons_zero, List.set_cons_succ])
        | (refine' wpPlan_skip rfl (by rfl) ?_
           simp only [List.getElem_toArray, List.getElem_cons_zero, List.getElem_cons_succ, Act.put, List.setIfInBounds_toArray, List.set_cons_zero, List.set_cons_succ])
        | (refine' wpPlan_skipHeld rfl (by rfl) ?_
           simp only [List.getElem_toArray, List.getElem_cons_zero, List.getElem_cons_succ, Act.put, List.setIfInBounds_toArray, List.set_cons_zero, List.set_cons_succ]))
      refine' wpPlan_kept rfl ?_
      intro K hK
      go_simp
      have hN9 := (hN8.fr (Fr.refl Non w8).drew).fr g9
      refine (nob_drop hN9 i).mono ?_
      rintro e w10 ⟨rfl, g10⟩
      go_simp
      refine hK _ _ ⟨((Fr.refl Non w8).drew.trans g9).trans g10, ?_⟩
      clear hK K
      repeat (first
        | (refine' wpPlan_free (v := _) rfl (by rfl) ?_ ?_
           rotate_left
           · (intro w'; go_simp; try rfl)
           simp only [List.getElem_toArray, List.getElem_cons_zero, List.getElem_cons_succ, Act.put, List.setIfInBounds_toArray, List.set_cons_zero, List.set_cons_succ])
        | (refine' wpPlan_held (v := _) rfl (by rfl) ?_ ?_
           rotate_left
           · (intro w' hS; go_simp; try rfl)
           simp only [List.getElem_toArray, List.getElem_cons_zero, List.getElem_cons_succ, Act.put, List.setIfInBounds_toArray, List.set_cons_zero, List.set_cons_succ])
        | (refine' wpPlan_skip rfl (by rfl) ?_
           simp only [List.getElem_toArray, List.getElem_cons_zero, List.getElem_cons_succ, Act.put, List.setIfInBounds_toArray, List.set_cons_zero, List.set_cons_succ])
        | (refine' wpPlan_skipHeld rfl (by rfl) ?_
           simp only [List.getElem_toArray, List.getElem_cons_zero, List.getElem_cons_succ, Act.put, List.setIfInBounds_toArray, List.set_cons_zero, List.set_cons_succ]))
      refine' wpPlan_kept rfl ?_
      intro K hK
      go_simp
      refine (nob_swap (hN9.fr g10) i k).mono ?_
      rintro e w11 ⟨rfl, g11⟩
      go_simp
      have f11 : Fr Non w8 w11 := (((Fr.refl Non w8).drew.trans g9).trans g10).trans g11
      refine hK _ _ ⟨f11, ?_⟩
      clear hK K
      repeat (first
        | (refine' wpPlan_free (v := _) rfl (by rfl) ?_ ?_
           rotate_left
           · (intro w'; go_simp; try rfl)
           simp only [List.getElem_toArray, List.getElem_cons_zero, List.getElem_cons_succ, Act.put, List.setIfInBounds_toArray, List.set_cons_zero, List.set_cons_succ])
        | (refine' wpPlan_held (v := _) rfl (by rfl) ?_ ?_
           rotate_left
           · (intro w' hS; go_simp; try rfl)
           simp only [List.getElem_toArray, List.getElem_cons_zero, List.getElem_cons_succ, Act.put, List.setIfInBounds_toArray, List.set_cons_zero, List.set_cons_succ])
        | (refine' wpPlan_skip rfl (by rfl) ?_
           simp only [List.getElem_toArray, List.getElem_cons_zero, List.getElem_cons_succ, Act.put, List.setIfInBounds_toArray, List.set_cons_zero, List.set_cons_succ])
        | (refine' wpPlan_skipHeld rfl (by rfl) ?_
           simp only [List.getElem_toArray, List.getElem_cons_zero, List.getElem_cons_succ, Act.put, List.setIfInBounds_toArray, List.set_cons_zero, List.set_cons_succ]))
      refine' wpPlan_kept rfl ?_
      intro K hK
      go_simp
      refine hK _ _ ⟨f11.alloc _, ?_⟩
      clear hK K
      repeat (first
        | (refine' wpPlan_free (v := _) rfl (by rfl) ?_ ?_
           rotate_left
           · (intro w'; go_simp; try rfl)
           simp only [List.getElem_toArray, List.getElem_cons_zero, List.getElem_cons_succ, Act.put, List.setIfInBounds_toArray, List.set_cons_zero, List.set_cons_succ])
        | (refine' wpPlan_held (v := _) rfl (by rfl) ?_ ?_
           rotate_left
           · (intro w' hS; go_simp; try rfl)
           simp only [List.getElem_toArray, List.getElem_cons_zero, List.getElem_cons_succ, Act.put, List.setIfInBounds_toArray, List.set_cons_zero, List.set_cons_succ])
        | (refine' wpPlan_skip rfl (by rfl) ?_
           simp only [List.getElem_toArray, List.getElem_cons_zero, List.getElem_cons_succ, Act.put, List.setIfInBounds_toArray, List.set_cons_zero, List.set_cons_succ])
        | (refine' wpPlan_skipHeld rfl (by rfl) ?_
           simp only [List.getElem_toArray, List.getElem_cons_zero, List.getElem_cons_succ, Act.put, List.setIfInBounds_toArray, List.set_cons_zero, List.set_cons_succ]))
      refine wpPlan_end ?_
      simp only [wpSegs, List.drop_succ_cons, List.drop_zero]
      go_wp2_with fail
      obtain ⟨w12, hw12⟩ : ∃ x, x = w11.alloc (.cells #[.int .i64 4, .int .i64 4, .int .i64 4, .int .i64 4, .int .i64 4, .int .i64 4, .int .i64 4] 34) := ⟨_, rfl⟩
      have f12 : Fr Non w8 w12 := by rw [hw12]; exact f11.alloc _
      have hz11 := f11.size
      have hsz : w11.heap.size < w12.heap.size := by rw [hw12]; simp
      have hc : ∀ m, m < 7 → w12.cell? ⟨w11.heap.size, m, none⟩ = some (.int .i64 4) := by
        intro m hm
        rw [hw12, cell_of_row _ _ _ _ _ _ (alloc_at w11 _)]
        rcases (by omega : m = 0 ∨ m = 1 ∨ m = 2 ∨ m = 3 ∨ m = 4 ∨ m = 5 ∨ m = 6) with rfl | rfl | rfl | rfl | rfl | rfl | rfl <;> rfl
      rw [← hw12]
      have HC := Lib.hid hc
      have hN12 : Nobody w12 v := (hN8.fr f12)
      clear hw12 hc
      go_loopw [74] (fun x wx => ∃ (m : Nat), m ≤ 7 ∧ x = .int .i64 m ∧ wx = w12) (fun x _ => 7 - (intOf x).toNat)
      case atStart => exact ⟨0, by omega, rfl, rfl⟩
      case round =>
        obtain ⟨m, hm, rfl, rfl⟩ := hrel
        by_cases hm7 : m < 7
        · have m0 : (0 : Int) ≤ (m : Int) := by omega
          have m1 : (m : Int) < 7 := by omega
          have hc := HC.out m hm7
          go_wp2_with fail
          go_roundw
          case rel => exact ⟨m + 1, by omega, by go_num, trivial⟩
          case measure => simp [intOf]; omega
        · obtain rfl : m = 7 := by omega
          go_wp2_with fail
          refine wp_draw [((Fr Non wr), [(.free, 0), (.held, 1), (.free, 2), (.free, 3), (.held, 4), (.free, 5), (.free, 6), (.free, 7), (.held, 8), (.free, 9), (.free, 10), (.free, 11), (.free, 12), (.free, 13), (.free, 16), (.free, 17), (.free, 18), (.held, 19), (.kept, 14), (.free, 15), (.kept, 20), (.free, 21), (.free, 22), (.free, 23), (.free, 24), (.free, 25), (.free, 27), (.kept, 26), (.free, 28), (.free, 29)])] 30 (by kernel_rfl) (by kernel_rfl) (fun _ _ _ _ _ h => h) ⟨(Fr.refl _ _).drew, ?_⟩
          repeat (first
            | (refine' wpPlan_free (v := _) rfl (by rfl) ?_ ?_
               rotate_left
               · (intro w'; go_simp; try rfl)
               simp only [List.getElem_toArray, List.getElem_cons_zero, List.getElem_cons_succ, Act.put, List.setIfInBounds_toArray, List.set_cons_zero, List.set_cons_succ])
            | (refine' wpPlan_held (v := _) rfl (by rfl) ?_ ?_
               rotate_left
               · (intro w' hS; have q := HB.out.2 _ (f8.trans (f12.trans hS)); have r5 := ((f12.trans hS).box HP.out.1 id).1; have r6 := ((f12.trans hS).box HP.out.2.1 id).1; have r7 := ((f12.trans hS).box HP.out.2.2 id).1; go_simp; try rfl)
               simp only [List.getElem_toArray, List.getElem_cons_zero, List.getElem_cons_succ, Act.put, List.setIfInBounds_toArray, List.set_cons_zero, List.set_cons_succ])
            | (refine' wpPlan_skip rfl (by rfl) ?_
               simp only [List.getElem_toArray, List.getElem_cons_zero, List.getElem_cons_succ, Act.put, List.setIfInBounds_toArray, List.set_cons_zero, List.set_cons_succ])
            | (refine' wpPlan_skipHeld rfl (by rfl) ?_
               simp only [List.getElem_toArray, List.getElem_cons_zero, List.getElem_cons_succ, Act.put, List.setIfInBounds_toArray, List.set_cons_zero, List.set_cons_succ]))
          refine' wpPlan_kept rfl ?_
          intro K hK
          go_simp
          refine (nob_len (hN12.fr (Fr.refl Non wr).drew)).mono ?_
          rintro e w13 ⟨rfl, rfl⟩
          go_simp
          refine hK _ _ ⟨(Fr.refl Non wr).drew, ?_⟩
          clear hK K
          repeat (first
            | (refine' wpPlan_free (v := _) rfl (by rfl) ?_ ?_
               rotate_left
               · (intro w'; go_simp; try rfl)
               simp only [List.getElem_toArray, List.getElem_cons_zero, List.getElem_cons_succ, Act.put, List.setIfInBounds_toArray, List.set_cons_zero, List.set_cons_succ])
            | (refine' wpPlan_held (v := _) rfl (by rfl) ?_ ?_
               rotate_left
               · (intro w' hS; go_simp; try rfl)
               simp only [List.getElem_toArray, List.getElem_cons_zero, List.getElem_cons_succ, Act.put, List.setIfInBounds_toArray, List.set_cons_zero, List.set_cons_succ])
            | (refine' wpPlan_skip rfl (by rfl) ?_
               simp only [List.getElem_toArray, List.getElem_cons_zero, List.getElem_cons_succ, Act.put, List.setIfInBounds_toArray, List.set_cons_zero, List.set_cons_succ])
            | (refine' wpPlan_skipHeld rfl (by rfl) ?_
               simp only [List.getElem_toArray, List.getElem_cons_zero, List.getElem_cons_succ, Act.put, List.setIfInBounds_toArray, List.set_cons_zero, List.set_cons_succ]))
          refine' wpPlan_kept rfl ?_
          intro K hK
          go_simp
          refine (nob_to (hN12.fr (Fr.refl Non wr).drew) ta tn).mono ?_
          rintro e w14 ⟨rfl, g14⟩
          go_simp
          refine hK _ _ ⟨(Fr.refl Non wr).drew.trans g14, ?_⟩
          clear hK K
          repeat (first
            | (refine' wpPlan_free (v := _) rfl (by rfl) ?_ ?_
               rotate_left
               · (intro w'; go_simp; try rfl)
               simp only [List.getElem_toArray, List.getElem_cons_zero, List.getElem_cons_succ, Act.put, List.setIfInBounds_toArray, List.set_cons_zero, List.set_cons_succ])
            | (refine' wpPlan_held (v := _) rfl (by rfl) ?_ ?_
               rotate_left
               · (intro w' hS; go_simp; try rfl)
               simp only [List.getElem_toArray, List.getElem_cons_zero, List.getElem_cons_succ, Act.put, List.setIfInBounds_toArray, List.set_cons_zero, List.set_cons_succ])
            | (refine' wpPlan_skip rfl (by rfl) ?_
               simp only [List.getElem_toArray, List.getElem_cons_zero, List.getElem_cons_succ, Act.put, List.setIfInBounds_toArray, List.set_cons_zero, List.set_cons_succ])
            | (refine' wpPlan_skipHeld rfl (by rfl) ?_
               simp only [List.getElem_toArray, List.getElem_cons_zero, List.getElem_cons_succ, Act.put, List.setIfInBounds_toArray, List.set_cons_zero, List.set_cons_succ]))
          refine' wpPlan_kept rfl ?_
          intro K hK
          go_simp
          refine (nob_stats ((hN12.fr (Fr.refl Non wr).drew).fr g14)).mono ?_
          rintro e w15 ⟨rfl, g15⟩
          simp only [statsOf]
          go_simp
          refine hK _ _ ⟨((Fr.refl Non wr).drew.trans g14).trans g15, ?_⟩
          clear hK K
          repeat (first
            | (refine' wpPlan_free (v := _) rfl (by rfl) ?_ ?_
               rotate_left
               · (intro w'; go_simp; try rfl)
               simp only [List.getElem_toArray, List.getElem_cons_zero, List.getElem_cons_succ, Act.put, List.setIfInBounds_toArray, List.set_cons_zero, List.set_cons_succ])
            | (refine' wpPlan_held (v := _) rfl (by rfl) ?_ ?_
               rotate_left
               · (intro w' hS; go_simp; try rfl)
               simp only [List.getElem_toArray, List.getElem_cons_zero, List.getElem_cons_succ, Act.put, List.setIfInBounds_toArray, List.set_cons_zero, List.set_cons_succ])
            | (refine' wpPlan_skip rfl (by rfl) ?_
               simp only [List.getElem_toArray, List.getElem_cons_zero, List.getElem_cons_succ, Act.put, List.setIfInBounds_toArray, List.set_cons_zero, List.set_cons_succ])
            | (refine' wpPlan_skipHeld rfl (by rfl) ?_
               simp only [List.getElem_toArray, List.getElem_cons_zero, List.getElem_cons_succ, Act.put, List.setIfInBounds_toArray, List.set_cons_zero, List.set_cons_succ]))
          refine wpPlan_end ?_
          simp only [wpSegs, List.drop_succ_cons, List.drop_zero]
          go_wp2_with fail
          go_roundw
          case rel => exact ⟨j + 1, by omega, by go_num, ((HB.out.1.trans hF8.out).trans f12).trans (((Fr.refl Non wr).drew.trans g14).trans g15)⟩
          case measure => simp [intOf]; omega
    · obtain rfl : j = 2 := by omega
      go_wp2_with fail
      refine (alive_any _).mono ?_
      rintro e w1 ⟨rfl, f1⟩
      go_wp2_with fail
      go_ret
      exact ⟨rfl, (f3.trans f4).trans f1⟩
end Go.Proofs.Ytkmpmibjenodlaa
