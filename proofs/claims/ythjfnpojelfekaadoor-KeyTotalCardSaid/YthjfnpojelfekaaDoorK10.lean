/-
  KeyTotal, walked.
-/
import Derived.Test.YthjfnpojelfekaaDoorK9
namespace Go.Proofs.YthjfnpojelfekaaDoor
open Go.RowKit

theorem kCmp_swap (a b : MK) : kCmp b a = - kCmp a b := by unfold kCmp c3; grind
theorem kCmp_three (a b : MK) : kCmp a b = -1 ∨ kCmp a b = 0 ∨ kCmp a b = 1 := by unfold kCmp c3; grind
theorem kCmp_le {a b c : MK} (h1 : kCmp a b ≤ 0) (h2 : kCmp b c ≤ 0) : kCmp a c ≤ 0 := by
  unfold kCmp c3 at *; grind
theorem kCmp_lt_le {a b c : MK} (h1 : kCmp a b < 0) (h2 : kCmp b c ≤ 0) : kCmp a c < 0 := by
  unfold kCmp c3 at *; grind

set_option maxRecDepth 100000 in
set_option maxHeartbeats 4000000 in
theorem total_law (w : World) (a b c : MK) : Calls Tryd.prog 4 #[kV a, kV b, kV c] w (KEnd w) := by
  have H0 := Lib.hid (fun w => awake_any w)
  have H1 := Lib.hid (fun w => compare_any w a b)
  have H2 := Lib.hid (fun w => compare_any w b c)
  have H3 := Lib.hid (fun w => compare_any w a c)
  have H4 := Lib.hid (fun w => compare_any w b a)
  have H5 := Lib.hid (fun w => less_any w a b)
  have E := Lib.hid (fun w => eq_key a b w)
  have T1 := Lib.hid (kCmp_three a b)
  have T2 := Lib.hid (@kCmp_le a b c)
  have T3 := Lib.hid (@kCmp_lt_le a b c)
  have T4 := Lib.hid (@kCmp_zero a b)
  have T5 := Lib.hid (show kLess a b = decide (kCmp a b < 0) from rfl)
  rw [kCmp_swap a b] at H4
  obtain ⟨x, hx⟩ : ∃ x, kCmp a b = x := ⟨_, rfl⟩
  obtain ⟨y, hy⟩ : ∃ y, kCmp b c = y := ⟨_, rfl⟩
  obtain ⟨z, hz⟩ : ∃ z, kCmp a c = z := ⟨_, rfl⟩
  rw [hx] at H1 H4 T1 T2 T3 T4 T5
  rw [hy] at H2 T2 T3
  rw [hz] at H3 T2 T3
  clear hx hy hz
  have T6 := Lib.hid (show decide (a = b) = decide (x = 0) by rw [decide_eq_decide]; exact T4.out.symm)
  rw [T6.out] at E
  rw [T5.out] at H5
  obtain ⟨a1, a2⟩ := a
  obtain ⟨b1, b2⟩ := b
  obtain ⟨c1, c2⟩ := c
  unfold kV at H1 H2 H3 H4 H5 E ⊢
  clear T4 T5 T6
  have bA := alloc_at2 w (.cells #[.int .i64 a1, .int .u64 a2] 25) (.cells #[.int .i64 b1, .int .u64 b2] 25)
  have bB := alloc_at2' w (.cells #[.int .i64 a1, .int .u64 a2] 25) (.cells #[.int .i64 b1, .int .u64 b2] 25)
  have bC := alloc_at ((w.alloc (.cells #[.int .i64 a1, .int .u64 a2] 25)).alloc (.cells #[.int .i64 b1, .int .u64 b2] 25)) (.cells #[.int .i64 c1, .int .u64 c2] 25)
  have f2 : Fr Non ((w.alloc (.cells #[.int .i64 a1, .int .u64 a2] 25)).alloc (.cells #[.int .i64 b1, .int .u64 b2] 25)) (((w.alloc (.cells #[.int .i64 a1, .int .u64 a2] 25)).alloc (.cells #[.int .i64 b1, .int .u64 b2] 25)).alloc (.cells #[.int .i64 c1, .int .u64 c2] 25)) := (Fr.refl _ _).alloc _
  have f0 : Fr Non w (((w.alloc (.cells #[.int .i64 a1, .int .u64 a2] 25)).alloc (.cells #[.int .i64 b1, .int .u64 b2] 25)).alloc (.cells #[.int .i64 c1, .int .u64 c2] 25)) := (((Fr.refl _ _).alloc _).alloc _).trans f2
  replace bA := f2.heap bA id
  replace bB := f2.heap bB id
  simp only [World.size_alloc] at bC
  clear f2
  go_enter Tryd.func4, Tryd.ntmps4
  go_wp2_with fail
  refine (H0.out _).mono ?_
  rintro e v1 ⟨rfl, g1⟩
  have s0a : v1.cell? ⟨w.heap.size, 0, none⟩ = some (.int .i64 a1) := by rw [(box_facts (g1.heap bA id)).1]; rfl
  have s0b : v1.cell? ⟨w.heap.size, 1, none⟩ = some (.int .u64 a2) := by rw [(box_facts (g1.heap bA id)).1]; rfl
  have s1a : v1.cell? ⟨w.heap.size + 1, 0, none⟩ = some (.int .i64 b1) := by rw [(box_facts (g1.heap bB id)).1]; rfl
  have s1b : v1.cell? ⟨w.heap.size + 1, 1, none⟩ = some (.int .u64 b2) := by rw [(box_facts (g1.heap bB id)).1]; rfl
  have s2a : v1.cell? ⟨w.heap.size + 1 + 1, 0, none⟩ = some (.int .i64 c1) := by rw [(box_facts (g1.heap bC id)).1]; rfl
  have s2b : v1.cell? ⟨w.heap.size + 1 + 1, 1, none⟩ = some (.int .u64 c2) := by rw [(box_facts (g1.heap bC id)).1]; rfl
  have Q := Lib.hid (And.intro s0a (And.intro s0b (And.intro s1a (And.intro s1b (And.intro s2a s2b)))))
  have F1 := Lib.hid (f0.trans g1)
  clear s0a s0b s1a s1b s2a s2b bA bB bC f0 g1 H0
  go_wp2_with fail
  have fd0 : Fr Non v1 v1.drew := (Fr.refl _ _).drew
  refine wp_draw [((fun y => Fr Non v1 y), [(.held, 0), (.held, 1), (.held, 3), (.held, 4), (.held, 6), (.held, 7), (.kept, 2), (.kept, 5), (.kept, 8), (.free, 9), (.free, 10), (.free, 11)])] 12 (by kernel_rfl) (by kernel_rfl) (fun _ _ _ _ _ h => h) ⟨fd0, ?_⟩
  generalize v1.drew = wd0 at fd0 ⊢
  repeat (first
    | (refine' wpPlan_free (v := _) rfl (by rfl) ?_ ?_
       rotate_left
       · (intro w'; skip; go_simp; try rfl)
       simp only [List.getElem_toArray, List.getElem_cons_zero, List.getElem_cons_succ, Act.put, List.setIfInBounds_toArray, List.set_cons_zero, List.set_cons_succ])
    | (refine' wpPlan_held (v := _) rfl (by rfl) ?_ ?_
       rotate_left
       · (intro w' hS; skip; (have q0 := hS.cell Q.out.1 id; have q1 := hS.cell Q.out.2.1 id; have q2 := hS.cell Q.out.2.2.1 id; have q3 := hS.cell Q.out.2.2.2.1 id; have q4 := hS.cell Q.out.2.2.2.2.1 id; have q5 := hS.cell Q.out.2.2.2.2.2 id; clear hS); go_simp; try rfl)
       simp only [List.getElem_toArray, List.getElem_cons_zero, List.getElem_cons_succ, Act.put, List.setIfInBounds_toArray, List.set_cons_zero, List.set_cons_succ])
    | (refine' wpPlan_skip rfl (by rfl) ?_
       simp only [List.getElem_toArray, List.getElem_cons_zero, List.getElem_cons_succ, Act.put, List.setIfInBounds_toArray, List.set_cons_zero, List.set_cons_succ])
    | (refine' wpPlan_skipHeld rfl (by rfl) ?_
       simp only [List.getElem_toArray, List.getElem_cons_zero, List.getElem_cons_succ, Act.put, List.setIfInBounds_toArray, List.set_cons_zero, List.set_cons_succ]))
  refine' wpPlan_kept rfl ?_
  intro K hK
  go_simp
  refine (H1.out _).mono ?_
  rintro e w1 ⟨rfl, f1⟩
  go_simp
  have fd1 := fd0.trans f1.fr
  refine hK _ _ ⟨fd1, ?_⟩
  clear hK K fd0 f1
  repeat (first
    | (refine' wpPlan_free (v := _) rfl (by rfl) ?_ ?_
       rotate_left
       · (intro w'; skip; go_simp; try rfl)
       simp only [List.getElem_toArray, List.getElem_cons_zero, List.getElem_cons_succ, Act.put, List.setIfInBounds_toArray, List.set_cons_zero, List.set_cons_succ])
    | (refine' wpPlan_held (v := _) rfl (by rfl) ?_ ?_
       rotate_left
       · (intro w' hS; skip; (have q0 := hS.cell Q.out.1 id; have q1 := hS.cell Q.out.2.1 id; have q2 := hS.cell Q.out.2.2.1 id; have q3 := hS.cell Q.out.2.2.2.1 id; have q4 := hS.cell Q.out.2.2.2.2.1 id; have q5 := hS.cell Q.out.2.2.2.2.2 id; clear hS); go_simp; try rfl)
       simp only [List.getElem_toArray, List.getElem_cons_zero, List.getElem_cons_succ, Act.put, List.setIfInBounds_toArray, List.set_cons_zero, List.set_cons_succ])
    | (refine' wpPlan_skip rfl (by rfl) ?_
       simp only [List.getElem_toArray, List.getElem_cons_zero, List.getElem_cons_succ, Act.put, List.setIfInBounds_toArray, List.set_cons_zero, List.set_cons_succ])
    | (refine' wpPlan_skipHeld rfl (by rfl) ?_
       simp only [List.getElem_toArray, List.getElem_cons_zero, List.getElem_cons_succ, Act.put, List.setIfInBounds_toArray, List.set_cons_zero, List.set_cons_succ]))
  refine' wpPlan_kept rfl ?_
  intro K hK
  go_simp
  refine (H2.out _).mono ?_
  rintro e w2 ⟨rfl, f2⟩
  go_simp
  have fd2 := fd1.trans f2.fr
  refine hK _ _ ⟨fd2, ?_⟩
  clear hK K fd1 f2
  repeat (first
    | (refine' wpPlan_free (v := _) rfl (by rfl) ?_ ?_
       rotate_left
       · (intro w'; skip; go_simp; try rfl)
       simp only [List.getElem_toArray, List.getElem_cons_zero, List.getElem_cons_succ, Act.put, List.setIfInBounds_toArray, List.set_cons_zero, List.set_cons_succ])
    | (refine' wpPlan_held (v := _) rfl (by rfl) ?_ ?_
       rotate_left
       · (intro w' hS; skip; (have q0 := hS.cell Q.out.1 id; have q1 := hS.cell Q.out.2.1 id; have q2 := hS.cell Q.out.2.2.1 id; have q3 := hS.cell Q.out.2.2.2.1 id; have q4 := hS.cell Q.out.2.2.2.2.1 id; have q5 := hS.cell Q.out.2.2.2.2.2 id; clear hS); go_simp; try rfl)
       simp only [List.getElem_toArray, List.getElem_cons_zero, List.getElem_cons_succ, Act.put, List.setIfInBounds_toArray, List.set_cons_zero, List.set_cons_succ])
    | (refine' wpPlan_skip rfl (by rfl) ?_
       simp only [List.getElem_toArray, List.getElem_cons_zero, List.getElem_cons_succ, Act.put, List.setIfInBounds_toArray, List.set_cons_zero, List.set_cons_succ])
    | (refine' wpPlan_skipHeld rfl (by rfl) ?_
       simp only [List.getElem_toArray, List.getElem_cons_zero, List.getElem_cons_succ, Act.put, List.setIfInBounds_toArray, List.set_cons_zero, List.set_cons_succ]))
  refine' wpPlan_kept rfl ?_
  intro K hK
  go_simp
  refine (H3.out _).mono ?_
  rintro e w3 ⟨rfl, f3⟩
  go_simp
  have fd3 := fd2.trans f3.fr
  refine hK _ _ ⟨fd3, ?_⟩
  clear hK K fd2 f3
  repeat (first
    | (refine' wpPlan_free (v := _) rfl (by rfl) ?_ ?_
       rotate_left
       · (intro w'; skip; go_simp; try rfl)
       simp only [List.getElem_toArray, List.getElem_cons_zero, List.getElem_cons_succ, Act.put, List.setIfInBounds_toArray, List.set_cons_zero, List.set_cons_succ])
    | (refine' wpPlan_held (v := _) rfl (by rfl) ?_ ?_
       rotate_left
       · (intro w' hS; skip; (have q0 := hS.cell Q.out.1 id; have q1 := hS.cell Q.out.2.1 id; have q2 := hS.cell Q.out.2.2.1 id; have q3 := hS.cell Q.out.2.2.2.1 id; have q4 := hS.cell Q.out.2.2.2.2.1 id; have q5 := hS.cell Q.out.2.2.2.2.2 id; clear hS); go_simp; try rfl)
       simp only [List.getElem_toArray, List.getElem_cons_zero, List.getElem_cons_succ, Act.put, List.setIfInBounds_toArray, List.set_cons_zero, List.set_cons_succ])
    | (refine' wpPlan_skip rfl (by rfl) ?_
       simp only [List.getElem_toArray, List.getElem_cons_zero, List.getElem_cons_succ, Act.put, List.setIfInBounds_toArray, List.set_cons_zero, List.set_cons_succ])
    | (refine' wpPlan_skipHeld rfl (by rfl) ?_
       simp only [List.getElem_toArray, List.getElem_cons_zero, List.getElem_cons_succ, Act.put, List.setIfInBounds_toArray, List.set_cons_zero, List.set_cons_succ]))
  refine wpPlan_end ?_
  simp only [wpSegs, List.drop_succ_cons, List.drop_zero]
  have t0 := fd3.cell Q.out.1 id
  have t1 := fd3.cell Q.out.2.1 id
  have t2 := fd3.cell Q.out.2.2.1 id
  have t3 := fd3.cell Q.out.2.2.2.1 id
  go_wp2_with fail
  refine (H4.out _).mono ?_
  rintro e v4 ⟨rfl, g4⟩
  have fd4 := fd3.trans g4.fr
  have t0 := fd4.cell Q.out.1 id
  have t1 := fd4.cell Q.out.2.1 id
  have t2 := fd4.cell Q.out.2.2.1 id
  have t3 := fd4.cell Q.out.2.2.2.1 id
  have F4 := Lib.hid (F1.out.trans fd4)
  clear fd3 g4 fd4 H1 H2 H3 H4 Q F1
  have e1 := E.out
  rcases T1.out with rfl | rfl | rfl
  · rw [show decide ((-1 : Int) = 0) = false by rfl] at e1
    rw [show decide ((-1 : Int) < 0) = true by rfl] at H5
    by_cases hy : y ≤ 0
    · have hz := T3.out (by omega) hy
      have hz1 : ¬ 0 < z := by omega
      have hz2 : ¬ 0 ≤ z := by omega
      clear T1 T2 T3 E
      go_wp2_with fail
      refine (H5.out _).mono ?_
      rintro e v5 ⟨rfl, g5⟩
      go_wp2_with fail
      go_ret
      exact ⟨by trivial, F4.out.trans g5.fr⟩
    · clear T1 T2 T3 E
      go_wp2_with fail
      refine (H5.out _).mono ?_
      rintro e v5 ⟨rfl, g5⟩
      go_wp2_with fail
      go_ret
      exact ⟨by trivial, F4.out.trans g5.fr⟩
  · rw [show decide ((0 : Int) = 0) = true by rfl] at e1
    rw [show decide ((0 : Int) < 0) = false by rfl] at H5
    by_cases hy : y ≤ 0
    · have hz := T2.out (by omega) hy
      have hz1 : ¬ 0 < z := by omega
      clear T1 T2 T3 E
      go_wp2_with fail
      refine (H5.out _).mono ?_
      rintro e v5 ⟨rfl, g5⟩
      go_wp2_with fail
      go_ret
      exact ⟨by trivial, F4.out.trans g5.fr⟩
    · clear T1 T2 T3 E
      go_wp2_with fail
      refine (H5.out _).mono ?_
      rintro e v5 ⟨rfl, g5⟩
      go_wp2_with fail
      go_ret
      exact ⟨by trivial, F4.out.trans g5.fr⟩
  · rw [show decide ((1 : Int) = 0) = false by rfl] at e1
    rw [show decide ((1 : Int) < 0) = false by rfl] at H5
    clear T1 T2 T3 E
    go_wp2_with fail
    refine (H5.out _).mono ?_
    rintro e v5 ⟨rfl, g5⟩
    go_wp2_with fail
    go_ret
    exact ⟨by trivial, F4.out.trans g5.fr⟩
end Go.Proofs.YthjfnpojelfekaaDoor
