/-
  KeyOrders, KeySteps, walked.
-/
import Derived.Test.YthjfnpojelfekaaDoorK8
namespace Go.Proofs.YthjfnpojelfekaaDoor
open Go.RowKit

def KEnd (w : World) (e : Ending) (w' : World) : Prop := e = .returned (.bool true) ∧ Fr Non w w'
set_option maxRecDepth 100000 in
set_option maxHeartbeats 4000000 in
theorem orders_law (w : World) (a b : MK) : Calls Tryd.prog 3 #[kV a, kV b] w (KEnd w) := by
  have H1 := Lib.hid (fun w => check_any w a)
  have H2 := Lib.hid (fun w => rcheck_any w a)
  have H3 := Lib.hid (fun w => compare_any w a b)
  have H4 := Lib.hid (fun w => rcompare_any w a b)
  have H5 := Lib.hid (fun w => less_any w a b)
  have H6 := Lib.hid (fun w => rless_any w a b)
  have H7 := Lib.hid (fun w => awake_any w)
  obtain ⟨a1, a2⟩ := a
  obtain ⟨b1, b2⟩ := b
  generalize kChk (a1, a2) = p at H1 H2
  generalize kCmp (a1, a2) (b1, b2) = q at H3 H4
  generalize kLess (a1, a2) (b1, b2) = r at H5 H6
  unfold kV at H1 H2 H3 H4 H5 H6 ⊢
  obtain ⟨w0, hw0⟩ : ∃ w0, (w.alloc (.cells #[.int .i64 a1, .int .u64 a2] 25)).alloc (.cells #[.int .i64 b1, .int .u64 b2] 25) = w0 := ⟨_, rfl⟩
  have f0 : Fr Non w w0 := by rw [← hw0]; exact ((Fr.refl _ _).alloc _).alloc _
  have bA : w0.heap[w.heap.size]? = some (.cells #[.int .i64 a1, .int .u64 a2] 25 (0, 0)) := by rw [← hw0]; exact alloc_at2 w _ _
  have bB : w0.heap[w.heap.size + 1]? = some (.cells #[.int .i64 b1, .int .u64 b2] 25 (0, 0)) := by rw [← hw0]; exact alloc_at2' w _ _
  obtain ⟨C, hC⟩ : ∃ C, w.heap.size = C := ⟨_, rfl⟩
  rw [hC] at bA bB
  have a0 : w0.cell? ⟨C, 0, none⟩ = some (.int .i64 a1) := by rw [cell_of_row w0 C 0 _ _ _ bA]; rfl
  have a1' : w0.cell? ⟨C, 1, none⟩ = some (.int .u64 a2) := by rw [cell_of_row w0 C 1 _ _ _ bA]; rfl
  have b0 : w0.cell? ⟨C + 1, 0, none⟩ = some (.int .i64 b1) := by rw [cell_of_row w0 (C + 1) 0 _ _ _ bB]; rfl
  have b1' : w0.cell? ⟨C + 1, 1, none⟩ = some (.int .u64 b2) := by rw [cell_of_row w0 (C + 1) 1 _ _ _ bB]; rfl
  have Q := Lib.hid (And.intro a0 (And.intro a1' (And.intro b0 b1')))
  have F0 := Lib.hid f0
  clear a0 a1' b0 b1' bA bB f0
  go_enter Tryd.func3, Tryd.ntmps3
  go_wp2_with fail
  (try rw [hw0])
  (try rw [hC])
  clear hw0
  have fd0 : Fr Non w0 w0.drew := (Fr.refl _ _).drew
  refine wp_draw [((fun y => Fr Non w0 y), [(.held, 0), (.held, 2), (.kept, 1), (.kept, 3), (.free, 4), (.free, 5), (.held, 6), (.held, 7), (.held, 9), (.held, 10), (.kept, 8), (.kept, 11), (.free, 12), (.free, 13), (.free, 14), (.held, 15), (.held, 16), (.held, 18), (.held, 19), (.kept, 17), (.kept, 20), (.free, 21), (.free, 22), (.free, 23), (.kept, 24), (.free, 25), (.free, 26)])] 27 (by kernel_rfl) (by kernel_rfl) (fun _ _ _ _ _ h => h) ⟨fd0, ?_⟩
  generalize w0.drew = wd0 at fd0 ⊢
  repeat (first
    | (refine' wpPlan_free (v := _) rfl (by rfl) ?_ ?_
       rotate_left
       · (intro w'; skip; go_simp; try rfl)
       simp only [List.getElem_toArray, List.getElem_cons_zero, List.getElem_cons_succ, Act.put, List.setIfInBounds_toArray, List.set_cons_zero, List.set_cons_succ])
    | (refine' wpPlan_held (v := _) rfl (by rfl) ?_ ?_
       rotate_left
       · (intro w' hS; skip; (have q0 := hS.cell Q.out.1 id; have q1 := hS.cell Q.out.2.1 id; have q2 := hS.cell Q.out.2.2.1 id; have q3 := hS.cell Q.out.2.2.2 id; clear hS); go_simp; try rfl)
       simp only [List.getElem_toArray, List.getElem_cons_zero, List.getElem_cons_succ, Act.put, List.setIfInBounds_toArray, List.set_cons_zero, List.set_cons_succ])
    | (refine' wpPlan_skip rfl (by rfl) ?_
       simp only [List.getElem_toArray, List.getElem_cons_zero, List.getElem_cons_succ, Act.put, List.setIfInBounds_toArray, List.set_cons_zero, List.set_cons_succ])
    | (refine' wpPlan_skipHeld rfl (by rfl) ?_
       simp only [List.getElem_toArray, List.getElem_cons_zero, List.getElem_cons_succ, Act.put, List.setIfInBounds_toArray, List.set_cons_zero, List.set_cons_succ]))
  refine' wpPlan_kept rfl ?_
  intro K hK
  go_simp
  refine (H1.out _).mono ?_
  rintro e w1 ⟨rfl, f1⟩
  go_simp
  have fd1 := fd0.trans f1
  refine hK _ _ ⟨fd1, ?_⟩
  clear hK K fd0 f1
  repeat (first
    | (refine' wpPlan_free (v := _) rfl (by rfl) ?_ ?_
       rotate_left
       · (intro w'; skip; go_simp; try rfl)
       simp only [List.getElem_toArray, List.getElem_cons_zero, List.getElem_cons_succ, Act.put, List.setIfInBounds_toArray, List.set_cons_zero, List.set_cons_succ])
    | (refine' wpPlan_held (v := _) rfl (by rfl) ?_ ?_
       rotate_left
       · (intro w' hS; skip; (have q0 := hS.cell Q.out.1 id; have q1 := hS.cell Q.out.2.1 id; have q2 := hS.cell Q.out.2.2.1 id; have q3 := hS.cell Q.out.2.2.2 id; clear hS); go_simp; try rfl)
       simp only [List.getElem_toArray, List.getElem_cons_zero, List.getElem_cons_succ, Act.put, List.setIfInBounds_toArray, List.set_cons_zero, List.set_cons_succ])
    | (refine' wpPlan_skip rfl (by rfl) ?_
       simp only [List.getElem_toArray, List.getElem_cons_zero, List.getElem_cons_succ, Act.put, List.setIfInBounds_toArray, List.set_cons_zero, List.set_cons_succ])
    | (refine' wpPlan_skipHeld rfl (by rfl) ?_
       simp only [List.getElem_toArray, List.getElem_cons_zero, List.getElem_cons_succ, Act.put, List.setIfInBounds_toArray, List.set_cons_zero, List.set_cons_succ]))
  refine' wpPlan_kept rfl ?_
  intro K hK
  go_simp
  refine (H2.out _).mono ?_
  rintro e w2 ⟨rfl, f2⟩
  go_simp
  have fd2 := fd1.trans f2
  refine hK _ _ ⟨fd2, ?_⟩
  clear hK K fd1 f2
  repeat (first
    | (refine' wpPlan_free (v := _) rfl (by rfl) ?_ ?_
       rotate_left
       · (intro w'; skip; go_simp; try rfl)
       simp only [List.getElem_toArray, List.getElem_cons_zero, List.getElem_cons_succ, Act.put, List.setIfInBounds_toArray, List.set_cons_zero, List.set_cons_succ])
    | (refine' wpPlan_held (v := _) rfl (by rfl) ?_ ?_
       rotate_left
       · (intro w' hS; skip; (have q0 := hS.cell Q.out.1 id; have q1 := hS.cell Q.out.2.1 id; have q2 := hS.cell Q.out.2.2.1 id; have q3 := hS.cell Q.out.2.2.2 id; clear hS); go_simp; try rfl)
       simp only [List.getElem_toArray, List.getElem_cons_zero, List.getElem_cons_succ, Act.put, List.setIfInBounds_toArray, List.set_cons_zero, List.set_cons_succ])
    | (refine' wpPlan_skip rfl (by rfl) ?_
       simp only [List.getElem_toArray, List.getElem_cons_zero, List.getElem_cons_succ, Act.put, List.setIfInBounds_toArray, List.set_cons_zero, List.set_cons_succ])
    | (refine' wpPlan_skipHeld rfl (by rfl) ?_
       simp only [List.getElem_toArray, List.getElem_cons_zero, List.getElem_cons_succ, Act.put, List.setIfInBounds_toArray, List.set_cons_zero, List.set_cons_succ]))
  refine' wpPlan_kept rfl ?_
  intro K hK
  go_simp
  refine (H3.out _).mono ?_
  rintro e w3 ⟨rfl, f3⟩
  go_simp
  have fd3 := fd2.trans f3.fr
  refine hK _ _ ⟨fd3, ?_⟩
  clear hK K fd2 f3
  repeat (first
    | (refine' wpPlan_free (v := _) rfl (by rfl) ?_ ?_
       rotate_left
       · (intro w'; skip; go_simp; try rfl)
       simp only [List.getElem_toArray, List.getElem_cons_zero, List.getElem_cons_succ, Act.put, List.setIfInBounds_toArray, List.set_cons_zero, List.set_cons_succ])
    | (refine' wpPlan_held (v := _) rfl (by rfl) ?_ ?_
       rotate_left
       · (intro w' hS; skip; (have q0 := hS.cell Q.out.1 id; have q1 := hS.cell Q.out.2.1 id; have q2 := hS.cell Q.out.2.2.1 id; have q3 := hS.cell Q.out.2.2.2 id; clear hS); go_simp; try rfl)
       simp only [List.getElem_toArray, List.getElem_cons_zero, List.getElem_cons_succ, Act.put, List.setIfInBounds_toArray, List.set_cons_zero, List.set_cons_succ])
    | (refine' wpPlan_skip rfl (by rfl) ?_
       simp only [List.getElem_toArray, List.getElem_cons_zero, List.getElem_cons_succ, Act.put, List.setIfInBounds_toArray, List.set_cons_zero, List.set_cons_succ])
    | (refine' wpPlan_skipHeld rfl (by rfl) ?_
       simp only [List.getElem_toArray, List.getElem_cons_zero, List.getElem_cons_succ, Act.put, List.setIfInBounds_toArray, List.set_cons_zero, List.set_cons_succ]))
  refine' wpPlan_kept rfl ?_
  intro K hK
  go_simp
  refine (H4.out _).mono ?_
  rintro e w4 ⟨rfl, f4⟩
  go_simp
  have fd4 := fd3.trans f4
  refine hK _ _ ⟨fd4, ?_⟩
  clear hK K fd3 f4
  repeat (first
    | (refine' wpPlan_free (v := _) rfl (by rfl) ?_ ?_
       rotate_left
       · (intro w'; skip; go_simp; try rfl)
       simp only [List.getElem_toArray, List.getElem_cons_zero, List.getElem_cons_succ, Act.put, List.setIfInBounds_toArray, List.set_cons_zero, List.set_cons_succ])
    | (refine' wpPlan_held (v := _) rfl (by rfl) ?_ ?_
       rotate_left
       · (intro w' hS; skip; (have q0 := hS.cell Q.out.1 id; have q1 := hS.cell Q.out.2.1 id; have q2 := hS.cell Q.out.2.2.1 id; have q3 := hS.cell Q.out.2.2.2 id; clear hS); go_simp; try rfl)
       simp only [List.getElem_toArray, List.getElem_cons_zero, List.getElem_cons_succ, Act.put, List.setIfInBounds_toArray, List.set_cons_zero, List.set_cons_succ])
    | (refine' wpPlan_skip rfl (by rfl) ?_
       simp only [List.getElem_toArray, List.getElem_cons_zero, List.getElem_cons_succ, Act.put, List.setIfInBounds_toArray, List.set_cons_zero, List.set_cons_succ])
    | (refine' wpPlan_skipHeld rfl (by rfl) ?_
       simp only [List.getElem_toArray, List.getElem_cons_zero, List.getElem_cons_succ, Act.put, List.setIfInBounds_toArray, List.set_cons_zero, List.set_cons_succ]))
  refine' wpPlan_kept rfl ?_
  intro K hK
  go_simp
  refine (H5.out _).mono ?_
  rintro e w5 ⟨rfl, f5⟩
  go_simp
  have fd5 := fd4.trans f5.fr
  refine hK _ _ ⟨fd5, ?_⟩
  clear hK K fd4 f5
  repeat (first
    | (refine' wpPlan_free (v := _) rfl (by rfl) ?_ ?_
       rotate_left
       · (intro w'; skip; go_simp; try rfl)
       simp only [List.getElem_toArray, List.getElem_cons_zero, List.getElem_cons_succ, Act.put, List.setIfInBounds_toArray, List.set_cons_zero, List.set_cons_succ])
    | (refine' wpPlan_held (v := _) rfl (by rfl) ?_ ?_
       rotate_left
       · (intro w' hS; skip; (have q0 := hS.cell Q.out.1 id; have q1 := hS.cell Q.out.2.1 id; have q2 := hS.cell Q.out.2.2.1 id; have q3 := hS.cell Q.out.2.2.2 id; clear hS); go_simp; try rfl)
       simp only [List.getElem_toArray, List.getElem_cons_zero, List.getElem_cons_succ, Act.put, List.setIfInBounds_toArray, List.set_cons_zero, List.set_cons_succ])
    | (refine' wpPlan_skip rfl (by rfl) ?_
       simp only [List.getElem_toArray, List.getElem_cons_zero, List.getElem_cons_succ, Act.put, List.setIfInBounds_toArray, List.set_cons_zero, List.set_cons_succ])
    | (refine' wpPlan_skipHeld rfl (by rfl) ?_
       simp only [List.getElem_toArray, List.getElem_cons_zero, List.getElem_cons_succ, Act.put, List.setIfInBounds_toArray, List.set_cons_zero, List.set_cons_succ]))
  refine' wpPlan_kept rfl ?_
  intro K hK
  go_simp
  refine (H6.out _).mono ?_
  rintro e w6 ⟨rfl, f6⟩
  go_simp
  have fd6 := fd5.trans f6
  refine hK _ _ ⟨fd6, ?_⟩
  clear hK K fd5 f6
  repeat (first
    | (refine' wpPlan_free (v := _) rfl (by rfl) ?_ ?_
       rotate_left
       · (intro w'; skip; go_simp; try rfl)
       simp only [List.getElem_toArray, List.getElem_cons_zero, List.getElem_cons_succ, Act.put, List.setIfInBounds_toArray, List.set_cons_zero, List.set_cons_succ])
    | (refine' wpPlan_held (v := _) rfl (by rfl) ?_ ?_
       rotate_left
       · (intro w' hS; skip; (have q0 := hS.cell Q.out.1 id; have q1 := hS.cell Q.out.2.1 id; have q2 := hS.cell Q.out.2.2.1 id; have q3 := hS.cell Q.out.2.2.2 id; clear hS); go_simp; try rfl)
       simp only [List.getElem_toArray, List.getElem_cons_zero, List.getElem_cons_succ, Act.put, List.setIfInBounds_toArray, List.set_cons_zero, List.set_cons_succ])
    | (refine' wpPlan_skip rfl (by rfl) ?_
       simp only [List.getElem_toArray, List.getElem_cons_zero, List.getElem_cons_succ, Act.put, List.setIfInBounds_toArray, List.set_cons_zero, List.set_cons_succ])
    | (refine' wpPlan_skipHeld rfl (by rfl) ?_
       simp only [List.getElem_toArray, List.getElem_cons_zero, List.getElem_cons_succ, Act.put, List.setIfInBounds_toArray, List.set_cons_zero, List.set_cons_succ]))
  refine' wpPlan_kept rfl ?_
  intro K hK
  go_simp
  refine (H7.out _).mono ?_
  rintro e w7 ⟨rfl, f7⟩
  go_simp
  have fd7 := fd6.trans f7
  refine hK _ _ ⟨fd7, ?_⟩
  clear hK K fd6 f7
  repeat (first
    | (refine' wpPlan_free (v := _) rfl (by rfl) ?_ ?_
       rotate_left
       · (intro w'; skip; go_simp; try rfl)
       simp only [List.getElem_toArray, List.getElem_cons_zero, List.getElem_cons_succ, Act.put, List.setIfInBounds_toArray, List.set_cons_zero, List.set_cons_succ])
    | (refine' wpPlan_held (v := _) rfl (by rfl) ?_ ?_
       rotate_left
       · (intro w' hS; skip; (have q0 := hS.cell Q.out.1 id; have q1 := hS.cell Q.out.2.1 id; have q2 := hS.cell Q.out.2.2.1 id; have q3 := hS.cell Q.out.2.2.2 id; clear hS); go_simp; try rfl)
       simp only [List.getElem_toArray, List.getElem_cons_zero, List.getElem_cons_succ, Act.put, List.setIfInBounds_toArray, List.set_cons_zero, List.set_cons_succ])
    | (refine' wpPlan_skip rfl (by rfl) ?_
       simp only [List.getElem_toArray, List.getElem_cons_zero, List.getElem_cons_succ, Act.put, List.setIfInBounds_toArray, List.set_cons_zero, List.set_cons_succ])
    | (refine' wpPlan_skipHeld rfl (by rfl) ?_
       simp only [List.getElem_toArray, List.getElem_cons_zero, List.getElem_cons_succ, Act.put, List.setIfInBounds_toArray, List.set_cons_zero, List.set_cons_succ]))
  refine wpPlan_end ?_
  simp only [wpSegs, List.drop_succ_cons, List.drop_zero]
  go_wp2_with fail
  go_ret
  exact ⟨by trivial, F0.out.trans fd7⟩

set_option maxRecDepth 100000 in
set_option maxHeartbeats 4000000 in
theorem steps_law (w : World) (k a b : MK) (hk : kWf k) : Calls Tryd.prog 8 #[kV k, kV a, kV b] w (KEnd w) := by
  have H1 := Lib.hid (fun w => next_any w k hk)
  have H2 := Lib.hid (fun w => rnext_any w k hk)
  have H3 := Lib.hid (fun w => prev_any w k hk)
  have H4 := Lib.hid (fun w => rprev_any w k hk)
  have H5 := Lib.hid (fun w => in_any w a k b)
  have H6 := Lib.hid (fun w => rin_any w a k b)
  have H7 := Lib.hid (fun w => awake_any w)
  have E1 := Lib.hid (fun w => eq_key (kNext k).1 (kNext k).1 w)
  have E2 := Lib.hid (fun w => eq_key (kPrev k).1 (kPrev k).1 w)
  obtain ⟨k1, k2⟩ := k
  obtain ⟨a1, a2⟩ := a
  obtain ⟨b1, b2⟩ := b
  generalize kNext (k1, k2) = x at H1 H2 E1
  generalize kPrev (k1, k2) = y at H3 H4 E2
  generalize kIn (a1, a2) (k1, k2) (b1, b2) = r at H5 H6
  obtain ⟨⟨x1, x2⟩, xb⟩ := x
  obtain ⟨⟨y1, y2⟩, yb⟩ := y
  unfold kV at H1 H2 H3 H4 H5 H6 E1 E2 ⊢
  simp only [decide_true] at E1 E2
  have bK := alloc_at2 w (.cells #[.int .i64 k1, .int .u64 k2] 25) (.cells #[.int .i64 a1, .int .u64 a2] 25)
  have bA := alloc_at2' w (.cells #[.int .i64 k1, .int .u64 k2] 25) (.cells #[.int .i64 a1, .int .u64 a2] 25)
  have bB := alloc_at ((w.alloc (.cells #[.int .i64 k1, .int .u64 k2] 25)).alloc (.cells #[.int .i64 a1, .int .u64 a2] 25)) (.cells #[.int .i64 b1, .int .u64 b2] 25)
  have f2 : Fr Non ((w.alloc (.cells #[.int .i64 k1, .int .u64 k2] 25)).alloc (.cells #[.int .i64 a1, .int .u64 a2] 25)) (((w.alloc (.cells #[.int .i64 k1, .int .u64 k2] 25)).alloc (.cells #[.int .i64 a1, .int .u64 a2] 25)).alloc (.cells #[.int .i64 b1, .int .u64 b2] 25)) := (Fr.refl _ _).alloc _
  have f0 : Fr Non w (((w.alloc (.cells #[.int .i64 k1, .int .u64 k2] 25)).alloc (.cells #[.int .i64 a1, .int .u64 a2] 25)).alloc (.cells #[.int .i64 b1, .int .u64 b2] 25)) := (((Fr.refl _ _).alloc _).alloc _).trans f2
  replace bK := f2.heap bK id
  replace bA := f2.heap bA id
  simp only [World.size_alloc] at bB
  clear f2
  go_enter Tryd.func8, Tryd.ntmps8
  go_wp2_with fail
  refine (H1.out _).mono ?_
  rintro e v1 ⟨rfl, g1⟩
  have bK1 := g1.heap bK id
  have bA1 := g1.heap bA id
  have bB1 := g1.heap bB id
  have F1 := Lib.hid (f0.trans g1)
  clear bK bA bB f0 g1
  have k0 : v1.cell? ⟨w.heap.size, 0, none⟩ = some (.int .i64 k1) := by rw [(box_facts bK1).1]; rfl
  have k1q : v1.cell? ⟨w.heap.size, 1, none⟩ = some (.int .u64 k2) := by rw [(box_facts bK1).1]; rfl
  have lK : w.heap.size < v1.heap.size := lt_of_block bK1
  have nK : w.heap.size ≠ v1.heap.size := by omega
  go_wp2_with fail
  refine (H2.out _).mono ?_
  rintro e v2 ⟨rfl, g2⟩
  have l2 : Fr Non v1 v2 := ((Fr.refl _ _).alloc _).trans g2
  have bN12 := g2.heap (alloc_at v1 (.cells #[.int .i64 x1, .int .u64 x2] 25)) id
  have F2 := Lib.hid (F1.out.trans l2)
  have bK2 := l2.heap bK1 id
  have bA2 := l2.heap bA1 id
  have bB2 := l2.heap bB1 id
  generalize hG1 : v1.heap.size = G1 at bN12 ⊢
  clear hG1 l2 g2 k0 k1q lK nK bK1 bA1 bB1
  have k0 : v2.cell? ⟨w.heap.size, 0, none⟩ = some (.int .i64 k1) := by rw [(box_facts bK2).1]; rfl
  have k1q : v2.cell? ⟨w.heap.size, 1, none⟩ = some (.int .u64 k2) := by rw [(box_facts bK2).1]; rfl
  have lK : w.heap.size < v2.heap.size := lt_of_block bK2
  have nK : w.heap.size ≠ v2.heap.size := by omega
  go_wp2_with fail
  refine (H3.out _).mono ?_
  rintro e v3 ⟨rfl, g3⟩
  have l3 : Fr Non v2 v3 := ((Fr.refl _ _).alloc _).trans g3
  have bN23 := g3.heap (alloc_at v2 (.cells #[.int .i64 x1, .int .u64 x2] 25)) id
  have F3 := Lib.hid (F2.out.trans l3)
  have bK3 := l3.heap bK2 id
  have bA3 := l3.heap bA2 id
  have bB3 := l3.heap bB2 id
  have bN13 := l3.heap bN12 id
  generalize hG2 : v2.heap.size = G2 at bN23 ⊢
  clear hG2 l3 g3 k0 k1q lK nK bK2 bA2 bB2 bN12
  have k0 : v3.cell? ⟨w.heap.size, 0, none⟩ = some (.int .i64 k1) := by rw [(box_facts bK3).1]; rfl
  have k1q : v3.cell? ⟨w.heap.size, 1, none⟩ = some (.int .u64 k2) := by rw [(box_facts bK3).1]; rfl
  have lK : w.heap.size < v3.heap.size := lt_of_block bK3
  have nK : w.heap.size ≠ v3.heap.size := by omega
  go_wp2_with fail
  refine (H4.out _).mono ?_
  rintro e v4 ⟨rfl, g4⟩
  have l4 : Fr Non v3 v4 := ((Fr.refl _ _).alloc _).trans g4
  have bN34 := g4.heap (alloc_at v3 (.cells #[.int .i64 y1, .int .u64 y2] 25)) id
  have F4 := Lib.hid (F3.out.trans l4)
  have bK4 := l4.heap bK3 id
  have bA4 := l4.heap bA3 id
  have bB4 := l4.heap bB3 id
  have bN14 := l4.heap bN13 id
  have bN24 := l4.heap bN23 id
  generalize hG3 : v3.heap.size = G3 at bN34 ⊢
  clear hG3 l4 g4 k0 k1q lK nK bK3 bA3 bB3 bN13 bN23
  have k0 : v4.cell? ⟨w.heap.size, 0, none⟩ = some (.int .i64 k1) := by rw [(box_facts bK4).1]; rfl
  have k1q : v4.cell? ⟨w.heap.size, 1, none⟩ = some (.int .u64 k2) := by rw [(box_facts bK4).1]; rfl
  have lK : w.heap.size < v4.heap.size := lt_of_block bK4
  have nK : w.heap.size ≠ v4.heap.size := by omega
  go_wp2_with fail
  have l5 : Fr Non v4 (v4.alloc (.cells #[.int .i64 y1, .int .u64 y2] 25)) := (Fr.refl _ _).alloc _
  have bN45 := alloc_at v4 (.cells #[.int .i64 y1, .int .u64 y2] 25)
  have bK5 := l5.heap bK4 id
  have bA5 := l5.heap bA4 id
  have bB5 := l5.heap bB4 id
  have bN15 := l5.heap bN14 id
  have bN25 := l5.heap bN24 id
  have bN35 := l5.heap bN34 id
  have F5 := Lib.hid (F4.out.trans l5)
  generalize hG4 : v4.heap.size = G4 at bN45 ⊢
  generalize v4.alloc (.cells #[.int .i64 y1, .int .u64 y2] 25) = v5 at *
  clear hG4 l5 k0 k1q lK nK F4 F3 F2 F1 bK4 bA4 bB4 bN14 bN24 bN34
  have s0a : v5.cell? ⟨w.heap.size, 0, none⟩ = some (.int .i64 k1) := by rw [(box_facts bK5).1]; rfl
  have s0b : v5.cell? ⟨w.heap.size, 1, none⟩ = some (.int .u64 k2) := by rw [(box_facts bK5).1]; rfl
  have s1a : v5.cell? ⟨w.heap.size + 1, 0, none⟩ = some (.int .i64 a1) := by rw [(box_facts bA5).1]; rfl
  have s1b : v5.cell? ⟨w.heap.size + 1, 1, none⟩ = some (.int .u64 a2) := by rw [(box_facts bA5).1]; rfl
  have s2a : v5.cell? ⟨w.heap.size + 1 + 1, 0, none⟩ = some (.int .i64 b1) := by rw [(box_facts bB5).1]; rfl
  have s2b : v5.cell? ⟨w.heap.size + 1 + 1, 1, none⟩ = some (.int .u64 b2) := by rw [(box_facts bB5).1]; rfl
  have s3a : v5.cell? ⟨G1, 0, none⟩ = some (.int .i64 x1) := by rw [(box_facts bN15).1]; rfl
  have s3b : v5.cell? ⟨G1, 1, none⟩ = some (.int .u64 x2) := by rw [(box_facts bN15).1]; rfl
  have s4a : v5.cell? ⟨G2, 0, none⟩ = some (.int .i64 x1) := by rw [(box_facts bN25).1]; rfl
  have s4b : v5.cell? ⟨G2, 1, none⟩ = some (.int .u64 x2) := by rw [(box_facts bN25).1]; rfl
  have s5a : v5.cell? ⟨G3, 0, none⟩ = some (.int .i64 y1) := by rw [(box_facts bN35).1]; rfl
  have s5b : v5.cell? ⟨G3, 1, none⟩ = some (.int .u64 y2) := by rw [(box_facts bN35).1]; rfl
  have s6a : v5.cell? ⟨G4, 0, none⟩ = some (.int .i64 y1) := by rw [(box_facts bN45).1]; rfl
  have s6b : v5.cell? ⟨G4, 1, none⟩ = some (.int .u64 y2) := by rw [(box_facts bN45).1]; rfl
  have Q := Lib.hid (And.intro s0a (And.intro s0b (And.intro s1a (And.intro s1b (And.intro s2a (And.intro s2b (And.intro s3a (And.intro s3b (And.intro s4a (And.intro s4b (And.intro s5a (And.intro s5b (And.intro s6a s6b)))))))))))))
  clear s0a s0b s1a s1b s2a s2b s3a s3b s4a s4b s5a s5b s6a s6b bK5 bA5 bB5 bN15 bN25 bN35 bN45
  have fd0 : Fr Non v5 v5.drew := (Fr.refl _ _).drew
  refine wp_draw [((fun y => Fr Non v5 y), [(.held, 0), (.held, 1), (.free, 2), (.free, 3), (.free, 4), (.free, 5), (.free, 6), (.free, 7), (.free, 8), (.held, 9), (.held, 10), (.free, 11), (.free, 12), (.free, 13), (.free, 14), (.free, 15), (.free, 16), (.free, 17), (.free, 18), (.held, 19), (.held, 20), (.held, 21), (.held, 23), (.held, 24), (.held, 25), (.kept, 22), (.kept, 26), (.free, 27), (.free, 28), (.free, 29), (.kept, 30), (.free, 31), (.free, 32)])] 33 (by kernel_rfl) (by kernel_rfl) (fun _ _ _ _ _ h => h) ⟨fd0, ?_⟩
  generalize v5.drew = wd0 at fd0 ⊢
  repeat (first
    | (refine' wpPlan_free (v := _) rfl (by rfl) ?_ ?_
       rotate_left
       · (intro w'; (have e1 := E1.out; have e2 := E2.out); go_simp; try rfl)
       simp only [List.getElem_toArray, List.getElem_cons_zero, List.getElem_cons_succ, Act.put, List.setIfInBounds_toArray, List.set_cons_zero, List.set_cons_succ])
    | (refine' wpPlan_held (v := _) rfl (by rfl) ?_ ?_
       rotate_left
       · (intro w' hS; (have e1 := E1.out; have e2 := E2.out); (have q0 := hS.cell Q.out.1 id; have q1 := hS.cell Q.out.2.1 id; have q2 := hS.cell Q.out.2.2.1 id; have q3 := hS.cell Q.out.2.2.2.1 id; have q4 := hS.cell Q.out.2.2.2.2.1 id; have q5 := hS.cell Q.out.2.2.2.2.2.1 id; have q6 := hS.cell Q.out.2.2.2.2.2.2.1 id; have q7 := hS.cell Q.out.2.2.2.2.2.2.2.1 id; have q8 := hS.cell Q.out.2.2.2.2.2.2.2.2.1 id; have q9 := hS.cell Q.out.2.2.2.2.2.2.2.2.2.1 id; have q10 := hS.cell Q.out.2.2.2.2.2.2.2.2.2.2.1 id; have q11 := hS.cell Q.out.2.2.2.2.2.2.2.2.2.2.2.1 id; have q12 := hS.cell Q.out.2.2.2.2.2.2.2.2.2.2.2.2.1 id; have q13 := hS.cell Q.out.2.2.2.2.2.2.2.2.2.2.2.2.2 id; clear hS); go_simp; try rfl)
       simp only [List.getElem_toArray, List.getElem_cons_zero, List.getElem_cons_succ, Act.put, List.setIfInBounds_toArray, List.set_cons_zero, List.set_cons_succ])
    | (refine' wpPlan_skip rfl (by rfl) ?_
       simp only [List.getElem_toArray, List.getElem_cons_zero, List.getElem_cons_succ, Act.put, List.setIfInBounds_toArray, List.set_cons_zero, List.set_cons_succ])
    | (refine' wpPlan_skipHeld rfl (by rfl) ?_
       simp only [List.getElem_toArray, List.getElem_cons_zero, List.getElem_cons_succ, Act.put, List.setIfInBounds_toArray, List.set_cons_zero, List.set_cons_succ]))
  refine' wpPlan_kept rfl ?_
  intro K hK
  go_simp
  refine (H5.out _).mono ?_
  rintro e w1 ⟨rfl, f1⟩
  go_simp
  have fd1 := fd0.trans f1
  refine hK _ _ ⟨fd1, ?_⟩
  clear hK K fd0 f1
  repeat (first
    | (refine' wpPlan_free (v := _) rfl (by rfl) ?_ ?_
       rotate_left
       · (intro w'; (have e1 := E1.out; have e2 := E2.out); go_simp; try rfl)
       simp only [List.getElem_toArray, List.getElem_cons_zero, List.getElem_cons_succ, Act.put, List.setIfInBounds_toArray, List.set_cons_zero, List.set_cons_succ])
    | (refine' wpPlan_held (v := _) rfl (by rfl) ?_ ?_
       rotate_left
       · (intro w' hS; (have e1 := E1.out; have e2 := E2.out); (have q0 := hS.cell Q.out.1 id; have q1 := hS.cell Q.out.2.1 id; have q2 := hS.cell Q.out.2.2.1 id; have q3 := hS.cell Q.out.2.2.2.1 id; have q4 := hS.cell Q.out.2.2.2.2.1 id; have q5 := hS.cell Q.out.2.2.2.2.2.1 id; have q6 := hS.cell Q.out.2.2.2.2.2.2.1 id; have q7 := hS.cell Q.out.2.2.2.2.2.2.2.1 id; have q8 := hS.cell Q.out.2.2.2.2.2.2.2.2.1 id; have q9 := hS.cell Q.out.2.2.2.2.2.2.2.2.2.1 id; have q10 := hS.cell Q.out.2.2.2.2.2.2.2.2.2.2.1 id; have q11 := hS.cell Q.out.2.2.2.2.2.2.2.2.2.2.2.1 id; have q12 := hS.cell Q.out.2.2.2.2.2.2.2.2.2.2.2.2.1 id; have q13 := hS.cell Q.out.2.2.2.2.2.2.2.2.2.2.2.2.2 id; clear hS); go_simp; try rfl)
       simp only [List.getElem_toArray, List.getElem_cons_zero, List.getElem_cons_succ, Act.put, List.setIfInBounds_toArray, List.set_cons_zero, List.set_cons_succ])
    | (refine' wpPlan_skip rfl (by rfl) ?_
       simp only [List.getElem_toArray, List.getElem_cons_zero, List.getElem_cons_succ, Act.put, List.setIfInBounds_toArray, List.set_cons_zero, List.set_cons_succ])
    | (refine' wpPlan_skipHeld rfl (by rfl) ?_
       simp only [List.getElem_toArray, List.getElem_cons_zero, List.getElem_cons_succ, Act.put, List.setIfInBounds_toArray, List.set_cons_zero, List.set_cons_succ]))
  refine' wpPlan_kept rfl ?_
  intro K hK
  go_simp
  refine (H6.out _).mono ?_
  rintro e w2 ⟨rfl, f2⟩
  go_simp
  have fd2 := fd1.trans f2
  refine hK _ _ ⟨fd2, ?_⟩
  clear hK K fd1 f2
  repeat (first
    | (refine' wpPlan_free (v := _) rfl (by rfl) ?_ ?_
       rotate_left
       · (intro w'; (have e1 := E1.out; have e2 := E2.out); go_simp; try rfl)
       simp only [List.getElem_toArray, List.getElem_cons_zero, List.getElem_cons_succ, Act.put, List.setIfInBounds_toArray, List.set_cons_zero, List.set_cons_succ])
    | (refine' wpPlan_held (v := _) rfl (by rfl) ?_ ?_
       rotate_left
       · (intro w' hS; (have e1 := E1.out; have e2 := E2.out); (have q0 := hS.cell Q.out.1 id; have q1 := hS.cell Q.out.2.1 id; have q2 := hS.cell Q.out.2.2.1 id; have q3 := hS.cell Q.out.2.2.2.1 id; have q4 := hS.cell Q.out.2.2.2.2.1 id; have q5 := hS.cell Q.out.2.2.2.2.2.1 id; have q6 := hS.cell Q.out.2.2.2.2.2.2.1 id; have q7 := hS.cell Q.out.2.2.2.2.2.2.2.1 id; have q8 := hS.cell Q.out.2.2.2.2.2.2.2.2.1 id; have q9 := hS.cell Q.out.2.2.2.2.2.2.2.2.2.1 id; have q10 := hS.cell Q.out.2.2.2.2.2.2.2.2.2.2.1 id; have q11 := hS.cell Q.out.2.2.2.2.2.2.2.2.2.2.2.1 id; have q12 := hS.cell Q.out.2.2.2.2.2.2.2.2.2.2.2.2.1 id; have q13 := hS.cell Q.out.2.2.2.2.2.2.2.2.2.2.2.2.2 id; clear hS); go_simp; try rfl)
       simp only [List.getElem_toArray, List.getElem_cons_zero, List.getElem_cons_succ, Act.put, List.setIfInBounds_toArray, List.set_cons_zero, List.set_cons_succ])
    | (refine' wpPlan_skip rfl (by rfl) ?_
       simp only [List.getElem_toArray, List.getElem_cons_zero, List.getElem_cons_succ, Act.put, List.setIfInBounds_toArray, List.set_cons_zero, List.set_cons_succ])
    | (refine' wpPlan_skipHeld rfl (by rfl) ?_
       simp only [List.getElem_toArray, List.getElem_cons_zero, List.getElem_cons_succ, Act.put, List.setIfInBounds_toArray, List.set_cons_zero, List.set_cons_succ]))
  refine' wpPlan_kept rfl ?_
  intro K hK
  go_simp
  refine (H7.out _).mono ?_
  rintro e w3 ⟨rfl, f3⟩
  go_simp
  have fd3 := fd2.trans f3
  refine hK _ _ ⟨fd3, ?_⟩
  clear hK K fd2 f3
  repeat (first
    | (refine' wpPlan_free (v := _) rfl (by rfl) ?_ ?_
       rotate_left
       · (intro w'; (have e1 := E1.out; have e2 := E2.out); go_simp; try rfl)
       simp only [List.getElem_toArray, List.getElem_cons_zero, List.getElem_cons_succ, Act.put, List.setIfInBounds_toArray, List.set_cons_zero, List.set_cons_succ])
    | (refine' wpPlan_held (v := _) rfl (by rfl) ?_ ?_
       rotate_left
       · (intro w' hS; (have e1 := E1.out; have e2 := E2.out); (have q0 := hS.cell Q.out.1 id; have q1 := hS.cell Q.out.2.1 id; have q2 := hS.cell Q.out.2.2.1 id; have q3 := hS.cell Q.out.2.2.2.1 id; have q4 := hS.cell Q.out.2.2.2.2.1 id; have q5 := hS.cell Q.out.2.2.2.2.2.1 id; have q6 := hS.cell Q.out.2.2.2.2.2.2.1 id; have q7 := hS.cell Q.out.2.2.2.2.2.2.2.1 id; have q8 := hS.cell Q.out.2.2.2.2.2.2.2.2.1 id; have q9 := hS.cell Q.out.2.2.2.2.2.2.2.2.2.1 id; have q10 := hS.cell Q.out.2.2.2.2.2.2.2.2.2.2.1 id; have q11 := hS.cell Q.out.2.2.2.2.2.2.2.2.2.2.2.1 id; have q12 := hS.cell Q.out.2.2.2.2.2.2.2.2.2.2.2.2.1 id; have q13 := hS.cell Q.out.2.2.2.2.2.2.2.2.2.2.2.2.2 id; clear hS); go_simp; try rfl)
       simp only [List.getElem_toArray, List.getElem_cons_zero, List.getElem_cons_succ, Act.put, List.setIfInBounds_toArray, List.set_cons_zero, List.set_cons_succ])
    | (refine' wpPlan_skip rfl (by rfl) ?_
       simp only [List.getElem_toArray, List.getElem_cons_zero, List.getElem_cons_succ, Act.put, List.setIfInBounds_toArray, List.set_cons_zero, List.set_cons_succ])
    | (refine' wpPlan_skipHeld rfl (by rfl) ?_
       simp only [List.getElem_toArray, List.getElem_cons_zero, List.getElem_cons_succ, Act.put, List.setIfInBounds_toArray, List.set_cons_zero, List.set_cons_succ]))
  refine wpPlan_end ?_
  simp only [wpSegs, List.drop_succ_cons, List.drop_zero]
  go_wp2_with fail
  go_ret
  exact ⟨by trivial, F5.out.trans fd3⟩
end Go.Proofs.YthjfnpojelfekaaDoor
