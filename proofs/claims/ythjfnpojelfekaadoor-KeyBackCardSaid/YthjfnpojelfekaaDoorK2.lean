/-
  Keys: Compare, Less, on both sides; the closure of Sorted.
-/
import Derived.Test.YthjfnpojelfekaaDoorK1
import Derived.Sort.Grow
import Derived.Deep.Draws
namespace Go.Proofs.YthjfnpojelfekaaDoor
open Go.RowKit

/-- Only blocks of its own are laid; it may draw. -/
def Grown (w w' : World) : Prop := ∃ q os, w' = Go.Sort.grow (w.drewN q) os
theorem Grown.refl (w : World) : Grown w w := ⟨0, #[], by simp [World.drewN]⟩
theorem Grown.alloc {w w' : World} (h : Grown w w') (o : Obj) : Grown w (w'.alloc o) := by
  obtain ⟨q, os, rfl⟩ := h
  exact ⟨q, os ++ #[o], by rw [Go.Sort.alloc_eq_grow, Go.Sort.grow_grow]⟩
theorem Grown.drew {w w' : World} (h : Grown w w') : Grown w w'.drew := by
  obtain ⟨q, os, rfl⟩ := h
  exact ⟨q + 1, os, rfl⟩
theorem Grown.trans {a b c : World} (h : Grown a b) (h' : Grown b c) : Grown a c := by
  obtain ⟨q, os, rfl⟩ := h
  obtain ⟨p, ps, rfl⟩ := h'
  refine ⟨q + p, os ++ ps, ?_⟩
  rw [← Go.Sort.grow_grow]
  unfold Go.Sort.grow World.drewN
  simp [Nat.add_assoc]
theorem Grown.fr {w w' : World} (h : Grown w w') : Fr Non w w' := by
  obtain ⟨q, os, rfl⟩ := h
  refine ⟨rfl, rfl, rfl, by simp [World.drewN], fun k hk _ => ?_⟩
  unfold Go.Sort.grow World.drewN
  simp [Array.getElem?_append, hk]
theorem eq_key (x y : MK) (w : World) : (binOp .eql 25 (kV x) (kV y)).run Tryd.prog w = .ok (.bool (decide (x = y))) w := by
  have u22 := Tryd.underlying22
  have u23 := Tryd.underlying23
  have a3 := Tryd.isAgg22
  have z3 := Tryd.sizeOf22
  have a4 := Tryd.isAgg23
  have z4 := Tryd.sizeOf23
  have hS : Tryd.prog.underlying 25 = some (.struct (Tryd.prog.fieldsOf 25)) := by kernel_rfl
  have hp : Tryd.prog.stoodInHeld 25 = false := by kernel_rfl
  obtain ⟨x1, x2⟩ := x
  obtain ⟨y1, y2⟩ := y
  simp only [kV]
  rw [run_eql_struct, show (10000 : Nat) = 9999 + 1 from rfl, run_equalIn_agg w 9999 25 _ _ hS hp]
  simp only [Program.fieldsOf, Tryd.underlying25]
  go_simp
  by_cases h1 : x1 = y1 <;> by_cases h2 : x2 = y2 <;> simp [h1, h2]
theorem neq_key (x y : MK) (w : World) : (binOp .neq 25 (kV x) (kV y)).run Tryd.prog w = .ok (.bool (!decide (x = y))) w := by
  have u22 := Tryd.underlying22
  have u23 := Tryd.underlying23
  have a3 := Tryd.isAgg22
  have z3 := Tryd.sizeOf22
  have a4 := Tryd.isAgg23
  have z4 := Tryd.sizeOf23
  have hS : Tryd.prog.underlying 25 = some (.struct (Tryd.prog.fieldsOf 25)) := by kernel_rfl
  have hp : Tryd.prog.stoodInHeld 25 = false := by kernel_rfl
  obtain ⟨x1, x2⟩ := x
  obtain ⟨y1, y2⟩ := y
  simp only [kV]
  rw [run_neq_struct, show (10000 : Nat) = 9999 + 1 from rfl, run_equalIn_agg w 9999 25 _ _ hS hp]
  simp only [Program.fieldsOf, Tryd.underlying25]
  go_simp
  by_cases h1 : x1 = y1 <;> by_cases h2 : x2 = y2 <;> simp [h1, h2]

theorem or_at {w : World} {b : Nat} {x y t : Int} (h : w.heap[b]? = some (.cells #[.int .i64 x, .int .i64 y] 3 (0, 0))) (ht : (if x ≠ 0 then x else y) = t) : Calls Tryd.prog 39 #[.slice (some ⟨b, 0, none⟩) 2 2] w fun e w' => e = .returned (.int .i64 t) ∧ w' = w := by
  subst ht
  exact or_any h

set_option maxRecDepth 100000 in
set_option maxHeartbeats 1000000 in
theorem compare_any (w : World) (a b : MK) : Calls Tryd.prog 13 #[kV a, kV b] w fun e w' => e = .returned (.int .i64 (kCmp a b)) ∧ Grown w w' := by
  obtain ⟨a1, a2⟩ := a
  obtain ⟨b1, b2⟩ := b
  unfold kV
  obtain ⟨w0, hw0⟩ : ∃ w0, (w.alloc (.cells #[.int .i64 a1, .int .u64 a2] 25)).alloc (.cells #[.int .i64 b1, .int .u64 b2] 25) = w0 := ⟨_, rfl⟩
  have f0 : Grown w w0 := by rw [← hw0]; exact ((Grown.refl _).alloc _).alloc _
  have bA : w0.heap[w.heap.size]? = some (.cells #[.int .i64 a1, .int .u64 a2] 25 (0, 0)) := by rw [← hw0]; exact alloc_at2 w _ _
  have bB : w0.heap[w.heap.size + 1]? = some (.cells #[.int .i64 b1, .int .u64 b2] 25 (0, 0)) := by rw [← hw0]; exact alloc_at2' w _ _
  obtain ⟨C, hC⟩ : ∃ C, w.heap.size = C := ⟨_, rfl⟩
  rw [hC] at bA bB
  have a0 : w0.cell? ⟨C, 0, none⟩ = some (.int .i64 a1) := by rw [cell_of_row w0 C 0 _ _ _ bA]; rfl
  have a1' : w0.cell? ⟨C, 1, none⟩ = some (.int .u64 a2) := by rw [cell_of_row w0 C 1 _ _ _ bA]; rfl
  have b0 : w0.cell? ⟨C + 1, 0, none⟩ = some (.int .i64 b1) := by rw [cell_of_row w0 (C + 1) 0 _ _ _ bB]; rfl
  have b1' : w0.cell? ⟨C + 1, 1, none⟩ = some (.int .u64 b2) := by rw [cell_of_row w0 (C + 1) 1 _ _ _ bB]; rfl
  have Q := Lib.hid (And.intro a0 (And.intro a1' (And.intro b0 b1')))
  have F0 := Lib.hid f0
  clear a0 a1' b0 b1' bA bB f0
  go_enter Tryd.func13, Tryd.ntmps13
  go_wp2_with fail
  (try rw [hw0])
  (try rw [hC])
  clear hw0
  have fd : Grown w0 w0.drew := (Grown.refl _).drew
  refine wp_draw [((fun y => Grown w0 y), [(.free, 0), (.held, 1), (.free, 2), (.held, 3), (.free, 5), (.held, 6), (.free, 7), (.held, 8), (.kept, 4), (.kept, 9), (.kept, 10), (.kept, 11), (.free, 12)])] 13 (by kernel_rfl) (by kernel_rfl) (fun _ _ _ _ _ h => h) ⟨fd, ?_⟩
  generalize w0.drew = wd at fd ⊢
  repeat (first
    | (refine' wpPlan_free (v := _) rfl (by rfl) ?_ ?_
       rotate_left
       · (intro w'; skip; go_simp; try rfl)
       simp only [List.getElem_toArray, List.getElem_cons_zero, List.getElem_cons_succ, Act.put, List.setIfInBounds_toArray, List.set_cons_zero, List.set_cons_succ])
    | (refine' wpPlan_held (v := _) rfl (by rfl) ?_ ?_
       rotate_left
       · (intro w' hS; skip; (have q0 := hS.fr.cell Q.out.1 id; have q1 := hS.fr.cell Q.out.2.1 id; have q2 := hS.fr.cell Q.out.2.2.1 id; have q3 := hS.fr.cell Q.out.2.2.2 id; clear hS); go_simp; try rfl)
       simp only [List.getElem_toArray, List.getElem_cons_zero, List.getElem_cons_succ, Act.put, List.setIfInBounds_toArray, List.set_cons_zero, List.set_cons_succ])
    | (refine' wpPlan_skip rfl (by rfl) ?_
       simp only [List.getElem_toArray, List.getElem_cons_zero, List.getElem_cons_succ, Act.put, List.setIfInBounds_toArray, List.set_cons_zero, List.set_cons_succ])
    | (refine' wpPlan_skipHeld rfl (by rfl) ?_
       simp only [List.getElem_toArray, List.getElem_cons_zero, List.getElem_cons_succ, Act.put, List.setIfInBounds_toArray, List.set_cons_zero, List.set_cons_succ]))
  refine' wpPlan_kept rfl ?_
  intro K hK
  go_simp
  refine (cmpR_any _ a1 b1).mono ?_
  rintro e w5 ⟨rfl, rfl⟩
  go_simp
  refine hK _ _ ⟨fd, ?_⟩
  clear hK K
  repeat (first
    | (refine' wpPlan_free (v := _) rfl (by rfl) ?_ ?_
       rotate_left
       · (intro w'; skip; go_simp; try rfl)
       simp only [List.getElem_toArray, List.getElem_cons_zero, List.getElem_cons_succ, Act.put, List.setIfInBounds_toArray, List.set_cons_zero, List.set_cons_succ])
    | (refine' wpPlan_held (v := _) rfl (by rfl) ?_ ?_
       rotate_left
       · (intro w' hS; skip; skip; go_simp; try rfl)
       simp only [List.getElem_toArray, List.getElem_cons_zero, List.getElem_cons_succ, Act.put, List.setIfInBounds_toArray, List.set_cons_zero, List.set_cons_succ])
    | (refine' wpPlan_skip rfl (by rfl) ?_
       simp only [List.getElem_toArray, List.getElem_cons_zero, List.getElem_cons_succ, Act.put, List.setIfInBounds_toArray, List.set_cons_zero, List.set_cons_succ])
    | (refine' wpPlan_skipHeld rfl (by rfl) ?_
       simp only [List.getElem_toArray, List.getElem_cons_zero, List.getElem_cons_succ, Act.put, List.setIfInBounds_toArray, List.set_cons_zero, List.set_cons_succ]))
  refine' wpPlan_kept rfl ?_
  intro K hK
  go_simp
  refine (cmpN_any _ a2 b2).mono ?_
  rintro e w6 ⟨rfl, rfl⟩
  go_simp
  refine hK _ _ ⟨fd, ?_⟩
  clear hK K
  repeat (first
    | (refine' wpPlan_free (v := _) rfl (by rfl) ?_ ?_
       rotate_left
       · (intro w'; skip; go_simp; try rfl)
       simp only [List.getElem_toArray, List.getElem_cons_zero, List.getElem_cons_succ, Act.put, List.setIfInBounds_toArray, List.set_cons_zero, List.set_cons_succ])
    | (refine' wpPlan_held (v := _) rfl (by rfl) ?_ ?_
       rotate_left
       · (intro w' hS; skip; skip; go_simp; try rfl)
       simp only [List.getElem_toArray, List.getElem_cons_zero, List.getElem_cons_succ, Act.put, List.setIfInBounds_toArray, List.set_cons_zero, List.set_cons_succ])
    | (refine' wpPlan_skip rfl (by rfl) ?_
       simp only [List.getElem_toArray, List.getElem_cons_zero, List.getElem_cons_succ, Act.put, List.setIfInBounds_toArray, List.set_cons_zero, List.set_cons_succ])
    | (refine' wpPlan_skipHeld rfl (by rfl) ?_
       simp only [List.getElem_toArray, List.getElem_cons_zero, List.getElem_cons_succ, Act.put, List.setIfInBounds_toArray, List.set_cons_zero, List.set_cons_succ]))
  refine' wpPlan_kept rfl ?_
  intro K hK
  go_simp
  have b6 := alloc_at w6 (.cells #[.int .i64 (c3 a1 b1), .int .i64 (c3 a2 b2)] 3)
  have f6 : Grown w0 (w6.alloc (.cells #[.int .i64 (c3 a1 b1), .int .i64 (c3 a2 b2)] 3)) := fd.alloc _
  refine hK _ _ ⟨f6, ?_⟩
  clear hK K
  generalize hG : w6.heap.size = G at b6 ⊢
  generalize w6.alloc (.cells #[.int .i64 (c3 a1 b1), .int .i64 (c3 a2 b2)] 3) = w7 at b6 f6 ⊢
  clear hG fd
  repeat (first
    | (refine' wpPlan_free (v := _) rfl (by rfl) ?_ ?_
       rotate_left
       · (intro w'; skip; go_simp; try rfl)
       simp only [List.getElem_toArray, List.getElem_cons_zero, List.getElem_cons_succ, Act.put, List.setIfInBounds_toArray, List.set_cons_zero, List.set_cons_succ])
    | (refine' wpPlan_held (v := _) rfl (by rfl) ?_ ?_
       rotate_left
       · (intro w' hS; skip; skip; go_simp; try rfl)
       simp only [List.getElem_toArray, List.getElem_cons_zero, List.getElem_cons_succ, Act.put, List.setIfInBounds_toArray, List.set_cons_zero, List.set_cons_succ])
    | (refine' wpPlan_skip rfl (by rfl) ?_
       simp only [List.getElem_toArray, List.getElem_cons_zero, List.getElem_cons_succ, Act.put, List.setIfInBounds_toArray, List.set_cons_zero, List.set_cons_succ])
    | (refine' wpPlan_skipHeld rfl (by rfl) ?_
       simp only [List.getElem_toArray, List.getElem_cons_zero, List.getElem_cons_succ, Act.put, List.setIfInBounds_toArray, List.set_cons_zero, List.set_cons_succ]))
  refine' wpPlan_kept rfl ?_
  intro K hK
  go_simp
  refine (or_at (t := kCmp (a1, a2) (b1, b2)) b6 rfl).mono ?_
  rintro e w8 ⟨rfl, rfl⟩
  go_simp
  refine hK _ _ ⟨f6, ?_⟩
  clear hK K
  repeat (first
    | (refine' wpPlan_free (v := _) rfl (by rfl) ?_ ?_
       rotate_left
       · (intro w'; skip; go_simp; try rfl)
       simp only [List.getElem_toArray, List.getElem_cons_zero, List.getElem_cons_succ, Act.put, List.setIfInBounds_toArray, List.set_cons_zero, List.set_cons_succ])
    | (refine' wpPlan_held (v := _) rfl (by rfl) ?_ ?_
       rotate_left
       · (intro w' hS; skip; skip; go_simp; try rfl)
       simp only [List.getElem_toArray, List.getElem_cons_zero, List.getElem_cons_succ, Act.put, List.setIfInBounds_toArray, List.set_cons_zero, List.set_cons_succ])
    | (refine' wpPlan_skip rfl (by rfl) ?_
       simp only [List.getElem_toArray, List.getElem_cons_zero, List.getElem_cons_succ, Act.put, List.setIfInBounds_toArray, List.set_cons_zero, List.set_cons_succ])
    | (refine' wpPlan_skipHeld rfl (by rfl) ?_
       simp only [List.getElem_toArray, List.getElem_cons_zero, List.getElem_cons_succ, Act.put, List.setIfInBounds_toArray, List.set_cons_zero, List.set_cons_succ]))
  refine wpPlan_end ?_
  simp only [wpSegs, List.drop_succ_cons, List.drop_zero]
  go_wp2_with fail
  go_ret
  exact ⟨by trivial, F0.out.trans f6⟩

set_option maxRecDepth 100000 in
set_option maxHeartbeats 1000000 in
theorem rcompare_any (w : World) (a b : MK) : Calls Tryd.prog 14 #[kV a, kV b] w fun e w' => e = .returned (.int .i64 (kCmp a b)) ∧ Fr Non w w' := by
  have hE := fun (x y : MK) (w : World) => eq_key x y w
  obtain ⟨a1, a2⟩ := a
  obtain ⟨b1, b2⟩ := b
  unfold kV at hE ⊢
  have HE := Lib.hid (fun w => hE (a1, a2) (b1, b2) w)
  clear hE
  by_cases h1 : a1 < b1
  · rw [show kCmp (a1, a2) (b1, b2) = -1 by unfold kCmp c3; simp [h1]]
    go_enter Tryd.func14, Tryd.ntmps14
    go_wp2_with fail
    go_ret
    exact ⟨by trivial, ((Fr.refl _ _).alloc _).alloc _⟩
  · by_cases h2 : a1 = b1
    · subst h2
      by_cases h3 : a2 < b2
      · rw [show kCmp (a1, a2) (a1, b2) = -1 by unfold kCmp c3; simp [h3]]
        go_enter Tryd.func14, Tryd.ntmps14
        go_wp2_with fail
        go_ret
        exact ⟨by trivial, ((Fr.refl _ _).alloc _).alloc _⟩
      · by_cases h4 : a2 = b2
        · subst h4
          have E := HE.out
          simp only [decide_true] at E
          rw [show kCmp (a1, a2) (a1, a2) = 0 from kCmp_zero.2 rfl]
          go_enter Tryd.func14, Tryd.ntmps14
          go_wp2_with fail
          go_ret
          exact ⟨by trivial, ((Fr.refl _ _).alloc _).alloc _⟩
        · have E := HE.out
          rw [show (decide ((a1, a2) = (a1, b2))) = false by simp [h4]] at E
          rw [show kCmp (a1, a2) (a1, b2) = 1 by unfold kCmp c3; grind]
          go_enter Tryd.func14, Tryd.ntmps14
          go_wp2_with fail
          go_ret
          exact ⟨by trivial, ((Fr.refl _ _).alloc _).alloc _⟩
    · have z2 : (a1 == b1) = false := by simpa using h2
      have E := HE.out
      rw [show (decide ((a1, a2) = (b1, b2))) = false by simp [h2]] at E
      rw [show kCmp (a1, a2) (b1, b2) = 1 by unfold kCmp c3; grind]
      go_enter Tryd.func14, Tryd.ntmps14
      go_wp2_with fail
      go_ret
      exact ⟨by trivial, ((Fr.refl _ _).alloc _).alloc _⟩

set_option maxRecDepth 100000 in
set_option maxHeartbeats 1000000 in
theorem less_any (w : World) (a b : MK) : Calls Tryd.prog 15 #[kV a, kV b] w fun e w' => e = .returned (.bool (kLess a b)) ∧ Grown w w' := by
  have H := Lib.hid (fun w => compare_any w a b)
  have HL := Lib.hid (show decide (kCmp a b < 0) = kLess a b from rfl)
  obtain ⟨a1, a2⟩ := a
  obtain ⟨b1, b2⟩ := b
  unfold kV at H ⊢
  generalize kCmp (a1, a2) (b1, b2) = q at H HL
  go_enter Tryd.func15, Tryd.ntmps15
  go_wp2_with fail
  refine (H.out _).mono ?_
  rintro e w' ⟨rfl, f⟩
  go_wp2_with fail
  go_ret
  exact ⟨by rw [← HL.out]; trivial, (((Grown.refl _).alloc _).alloc _).trans f⟩

set_option maxRecDepth 100000 in
set_option maxHeartbeats 1000000 in
theorem rless_any (w : World) (a b : MK) : Calls Tryd.prog 16 #[kV a, kV b] w fun e w' => e = .returned (.bool (kLess a b)) ∧ Fr Non w w' := by
  have H := Lib.hid (fun w => rcompare_any w a b)
  have HL := Lib.hid (show decide (kCmp a b < 0) = kLess a b from rfl)
  obtain ⟨a1, a2⟩ := a
  obtain ⟨b1, b2⟩ := b
  unfold kV at H ⊢
  generalize kCmp (a1, a2) (b1, b2) = q at H HL
  go_enter Tryd.func16, Tryd.ntmps16
  go_wp2_with fail
  refine (H.out _).mono ?_
  rintro e w' ⟨rfl, f⟩
  go_wp2_with fail
  go_ret
  exact ⟨by rw [← HL.out]; trivial, (((Fr.refl _ _).alloc _).alloc _).trans f⟩

set_option maxRecDepth 100000 in
set_option maxHeartbeats 1000000 in
theorem clos_any (w : World) (a b : MK) : Calls Tryd.prog 45 #[kV a, kV b] w fun e w' => e = .returned (.int .i64 (kCmp a b)) ∧ Grown w w' := by
  have H := Lib.hid (fun w => compare_any w a b)
  obtain ⟨a1, a2⟩ := a
  obtain ⟨b1, b2⟩ := b
  unfold kV at H ⊢
  generalize kCmp (a1, a2) (b1, b2) = q at H ⊢
  go_enter Tryd.func45, Tryd.ntmps45
  go_wp2_with fail
  refine (H.out _).mono ?_
  rintro e w' ⟨rfl, f⟩
  go_wp2_with fail
  go_ret
  exact ⟨by trivial, (((Grown.refl _).alloc _).alloc _).trans f⟩
end Go.Proofs.YthjfnpojelfekaaDoor
