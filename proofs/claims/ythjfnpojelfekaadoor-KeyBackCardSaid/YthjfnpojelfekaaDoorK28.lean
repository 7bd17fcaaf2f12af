/-
  KeyBack, walked.
-/
import Derived.Test.YthjfnpojelfekaaDoorK26
import Derived.Test.YthjfnpojelfekaaDoorK27
namespace Go.Proofs.YthjfnpojelfekaaDoor
open Go.RowKit

set_option maxRecDepth 100000 in
set_option maxHeartbeats 4000000 in
theorem back_law (w : World) (a b : MK) (ha : kWf a) (hb : kWf b) (ht : pow10 w) (he : errs w) : Calls Tryd.prog 10 #[kV a, kV b] w (KEnd w) := by
  have H0 := Lib.hid (fun w => awake_any w)
  have HT1 := Lib.hid (fun w ht => text_any w a ha ht)
  have HB1 := Lib.hid (fun w => bytes_any w a ha)
  have HC1 := Lib.hid (fun w => check_any w a)
  have HB2 := Lib.hid (fun w => bytes_any w b hb)
  have HLS := Lib.hid (fun w => less_any w a b)
  have PT := Lib.hid (fun h => parse_text ha h)
  have PR := Lib.hid (fun h => read_bytes ha h)
  have PL := Lib.hid (fun oa ob => bytes_less ha hb oa ob)
  have PN := Lib.hid (text_len ha)
  have EQ := Lib.hid (fun w => neq_key a a w)
  obtain ⟨a1, a2⟩ := a
  obtain ⟨b1, b2⟩ := b
  unfold kV tV at HT1
  unfold kV at HB1 HB2 HC1 HLS EQ ⊢
  simp only [decide_true, Bool.not_true] at EQ
  have bA := alloc_at2 w (.cells #[.int .i64 a1, .int .u64 a2] 25) (.cells #[.int .i64 b1, .int .u64 b2] 25)
  have bB := alloc_at2' w (.cells #[.int .i64 a1, .int .u64 a2] 25) (.cells #[.int .i64 b1, .int .u64 b2] 25)
  have f0 : Fr Non w ((w.alloc (.cells #[.int .i64 a1, .int .u64 a2] 25)).alloc (.cells #[.int .i64 b1, .int .u64 b2] 25)) := ((Fr.refl _ _).alloc _).alloc _
  have HTB := Lib.hid (ht.fr f0)
  have HER := Lib.hid (he.fr f0)
  have BA := Lib.hid bA
  have BB := Lib.hid bB
  have F0 := Lib.hid f0
  clear ht he bA bB f0 ha hb
  go_enter Tryd.func10, Tryd.ntmps10
  go_wp2_with fail
  refine (H0.out _).mono ?_
  rintro e v0 ⟨rfl, g0⟩
  replace BA := Lib.hid ((g0).heap BA.out id)
  replace BB := Lib.hid ((g0).heap BB.out id)
  replace HTB := Lib.hid (HTB.out.fr (g0))
  replace HER := Lib.hid (HER.out.fr (g0))
  replace F0 := Lib.hid (F0.out.trans (g0))
  clear g0 
  have H1 := Lib.hid (HT1.out v0 HTB.out)
  have q00a : v0.cell? ⟨w.heap.size, 0, none⟩ = some (.int .i64 a1) := by rw [(box_facts BA.out).1]; rfl
  have q00b : v0.cell? ⟨w.heap.size, 1, none⟩ = some (.int .u64 a2) := by rw [(box_facts BA.out).1]; rfl
  go_wp2_with fail
  refine H1.out.mono ?_
  rintro e v1 ⟨rfl, g1⟩
  replace BA := Lib.hid ((g1).heap BA.out id)
  replace BB := Lib.hid ((g1).heap BB.out id)
  replace HTB := Lib.hid (HTB.out.fr (g1))
  replace HER := Lib.hid (HER.out.fr (g1))
  replace F0 := Lib.hid (F0.out.trans (g1))
  clear g1 H1 HT1 q00a q00b
  have H2 := Lib.hid (HB1.out v1)
  have q10a : v1.cell? ⟨w.heap.size, 0, none⟩ = some (.int .i64 a1) := by rw [(box_facts BA.out).1]; rfl
  have q10b : v1.cell? ⟨w.heap.size, 1, none⟩ = some (.int .u64 a2) := by rw [(box_facts BA.out).1]; rfl
  go_wp2_with fail
  refine H2.out.mono ?_
  rintro e v2 ⟨u2, rfl, hs2, g2⟩
  obtain ⟨ua, uc, rfl, _, _, _⟩ := sl_form hs2
  have S2 := Lib.hid hs2
  replace BA := Lib.hid ((g2).heap BA.out id)
  replace BB := Lib.hid ((g2).heap BB.out id)
  replace HTB := Lib.hid (HTB.out.fr (g2))
  replace HER := Lib.hid (HER.out.fr (g2))
  replace F0 := Lib.hid (F0.out.trans (g2))
  clear g2 H2 HB1 hs2 q10a q10b
  have H3 := Lib.hid (HC1.out v2)
  have q20a : v2.cell? ⟨w.heap.size, 0, none⟩ = some (.int .i64 a1) := by rw [(box_facts BA.out).1]; rfl
  have q20b : v2.cell? ⟨w.heap.size, 1, none⟩ = some (.int .u64 a2) := by rw [(box_facts BA.out).1]; rfl
  go_wp2_with fail
  refine H3.out.mono ?_
  rintro e v3 ⟨rfl, g3⟩
  replace BA := Lib.hid ((g3).heap BA.out id)
  replace BB := Lib.hid ((g3).heap BB.out id)
  replace S2 := Lib.hid (S2.out.frame (g3) (fun _ _ _ => id))
  replace HTB := Lib.hid (HTB.out.fr (g3))
  replace HER := Lib.hid (HER.out.fr (g3))
  replace F0 := Lib.hid (F0.out.trans (g3))
  clear g3 H3 HC1 q20a q20b
  by_cases oa : kOk (a1, a2) = true
  rotate_left
  · have e1 : kChk (a1, a2) = 20 := by unfold kChk; rw [if_neg oa]
    have e2 : kTxt (a1, a2) = ([], 20) := by unfold kTxt; rw [if_pos (by simpa using oa)]
    have e3 : kBytes (a1, a2) = [] := by unfold kBytes; rw [if_pos (by simpa using oa)]
    rw [e1, e2, e3]
    clear e1 e2 e3 oa HTB HER BA BB S2 HB2 HLS PT PR PL PN EQ
    go_wp2_with fail
    go_ret
    exact ⟨by trivial, F0.out⟩
  have e1 : kChk (a1, a2) = 0 := by unfold kChk; rw [if_pos oa]
  have e2 : (kTxt (a1, a2)).2 = 0 := by unfold kTxt; rw [if_neg (by rw [oa]; simp)]; split; · rfl
                                        split <;> rfl
  rw [e1, e2]
  clear e1 e2
  obtain ⟨T, hT⟩ : ∃ T, (kTxt (a1, a2)).1 = T := ⟨_, rfl⟩
  have ht := PT.out oa
  rw [hT] at ht PN ⊢
  have H4 := Lib.hid (parse_any ⟨T.toArray⟩ (by show T.toArray.size ≤ 300; have := PN.out; simpa using this) v3 HER.out HTB.out)
  rw [show (⟨T.toArray⟩ : ByteArray).data.toList = T by simp, ht] at H4
  unfold pV kV at H4
  obtain ⟨Y, hY⟩ : ∃ Y, kBytes (a1, a2) = Y := ⟨_, rfl⟩
  have hr := PR.out oa
  have PL := Lib.hid (PL.out oa)
  rw [hY] at hr PL S2 ⊢
  have HRD := Lib.hid hr
  clear ht hT PT PN hr PR hY oa
  go_wp2_with fail
  refine H4.out.mono ?_
  rintro e v4 ⟨rfl, g4⟩
  replace BA := Lib.hid ((g4).heap BA.out id)
  replace BB := Lib.hid ((g4).heap BB.out id)
  replace S2 := Lib.hid (S2.out.frame (g4) (fun _ _ _ => id))
  replace HTB := Lib.hid (HTB.out.fr (g4))
  replace HER := Lib.hid (HER.out.fr (g4))
  replace F0 := Lib.hid (F0.out.trans (g4))
  clear g4 H4 HTB HER
  have h4 : Fr Non v4 (v4.alloc (.cells #[.int .i64 a1, .int .u64 a2] 25)) := (Fr.refl _ _).alloc _
  replace BA := Lib.hid ((h4).heap BA.out id)
  replace BB := Lib.hid ((h4).heap BB.out id)
  replace S2 := Lib.hid (S2.out.frame (h4) (fun _ _ _ => id))
  replace F0 := Lib.hid (F0.out.trans (h4))
  have B4 := Lib.hid (alloc_at v4 (.cells #[.int .i64 a1, .int .u64 a2] 25))
  clear h4
  have H5 := Lib.hid (read_any S2.out)
  rw [HRD.out] at H5
  unfold pV kV at H5
  clear HRD
  go_wp2_with fail
  refine H5.out.mono ?_
  rintro e v5 ⟨rfl, g5⟩
  replace BA := Lib.hid ((g5).heap BA.out id)
  replace BB := Lib.hid ((g5).heap BB.out id)
  replace B4 := Lib.hid ((g5).heap B4.out id)
  replace S2 := Lib.hid (S2.out.frame (g5) (fun _ _ _ => id))
  replace F0 := Lib.hid (F0.out.trans (g5))
  clear g5 H5
  have h5 : Fr Non v5 (v5.alloc (.cells #[.int .i64 a1, .int .u64 a2] 25)) := (Fr.refl _ _).alloc _
  replace BA := Lib.hid ((h5).heap BA.out id)
  replace BB := Lib.hid ((h5).heap BB.out id)
  replace B4 := Lib.hid ((h5).heap B4.out id)
  replace S2 := Lib.hid (S2.out.frame (h5) (fun _ _ _ => id))
  replace F0 := Lib.hid (F0.out.trans (h5))
  have B5 := Lib.hid (alloc_at v5 (.cells #[.int .i64 a1, .int .u64 a2] 25))
  clear h5
  have q50a : (v5.alloc (.cells #[.int .i64 a1, .int .u64 a2] 25)).cell? ⟨w.heap.size, 0, none⟩ = some (.int .i64 a1) := by rw [(box_facts BA.out).1]; rfl
  have q50b : (v5.alloc (.cells #[.int .i64 a1, .int .u64 a2] 25)).cell? ⟨w.heap.size, 1, none⟩ = some (.int .u64 a2) := by rw [(box_facts BA.out).1]; rfl
  have q51a : (v5.alloc (.cells #[.int .i64 a1, .int .u64 a2] 25)).cell? ⟨w.heap.size + 1, 0, none⟩ = some (.int .i64 b1) := by rw [(box_facts BB.out).1]; rfl
  have q51b : (v5.alloc (.cells #[.int .i64 a1, .int .u64 a2] 25)).cell? ⟨w.heap.size + 1, 1, none⟩ = some (.int .u64 b2) := by rw [(box_facts BB.out).1]; rfl
  have q52a : (v5.alloc (.cells #[.int .i64 a1, .int .u64 a2] 25)).cell? ⟨v4.heap.size, 0, none⟩ = some (.int .i64 a1) := by rw [(box_facts B4.out).1]; rfl
  have q52b : (v5.alloc (.cells #[.int .i64 a1, .int .u64 a2] 25)).cell? ⟨v4.heap.size, 1, none⟩ = some (.int .u64 a2) := by rw [(box_facts B4.out).1]; rfl
  have q53a : (v5.alloc (.cells #[.int .i64 a1, .int .u64 a2] 25)).cell? ⟨v5.heap.size, 0, none⟩ = some (.int .i64 a1) := by rw [(box_facts B5.out).1]; rfl
  have q53b : (v5.alloc (.cells #[.int .i64 a1, .int .u64 a2] 25)).cell? ⟨v5.heap.size, 1, none⟩ = some (.int .u64 a2) := by rw [(box_facts B5.out).1]; rfl
  have H6 := Lib.hid (HB2.out (v5.alloc (.cells #[.int .i64 a1, .int .u64 a2] 25)))
  have E := EQ.out
  go_wp2_with fail
  refine H6.out.mono ?_
  rintro e v6 ⟨u6, rfl, hs6, g6⟩
  obtain ⟨ub, ud, rfl, _, _, _⟩ := sl_form hs6
  have S6 := Lib.hid hs6
  replace BA := Lib.hid ((g6).heap BA.out id)
  replace BB := Lib.hid ((g6).heap BB.out id)
  replace B4 := Lib.hid ((g6).heap B4.out id)
  replace B5 := Lib.hid ((g6).heap B5.out id)
  replace S2 := Lib.hid (S2.out.frame (g6) (fun _ _ _ => id))
  replace F0 := Lib.hid (F0.out.trans (g6))
  clear g6 H6 HB2 E EQ hs6 q50a q50b q51a q51b q52a q52b q53a q53b
  by_cases ob : kOk (b1, b2) = true
  · have hl := PL.out ob
    rw [show kChk (b1, b2) = 0 by unfold kChk; rw [if_pos ob]]
    have HL := Lib.hid hl
    have QA := Lib.hid (show v6.cell? ⟨w.heap.size, 0, none⟩ = some (.int .i64 a1) ∧ v6.cell? ⟨w.heap.size, 1, none⟩ = some (.int .u64 a2) by rw [(box_facts BA.out).1, (box_facts BA.out).1]; exact ⟨rfl, rfl⟩)
    have QB := Lib.hid (show v6.cell? ⟨w.heap.size + 1, 0, none⟩ = some (.int .i64 b1) ∧ v6.cell? ⟨w.heap.size + 1, 1, none⟩ = some (.int .u64 b2) by rw [(box_facts BB.out).1, (box_facts BB.out).1]; exact ⟨rfl, rfl⟩)
    clear hl PL ob H0 BA BB B4 B5
    go_wp2_with fail
    have fd0 : Fr Non v6 v6.drew := (Fr.refl _ _).drew
    refine wp_draw [((fun y => Fr Non v6 y), [(.free, 0), (.free, 1), (.free, 2), (.free, 3), (.held, 4), (.free, 5), (.held, 6), (.free, 7), (.held, 8), (.held, 9), (.kept, 10), (.free, 11), (.free, 12), (.free, 13)])] 14 (by kernel_rfl) (by kernel_rfl) (fun _ _ _ _ _ h => h) ⟨fd0, ?_⟩
    generalize v6.drew = wd0 at fd0 ⊢
    repeat (first
      | (refine' wpPlan_free (v := _) rfl (by rfl) ?_ ?_
         rotate_left
         · (intro w'; skip; go_simp; try rfl)
         simp only [List.getElem_toArray, List.getElem_cons_zero, List.getElem_cons_succ, Act.put, List.setIfInBounds_toArray, List.set_cons_zero, List.set_cons_succ])
      | (refine' wpPlan_held (v := _) rfl (by rfl) ?_ ?_
         rotate_left
         · (intro w' hS; skip; (have C1 := sl_text (S2.out.frame hS (fun _ _ _ => id)); have C2 := sl_text (S6.out.frame hS (fun _ _ _ => id)); have q0 := hS.cell QA.out.1 id; have q1 := hS.cell QA.out.2 id; have q2 := hS.cell QB.out.1 id; have q3 := hS.cell QB.out.2 id; clear hS); go_simp; try rfl)
         simp only [List.getElem_toArray, List.getElem_cons_zero, List.getElem_cons_succ, Act.put, List.setIfInBounds_toArray, List.set_cons_zero, List.set_cons_succ])
      | (refine' wpPlan_skip rfl (by rfl) ?_
         simp only [List.getElem_toArray, List.getElem_cons_zero, List.getElem_cons_succ, Act.put, List.setIfInBounds_toArray, List.set_cons_zero, List.set_cons_succ])
      | (refine' wpPlan_skipHeld rfl (by rfl) ?_
         simp only [List.getElem_toArray, List.getElem_cons_zero, List.getElem_cons_succ, Act.put, List.setIfInBounds_toArray, List.set_cons_zero, List.set_cons_succ]))
    refine' wpPlan_kept rfl ?_
    intro K hK
    go_simp
    refine (HLS.out _).mono ?_
    rintro e w1 ⟨rfl, f1⟩
    go_simp
    have fd1 := fd0.trans f1.fr
    refine hK _ _ ⟨fd1, ?_⟩
    clear hK K fd0 f1
    repeat (first
      | (refine' wpPlan_free (v := _) rfl (by rfl) ?_ ?_
         rotate_left
         · (intro w'; skip; go_simp; try rfl)
         simp only [List.getElem_toArray, List.getElem_cons_zero, List.getElem_cons_succ, Act.put, List.setIfInBounds_toArray, List.set_cons_zero, List.set_cons_succ])
      | (refine' wpPlan_held (v := _) rfl (by rfl) ?_ ?_
         rotate_left
         · (intro w' hS; skip; (have C1 := sl_text (S2.out.frame hS (fun _ _ _ => id)); have C2 := sl_text (S6.out.frame hS (fun _ _ _ => id)); have q0 := hS.cell QA.out.1 id; have q1 := hS.cell QA.out.2 id; have q2 := hS.cell QB.out.1 id; have q3 := hS.cell QB.out.2 id; clear hS); go_simp; try rfl)
         simp only [List.getElem_toArray, List.getElem_cons_zero, List.getElem_cons_succ, Act.put, List.setIfInBounds_toArray, List.set_cons_zero, List.set_cons_succ])
      | (refine' wpPlan_skip rfl (by rfl) ?_
         simp only [List.getElem_toArray, List.getElem_cons_zero, List.getElem_cons_succ, Act.put, List.setIfInBounds_toArray, List.set_cons_zero, List.set_cons_succ])
      | (refine' wpPlan_skipHeld rfl (by rfl) ?_
         simp only [List.getElem_toArray, List.getElem_cons_zero, List.getElem_cons_succ, Act.put, List.setIfInBounds_toArray, List.set_cons_zero, List.set_cons_succ]))
    refine wpPlan_end ?_
    simp only [wpSegs, List.drop_succ_cons, List.drop_zero]
    have hl := HL.out
    generalize kLess (a1, a2) (b1, b2) = z at hl ⊢
    rw [hl]
    have hz : (z == z) = true := by simp
    rw [hz]
    go_wp2_with fail
    go_ret
    exact ⟨by trivial, F0.out.trans fd1⟩
  · rw [show kChk (b1, b2) = 20 by unfold kChk; rw [if_neg ob]]
    clear PL ob H0 BA BB B4 B5
    go_wp2_with fail
    have fd0 : Fr Non v6 v6.drew := (Fr.refl _ _).drew
    refine wp_draw [((fun y => Fr Non v6 y), [(.free, 0), (.free, 1), (.free, 2), (.free, 3), (.held, 4), (.free, 5), (.held, 6), (.free, 7), (.held, 8), (.held, 9), (.kept, 10), (.free, 11), (.free, 12), (.free, 13)])] 14 (by kernel_rfl) (by kernel_rfl) (fun _ _ _ _ _ h => h) ⟨fd0, ?_⟩
    generalize v6.drew = wd0 at fd0 ⊢
    repeat (first
      | (refine' wpPlan_free (v := _) rfl (by rfl) ?_ ?_
         rotate_left
         · (intro w'; skip; go_simp; try rfl)
         simp only [List.getElem_toArray, List.getElem_cons_zero, List.getElem_cons_succ, Act.put, List.setIfInBounds_toArray, List.set_cons_zero, List.set_cons_succ])
      | (refine' wpPlan_held (v := _) rfl (by rfl) ?_ ?_
         rotate_left
         · (intro w' hS; skip; skip; go_simp; try rfl)
         simp only [List.getElem_toArray, List.getElem_cons_zero, List.getElem_cons_succ, Act.put, List.setIfInBounds_toArray, List.set_cons_zero, List.set_cons_succ])
      | (refine' wpPlan_skip rfl (by rfl) ?_
         simp only [List.getElem_toArray, List.getElem_cons_zero, List.getElem_cons_succ, Act.put, List.setIfInBounds_toArray, List.set_cons_zero, List.set_cons_succ])
      | (refine' wpPlan_skipHeld rfl (by rfl) ?_
         simp only [List.getElem_toArray, List.getElem_cons_zero, List.getElem_cons_succ, Act.put, List.setIfInBounds_toArray, List.set_cons_zero, List.set_cons_succ]))
    refine' wpPlan_kept rfl ?_
    intro K hK
    go_simp
    refine hK _ _ ⟨fd0, ?_⟩
    clear hK K
    repeat (first
      | (refine' wpPlan_free (v := _) rfl (by rfl) ?_ ?_
         rotate_left
         · (intro w'; skip; go_simp; try rfl)
         simp only [List.getElem_toArray, List.getElem_cons_zero, List.getElem_cons_succ, Act.put, List.setIfInBounds_toArray, List.set_cons_zero, List.set_cons_succ])
      | (refine' wpPlan_held (v := _) rfl (by rfl) ?_ ?_
         rotate_left
         · (intro w' hS; skip; skip; go_simp; try rfl)
         simp only [List.getElem_toArray, List.getElem_cons_zero, List.getElem_cons_succ, Act.put, List.setIfInBounds_toArray, List.set_cons_zero, List.set_cons_succ])
      | (refine' wpPlan_skip rfl (by rfl) ?_
         simp only [List.getElem_toArray, List.getElem_cons_zero, List.getElem_cons_succ, Act.put, List.setIfInBounds_toArray, List.set_cons_zero, List.set_cons_succ])
      | (refine' wpPlan_skipHeld rfl (by rfl) ?_
         simp only [List.getElem_toArray, List.getElem_cons_zero, List.getElem_cons_succ, Act.put, List.setIfInBounds_toArray, List.set_cons_zero, List.set_cons_succ]))
    refine wpPlan_end ?_
    simp only [wpSegs, List.drop_succ_cons, List.drop_zero]
    go_wp2_with fail
    go_ret
    exact ⟨by trivial, F0.out.trans fd0⟩
end Go.Proofs.YthjfnpojelfekaaDoor
