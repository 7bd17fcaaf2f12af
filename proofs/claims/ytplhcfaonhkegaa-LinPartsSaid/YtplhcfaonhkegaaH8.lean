/-
  wrong.
-/
import Derived.Test.YtplhcfaonhkegaaH7
namespace Go.Proofs.Ytplhcfaonhkegaa
open Go.RowKit Go.Maps

def hBack : Option Int → Int → Bool
  | none, _ => false
  | some q, x => decide (x ≤ q)
theorem hBad_next {l : List MHap} {r : MHap} {is : List MItem} {j : Nat} (h : j < is.length) :
    hBad l r (prv is j) (is.drop j) = ((decide (is[j].1 < r.1.2.1) || decide (r.1.2.2.1 < is[j].1) || hBack (prv is j) is[j].1 || !hMay l r is[j]) || hBad l r (prv is (j + 1)) (is.drop (j + 1))) := by
  rw [drop_at h]
  have : prv is (j + 1) = some is[j].1 := by simp [prv, h]
  rw [this]
  rcases hq : prv is j with _ | q <;> simp [hBack, hBad]
theorem BoxI.loads {w : World} {b : Nat} {x : Int} {u : Value} (h : w.heap[b]? = some (.cells #[.int .u64 x, u] 60 (0, 0))) (hu : ∃ a n c, u = .slice a n c) : (do pure (Next.value (← Instr.loadAt 60 (.pointer (some ⟨b, 0, none⟩)))) : Sem Next).run Try.prog w = .ok (.value (.agg #[.int .u64 x, u])) w := by
  obtain ⟨a, n, c, rfl⟩ := hu
  obtain ⟨q, z⟩ := box_facts h
  go_simp

set_option maxRecDepth 100000 in
set_option maxHeartbeats 4000000 in
theorem wrong_any {w : World} {l : List MHap} {lv : Value} {r : MHap} {RV AV : Value} (ha : AskV w l lv r RV AV) (hn : r.2.1.2.2.2.1.length ≤ 200000) :
    Calls Try.prog 86 #[AV] w fun e w' => e = .returned (.bool (hWrong l r)) ∧ Fr Non w w' := by
  obtain ⟨cs, ac, e0, e1, rfl, hr, hl⟩ := ha
  have f0 : Fr Non w (w.alloc (.cells ac.toArray 129)) := (Fr.refl _ _).alloc _
  have BA : Hid (BoxA (w.alloc (.cells ac.toArray 129)) w.heap.size l lv r RV (.agg ac.toArray)) := Lib.hid ⟨ac, rfl, ⟨cs, ac, e0, e1, rfl, hr.stay f0, hl.stay f0⟩, alloc_at w _⟩
  obtain ⟨C, hC⟩ : ∃ C, w.heap.size = C := ⟨_, rfl⟩
  rw [hC] at BA
  clear hr hl e0
  obtain ⟨ia, ic, a8, hit⟩ := BA.out.items
  have HIT := Lib.hid hit
  obtain ⟨it, hI⟩ : ∃ it, r.2.1.2.2.2.1 = it := ⟨_, rfl⟩
  have HNI := Lib.hid hn
  rw [hI] at a8 HIT hn
  have HI0 := Lib.hid hI
  clear hit hI
  obtain ⟨hcap0, hcap⟩ : it.length ≤ ic ∧ ic ≤ maxLen := by obtain ⟨_, _, e, h1, h2, _⟩ := HIT.out.frm; cases e; exact ⟨h1, h2⟩
  unfold maxLen at hcap
  obtain ⟨w1, hw1⟩ : ∃ w1, w.alloc (.cells ac.toArray 129) = w1 := ⟨_, rfl⟩
  go_enter Try.func86, Try.ntmps86
  rw [hw1] at BA HIT a8 f0
  go_wp2_with fail
  clear a8 hw1 hC
  go_loopw [12] (fun i wr => ∃ (j : Nat), j ≤ it.length ∧ i = .int .i64 j ∧ Hid (Fr Non w1 wr ∧ hBad l r none it = hBad l r (prv it j) (it.drop j))) (fun i _ => it.length - (intOf i).toNat)
  case atStart => exact ⟨0, by omega, rfl, Fr.refl _ _, by simp [prv]⟩
  case round =>
    obtain ⟨j, hj, rfl, HI⟩ := hrel
    have f1 := HI.out.1
    by_cases hlt : j < it.length
    · obtain ⟨B, O, u, rfl, _, _, c0, c1, hu, _, k0, k1⟩ := item_at (HIT.out.stay f1) j hlt
      have HU := Lib.hid hu
      obtain ⟨ua, uc, rfl, _⟩ := hu.frm
      have HN := Lib.hid (hBad_next (l := l) (r := r) hlt)
      obtain ⟨X, hX⟩ : ∃ X, it[j] = X := ⟨_, rfl⟩
      rw [hX] at c0 c1 HN k0 k1 HU
      clear hX hu
      have j0 : (0 : Int) ≤ (j : Int) := by omega
      have j1 : (j : Int) < (it.length : Int) := by omega
      have f2 : Fr Non wr (wr.alloc (.cells #[.int .u64 X.1, .slice ua X.2.length uc] 60)) := (Fr.refl _ _).alloc _
      obtain ⟨D, hD⟩ : ∃ D, wr.heap.size = D := ⟨_, rfl⟩
      have hbx : (wr.alloc (.cells #[.int .u64 X.1, .slice ua X.2.length uc] 60)).heap[D]? = some (.cells #[.int .u64 X.1, .slice ua X.2.length uc] 60 (0, 0)) := by rw [← hD]; exact alloc_at wr _
      have HPV : Hid (∀ m, j = m + 1 → ∃ y, (prv it j) = some y ∧ (wr.alloc (.cells #[.int .u64 X.1, .slice ua X.2.length uc] 60)).cell? ⟨B, O + m * 2, none⟩ = some (.int .u64 y)) := Lib.hid (by
        intro m hm
        obtain ⟨B', O', u', hBO, _, _, d0, _⟩ := item_at (HIT.out.stay (f1.trans f2)) m (by omega)
        cases hBO
        subst hm
        exact ⟨_, by simp [prv, show m < it.length by omega], d0⟩)
      go_wp2_with fail
      clear c0 c1
      generalize (wr.alloc (.cells #[.int .u64 X.1, .slice ua X.2.length uc] 60)) = w2 at f2 hbx HPV ⊢
      have hbx3 : w2.drew.heap[D]? = some (.cells #[.int .u64 X.1, .slice ua X.2.length uc] 60 (0, 0)) := hbx
      have f3 : Fr Non wr w2.drew := f2.drew
      have HPV3 : Hid (∀ m, j = m + 1 → ∃ y, (prv it j) = some y ∧ w2.drew.cell? ⟨B, O + m * 2, none⟩ = some (.int .u64 y)) := Lib.hid HPV.out
      clear hbx f2 HPV
      refine wp_draw [((fun y => Fr Non w2.drew y), [(.free, 0), (.held, 1), (.free, 2), (.free, 3), (.free, 4), (.held, 5), (.free, 6), (.free, 7), (.free, 8), (.held, 9), (.free, 10), (.free, 11), (.free, 12), (.held, 13), (.free, 14), (.free, 15), (.free, 16), (.free, 17), (.free, 18), (.free, 19), (.free, 20), (.free, 21), (.free, 22), (.free, 23), (.free, 24), (.held, 25), (.free, 26), (.held, 27), (.free, 28), (.free, 29), (.free, 30), (.free, 31), (.held, 32), (.held, 33), (.kept, 34), (.free, 35), (.free, 36)])] 37 (by kernel_rfl) (by kernel_rfl) (fun _ _ _ _ _ h => h) ⟨(Fr.refl _ _), ?_⟩
      generalize w2.drew = wd at hbx3 f3 HPV3 ⊢
      have B0 := Lib.hid (show wd.cell? ⟨D, 0, none⟩ = some (.int .u64 X.1) from (box_facts hbx3).1 0)
      have LD1 : Hid (∀ y, Fr Non wd y → (do pure (Next.value (← Instr.loadAt 60 (.pointer (some ⟨D, 0, none⟩)))) : Sem Next).run Try.prog y = .ok (.value (.agg #[.int .u64 X.1, .slice ua X.2.length uc])) y) := Lib.hid (fun y g => BoxI.loads (g.heap hbx3 id) ⟨_, _, _, rfl⟩)
      have BW : Hid (∀ y, Fr Non wd y → BoxA y C l lv r RV (.agg ac.toArray)) := Lib.hid (fun y g => BA.out.fr ((f1.trans f3).trans g))
      have LD2 : Hid (∀ y, Fr Non wd y → (do pure (Next.value (← Instr.loadAt 129 (.pointer (some ⟨C, 0, none⟩)))) : Sem Next).run Try.prog y = .ok (.value (.agg ac.toArray)) y) := Lib.hid (fun y g => by
        have h := (BW.out y g).facts.2.2.1
        simp only [Sem.run_bind, h, Result.andThen_ok]
        rfl)
      have A2 : Hid (∀ y, Fr Non wd y → y.cell? ⟨C, 2, none⟩ = some (.int .u64 r.1.2.1) ∧ y.cell? ⟨C, 3, none⟩ = some (.int .u64 r.1.2.2.1)) := Lib.hid (fun y g => by
        obtain ⟨_, _, _, _, _, h2, h3, _⟩ := (BW.out y g).facts
        exact ⟨h2, h3⟩)
      clear hbx3
      by_cases k1 : X.1 < r.1.2.1
      · have G1 := Lib.hid (decide_eq_true k1)
        clear k1
        repeat (first
          | (refine' wpPlan_free (v := _) rfl (by rfl) ?_ ?_
             rotate_left
             · (intro w'; have g1 := G1.out; go_simp; try rfl)
             simp only [List.getElem_toArray, List.getElem_cons_zero, List.getElem_cons_succ, Act.put, List.setIfInBounds_toArray, List.set_cons_zero, List.set_cons_succ])
          | (refine' wpPlan_held (v := _) rfl (by rfl) (fun w' hS => LD1.out w' hS) ?_
             simp only [List.getElem_toArray, List.getElem_cons_zero, List.getElem_cons_succ, Act.put, List.setIfInBounds_toArray, List.set_cons_zero, List.set_cons_succ])
          | (refine' wpPlan_held (v := _) rfl (by rfl) (fun w' hS => LD2.out w' hS) ?_
             simp only [List.getElem_toArray, List.getElem_cons_zero, List.getElem_cons_succ, Act.put, List.setIfInBounds_toArray, List.set_cons_zero, List.set_cons_succ])
          | (refine' wpPlan_held (v := _) rfl (by rfl) ?_ ?_
             rotate_left
             · (intro w' hS; have g1 := G1.out; obtain ⟨q2, q3⟩ := A2.out _ hS; have q0 := hS.cell B0.out id; clear hS; go_simp; try rfl)
             simp only [List.getElem_toArray, List.getElem_cons_zero, List.getElem_cons_succ, Act.put, List.setIfInBounds_toArray, List.set_cons_zero, List.set_cons_succ])
          | (refine' wpPlan_skip rfl (by rfl) ?_
             simp only [List.getElem_toArray, List.getElem_cons_zero, List.getElem_cons_succ, Act.put, List.setIfInBounds_toArray, List.set_cons_zero, List.set_cons_succ])
          | (refine' wpPlan_skipHeld rfl (by rfl) ?_
             simp only [List.getElem_toArray, List.getElem_cons_zero, List.getElem_cons_succ, Act.put, List.setIfInBounds_toArray, List.set_cons_zero, List.set_cons_succ]))
        refine' wpPlan_kept rfl ?_
        intro K hK
        go_simp
        refine hK _ _ ⟨Fr.refl _ _, ?_⟩
        clear hK K
        repeat (first
          | (refine' wpPlan_free (v := _) rfl (by rfl) ?_ ?_
             rotate_left
             · (intro w'; have g1 := G1.out; go_simp; try rfl)
             simp only [List.getElem_toArray, List.getElem_cons_zero, List.getElem_cons_succ, Act.put, List.setIfInBounds_toArray, List.set_cons_zero, List.set_cons_succ])
          | (refine' wpPlan_held (v := _) rfl (by rfl) (fun w' hS => LD1.out w' hS) ?_
             simp only [List.getElem_toArray, List.getElem_cons_zero, List.getElem_cons_succ, Act.put, List.setIfInBounds_toArray, List.set_cons_zero, List.set_cons_succ])
          | (refine' wpPlan_held (v := _) rfl (by rfl) (fun w' hS => LD2.out w' hS) ?_
             simp only [List.getElem_toArray, List.getElem_cons_zero, List.getElem_cons_succ, Act.put, List.setIfInBounds_toArray, List.set_cons_zero, List.set_cons_succ])
          | (refine' wpPlan_held (v := _) rfl (by rfl) ?_ ?_
             rotate_left
             · (intro w' hS; have g1 := G1.out; obtain ⟨q2, q3⟩ := A2.out _ hS; have q0 := hS.cell B0.out id; clear hS; go_simp; try rfl)
             simp only [List.getElem_toArray, List.getElem_cons_zero, List.getElem_cons_succ, Act.put, List.setIfInBounds_toArray, List.set_cons_zero, List.set_cons_succ])
          | (refine' wpPlan_skip rfl (by rfl) ?_
             simp only [List.getElem_toArray, List.getElem_cons_zero, List.getElem_cons_succ, Act.put, List.setIfInBounds_toArray, List.set_cons_zero, List.set_cons_succ])
          | (refine' wpPlan_skipHeld rfl (by rfl) ?_
             simp only [List.getElem_toArray, List.getElem_cons_zero, List.getElem_cons_succ, Act.put, List.setIfInBounds_toArray, List.set_cons_zero, List.set_cons_succ]))
        refine wpPlan_end ?_
        simp only [wpSegs, List.drop_succ_cons, List.drop_zero]
        go_wp2_with fail
        go_ret
        refine ⟨?_, f0.trans (f1.trans f3)⟩
        unfold hWrong
        rw [HI0.out, HI.out.2, HN.out, G1.out]
        simp
      have G1 := Lib.hid (decide_eq_false k1)
      clear k1
      by_cases k2 : r.1.2.2.1 < X.1
      · have G2 := Lib.hid (decide_eq_true k2)
        clear k2
        repeat (first
          | (refine' wpPlan_free (v := _) rfl (by rfl) ?_ ?_
             rotate_left
             · (intro w'; have g1 := G1.out; have g2 := G2.out; go_simp; try rfl)
             simp only [List.getElem_toArray, List.getElem_cons_zero, List.getElem_cons_succ, Act.put, List.setIfInBounds_toArray, List.set_cons_zero, List.set_cons_succ])
          | (refine' wpPlan_held (v := _) rfl (by rfl) (fun w' hS => LD1.out w' hS) ?_
             simp only [List.getElem_toArray, List.getElem_cons_zero, List.getElem_cons_succ, Act.put, List.setIfInBounds_toArray, List.set_cons_zero, List.set_cons_succ])
          | (refine' wpPlan_held (v := _) rfl (by rfl) (fun w' hS => LD2.out w' hS) ?_
             simp only [List.getElem_toArray, List.getElem_cons_zero, List.getElem_cons_succ, Act.put, List.setIfInBounds_toArray, List.set_cons_zero, List.set_cons_succ])
          | (refine' wpPlan_held (v := _) rfl (by rfl) ?_ ?_
             rotate_left
             · (intro w' hS; have g1 := G1.out; have g2 := G2.out; obtain ⟨q2, q3⟩ := A2.out _ hS; have q0 := hS.cell B0.out id; clear hS; go_simp; try rfl)
             simp only [List.getElem_toArray, List.getElem_cons_zero, List.getElem_cons_succ, Act.put, List.setIfInBounds_toArray, List.set_cons_zero, List.set_cons_succ])
          | (refine' wpPlan_skip rfl (by rfl) ?_
             simp only [List.getElem_toArray, List.getElem_cons_zero, List.getElem_cons_succ, Act.put, List.setIfInBounds_toArray, List.set_cons_zero, List.set_cons_succ])
          | (refine' wpPlan_skipHeld rfl (by rfl) ?_
             simp only [List.getElem_toArray, List.getElem_cons_zero, List.getElem_cons_succ, Act.put, List.setIfInBounds_toArray, List.set_cons_zero, List.set_cons_succ]))
        refine' wpPlan_kept rfl ?_
        intro K hK
        go_simp
        refine hK _ _ ⟨Fr.refl _ _, ?_⟩
        clear hK K
        repeat (first
          | (refine' wpPlan_free (v := _) rfl (by rfl) ?_ ?_
             rotate_left
             · (intro w'; have g1 := G1.out; have g2 := G2.out; go_simp; try rfl)
             simp only [List.getElem_toArray, List.getElem_cons_zero, List.getElem_cons_succ, Act.put, List.setIfInBounds_toArray, List.set_cons_zero, List.set_cons_succ])
          | (refine' wpPlan_held (v := _) rfl (by rfl) (fun w' hS => LD1.out w' hS) ?_
             simp only [List.getElem_toArray, List.getElem_cons_zero, List.getElem_cons_succ, Act.put, List.setIfInBounds_toArray, List.set_cons_zero, List.set_cons_succ])
          | (refine' wpPlan_held (v := _) rfl (by rfl) (fun w' hS => LD2.out w' hS) ?_
             simp only [List.getElem_toArray, List.getElem_cons_zero, List.getElem_cons_succ, Act.put, List.setIfInBounds_toArray, List.set_cons_zero, List.set_cons_succ])
          | (refine' wpPlan_held (v := _) rfl (by rfl) ?_ ?_
             rotate_left
             · (intro w' hS; have g1 := G1.out; have g2 := G2.out; obtain ⟨q2, q3⟩ := A2.out _ hS; have q0 := hS.cell B0.out id; clear hS; go_simp; try rfl)
             simp only [List.getElem_toArray, List.getElem_cons_zero, List.getElem_cons_succ, Act.put, List.setIfInBounds_toArray, List.set_cons_zero, List.set_cons_succ])
          | (refine' wpPlan_skip rfl (by rfl) ?_
             simp only [List.getElem_toArray, List.getElem_cons_zero, List.getElem_cons_succ, Act.put, List.setIfInBounds_toArray, List.set_cons_zero, List.set_cons_succ])
          | (refine' wpPlan_skipHeld rfl (by rfl) ?_
             simp only [List.getElem_toArray, List.getElem_cons_zero, List.getElem_cons_succ, Act.put, List.setIfInBounds_toArray, List.set_cons_zero, List.set_cons_succ]))
        refine wpPlan_end ?_
        simp only [wpSegs, List.drop_succ_cons, List.drop_zero]
        go_wp2_with fail
        go_ret
        refine ⟨?_, f0.trans (f1.trans f3)⟩
        unfold hWrong
        rw [HI0.out, HI.out.2, HN.out, G1.out, G2.out]
        simp
      have G2 := Lib.hid (decide_eq_false k2)
      clear k2
      by_cases k3 : 0 < j
      · obtain ⟨m, hm0⟩ : ∃ m, j = m + 1 := ⟨j - 1, by omega⟩
        obtain ⟨y, hy, d0⟩ := HPV3.out m hm0
        have HP := Lib.hid hy
        have D0 := Lib.hid d0
        have g3 : (0 : Int) < (j : Int) := by omega
        have W1 : IntKind.i64.wrap ((j : Int) - 1) = (m : Int) := by rw [IntWalk.i64_in _ (by omega)]; omega
        have m0 : (0 : Int) ≤ (m : Int) := by omega
        have m1 : (m : Int) < (it.length : Int) := by omega
        clear hm0 hy d0
        by_cases k4 : X.1 ≤ y
        · have G4 := Lib.hid (decide_eq_true k4)
          clear k4
          repeat (first
            | (refine' wpPlan_free (v := _) rfl (by rfl) ?_ ?_
               rotate_left
               · (intro w'; have g1 := G1.out; have g2 := G2.out; have g4 := G4.out; go_simp; try rfl)
               simp only [List.getElem_toArray, List.getElem_cons_zero, List.getElem_cons_succ, Act.put, List.setIfInBounds_toArray, List.set_cons_zero, List.set_cons_succ])
            | (refine' wpPlan_held (v := _) rfl (by rfl) (fun w' hS => LD1.out w' hS) ?_
               simp only [List.getElem_toArray, List.getElem_cons_zero, List.getElem_cons_succ, Act.put, List.setIfInBounds_toArray, List.set_cons_zero, List.set_cons_succ])
            | (refine' wpPlan_held (v := _) rfl (by rfl) (fun w' hS => LD2.out w' hS) ?_
               simp only [List.getElem_toArray, List.getElem_cons_zero, List.getElem_cons_succ, Act.put, List.setIfInBounds_toArray, List.set_cons_zero, List.set_cons_succ])
            | (refine' wpPlan_held (v := _) rfl (by rfl) ?_ ?_
               rotate_left
               · (intro w' hS; have g1 := G1.out; have g2 := G2.out; have g4 := G4.out; obtain ⟨q2, q3⟩ := A2.out _ hS; have q0 := hS.cell B0.out id; have qd := hS.cell D0.out id; clear hS; go_simp; try rfl)
               simp only [List.getElem_toArray, List.getElem_cons_zero, List.getElem_cons_succ, Act.put, List.setIfInBounds_toArray, List.set_cons_zero, List.set_cons_succ])
            | (refine' wpPlan_skip rfl (by rfl) ?_
               simp only [List.getElem_toArray, List.getElem_cons_zero, List.getElem_cons_succ, Act.put, List.setIfInBounds_toArray, List.set_cons_zero, List.set_cons_succ])
            | (refine' wpPlan_skipHeld rfl (by rfl) ?_
               simp only [List.getElem_toArray, List.getElem_cons_zero, List.getElem_cons_succ, Act.put, List.setIfInBounds_toArray, List.set_cons_zero, List.set_cons_succ]))
          refine' wpPlan_kept rfl ?_
          intro K hK
          go_simp
          refine hK _ _ ⟨Fr.refl _ _, ?_⟩
          clear hK K
          repeat (first
            | (refine' wpPlan_free (v := _) rfl (by rfl) ?_ ?_
               rotate_left
               · (intro w'; have g1 := G1.out; have g2 := G2.out; have g4 := G4.out; go_simp; try rfl)
               simp only [List.getElem_toArray, List.getElem_cons_zero, List.getElem_cons_succ, Act.put, List.setIfInBounds_toArray, List.set_cons_zero, List.set_cons_succ])
            | (refine' wpPlan_held (v := _) rfl (by rfl) (fun w' hS => LD1.out w' hS) ?_
               simp only [List.getElem_toArray, List.getElem_cons_zero, List.getElem_cons_succ, Act.put, List.setIfInBounds_toArray, List.set_cons_zero, List.set_cons_succ])
            | (refine' wpPlan_held (v := _) rfl (by rfl) (fun w' hS => LD2.out w' hS) ?_
               simp only [List.getElem_toArray, List.getElem_cons_zero, List.getElem_cons_succ, Act.put, List.setIfInBounds_toArray, List.set_cons_zero, List.set_cons_succ])
            | (refine' wpPlan_held (v := _) rfl (by rfl) ?_ ?_
               rotate_left
               · (intro w' hS; have g1 := G1.out; have g2 := G2.out; have g4 := G4.out; obtain ⟨q2, q3⟩ := A2.out _ hS; have q0 := hS.cell B0.out id; have qd := hS.cell D0.out id; clear hS; go_simp; try rfl)
               simp only [List.getElem_toArray, List.getElem_cons_zero, List.getElem_cons_succ, Act.put, List.setIfInBounds_toArray, List.set_cons_zero, List.set_cons_succ])
            | (refine' wpPlan_skip rfl (by rfl) ?_
               simp only [List.getElem_toArray, List.getElem_cons_zero, List.getElem_cons_succ, Act.put, List.setIfInBounds_toArray, List.set_cons_zero, List.set_cons_succ])
            | (refine' wpPlan_skipHeld rfl (by rfl) ?_
               simp only [List.getElem_toArray, List.getElem_cons_zero, List.getElem_cons_succ, Act.put, List.setIfInBounds_toArray, List.set_cons_zero, List.set_cons_succ]))
          refine wpPlan_end ?_
          simp only [wpSegs, List.drop_succ_cons, List.drop_zero]
          go_wp2_with fail
          go_ret
          refine ⟨?_, f0.trans (f1.trans f3)⟩
          unfold hWrong
          rw [HI0.out, HI.out.2, HN.out, G1.out, G2.out, HP.out, hBack, G4.out]
          simp
        have G4 := Lib.hid (decide_eq_false k4)
        clear k4
        repeat (first
          | (refine' wpPlan_free (v := _) rfl (by rfl) ?_ ?_
             rotate_left
             · (intro w'; have g1 := G1.out; have g2 := G2.out; have g4 := G4.out; go_simp; try rfl)
             simp only [List.getElem_toArray, List.getElem_cons_zero, List.getElem_cons_succ, Act.put, List.setIfInBounds_toArray, List.set_cons_zero, List.set_cons_succ])
          | (refine' wpPlan_held (v := _) rfl (by rfl) (fun w' hS => LD1.out w' hS) ?_
             simp only [List.getElem_toArray, List.getElem_cons_zero, List.getElem_cons_succ, Act.put, List.setIfInBounds_toArray, List.set_cons_zero, List.set_cons_succ])
          | (refine' wpPlan_held (v := _) rfl (by rfl) (fun w' hS => LD2.out w' hS) ?_
             simp only [List.getElem_toArray, List.getElem_cons_zero, List.getElem_cons_succ, Act.put, List.setIfInBounds_toArray, List.set_cons_zero, List.set_cons_succ])
          | (refine' wpPlan_held (v := _) rfl (by rfl) ?_ ?_
             rotate_left
             · (intro w' hS; have g1 := G1.out; have g2 := G2.out; have g4 := G4.out; obtain ⟨q2, q3⟩ := A2.out _ hS; have q0 := hS.cell B0.out id; have qd := hS.cell D0.out id; clear hS; go_simp; try rfl)
             simp only [List.getElem_toArray, List.getElem_cons_zero, List.getElem_cons_succ, Act.put, List.setIfInBounds_toArray, List.set_cons_zero, List.set_cons_succ])
          | (refine' wpPlan_skip rfl (by rfl) ?_
             simp only [List.getElem_toArray, List.getElem_cons_zero, List.getElem_cons_succ, Act.put, List.setIfInBounds_toArray, List.set_cons_zero, List.set_cons_succ])
          | (refine' wpPlan_skipHeld rfl (by rfl) ?_
             simp only [List.getElem_toArray, List.getElem_cons_zero, List.getElem_cons_succ, Act.put, List.setIfInBounds_toArray, List.set_cons_zero, List.set_cons_succ]))
        refine' wpPlan_kept rfl ?_
        intro K hK
        go_simp
        refine (may_any (BW.out wd (Fr.refl _ _)).ask (HU.out.stay f3)).mono ?_
        rintro e w5 ⟨rfl, f5⟩
        go_simp
        refine hK _ _ ⟨f5, ?_⟩
        clear hK K
        obtain ⟨t, ht⟩ : ∃ t, hMay l r X = t := ⟨_, rfl⟩
        rw [ht]
        have HT := Lib.hid ht
        clear ht
        cases t with
        | false =>
          repeat (first
            | (refine' wpPlan_free (v := _) rfl (by rfl) ?_ ?_
               rotate_left
               · (intro w'; have g1 := G1.out; have g2 := G2.out; have g4 := G4.out; go_simp; try rfl)
               simp only [List.getElem_toArray, List.getElem_cons_zero, List.getElem_cons_succ, Act.put, List.setIfInBounds_toArray, List.set_cons_zero, List.set_cons_succ])
            | (refine' wpPlan_held (v := _) rfl (by rfl) (fun w' hS => LD1.out w' hS) ?_
               simp only [List.getElem_toArray, List.getElem_cons_zero, List.getElem_cons_succ, Act.put, List.setIfInBounds_toArray, List.set_cons_zero, List.set_cons_succ])
            | (refine' wpPlan_held (v := _) rfl (by rfl) (fun w' hS => LD2.out w' hS) ?_
               simp only [List.getElem_toArray, List.getElem_cons_zero, List.getElem_cons_succ, Act.put, List.setIfInBounds_toArray, List.set_cons_zero, List.set_cons_succ])
            | (refine' wpPlan_held (v := _) rfl (by rfl) ?_ ?_
               rotate_left
               · (intro w' hS; have g1 := G1.out; have g2 := G2.out; have g4 := G4.out; obtain ⟨q2, q3⟩ := A2.out _ hS; have q0 := hS.cell B0.out id; have qd := hS.cell D0.out id; clear hS; go_simp; try rfl)
               simp only [List.getElem_toArray, List.getElem_cons_zero, List.getElem_cons_succ, Act.put, List.setIfInBounds_toArray, List.set_cons_zero, List.set_cons_succ])
            | (refine' wpPlan_skip rfl (by rfl) ?_
               simp only [List.getElem_toArray, List.getElem_cons_zero, List.getElem_cons_succ, Act.put, List.setIfInBounds_toArray, List.set_cons_zero, List.set_cons_succ])
            | (refine' wpPlan_skipHeld rfl (by rfl) ?_
               simp only [List.getElem_toArray, List.getElem_cons_zero, List.getElem_cons_succ, Act.put, List.setIfInBounds_toArray, List.set_cons_zero, List.set_cons_succ]))
          refine wpPlan_end ?_
          simp only [wpSegs, List.drop_succ_cons, List.drop_zero]
          go_wp2_with fail
          go_ret
          refine ⟨?_, f0.trans (f1.trans (f3.trans f5))⟩
          unfold hWrong
          rw [HI0.out, HI.out.2, HN.out, G1.out, G2.out, HP.out, hBack, G4.out, HT.out]
          simp
        | true =>
          repeat (first
            | (refine' wpPlan_free (v := _) rfl (by rfl) ?_ ?_
               rotate_left
               · (intro w'; have g1 := G1.out; have g2 := G2.out; have g4 := G4.out; go_simp; try rfl)
               simp only [List.getElem_toArray, List.getElem_cons_zero, List.getElem_cons_succ, Act.put, List.setIfInBounds_toArray, List.set_cons_zero, List.set_cons_succ])
            | (refine' wpPlan_held (v := _) rfl (by rfl) (fun w' hS => LD1.out w' hS) ?_
               simp only [List.getElem_toArray, List.getElem_cons_zero, List.getElem_cons_succ, Act.put, List.setIfInBounds_toArray, List.set_cons_zero, List.set_cons_succ])
            | (refine' wpPlan_held (v := _) rfl (by rfl) (fun w' hS => LD2.out w' hS) ?_
               simp only [List.getElem_toArray, List.getElem_cons_zero, List.getElem_cons_succ, Act.put, List.setIfInBounds_toArray, List.set_cons_zero, List.set_cons_succ])
            | (refine' wpPlan_held (v := _) rfl (by rfl) ?_ ?_
               rotate_left
               · (intro w' hS; have g1 := G1.out; have g2 := G2.out; have g4 := G4.out; obtain ⟨q2, q3⟩ := A2.out _ hS; have q0 := hS.cell B0.out id; have qd := hS.cell D0.out id; clear hS; go_simp; try rfl)
               simp only [List.getElem_toArray, List.getElem_cons_zero, List.getElem_cons_succ, Act.put, List.setIfInBounds_toArray, List.set_cons_zero, List.set_cons_succ])
            | (refine' wpPlan_skip rfl (by rfl) ?_
               simp only [List.getElem_toArray, List.getElem_cons_zero, List.getElem_cons_succ, Act.put, List.setIfInBounds_toArray, List.set_cons_zero, List.set_cons_succ])
            | (refine' wpPlan_skipHeld rfl (by rfl) ?_
               simp only [List.getElem_toArray, List.getElem_cons_zero, List.getElem_cons_succ, Act.put, List.setIfInBounds_toArray, List.set_cons_zero, List.set_cons_succ]))
          refine wpPlan_end ?_
          simp only [wpSegs, List.drop_succ_cons, List.drop_zero]
          go_wp2_with fail
          go_roundw
          case rel => exact ⟨j + 1, by omega, by go_num, f1.trans (f3.trans f5), by rw [HI.out.2, HN.out, G1.out, G2.out, HP.out, hBack, G4.out, HT.out]; simp⟩
          case measure => simp [intOf]; omega
      have G3 := Lib.hid (show decide (0 < j) = false from decide_eq_false k3)
      have HP := Lib.hid (show prv it j = none by rw [show j = 0 by omega]; rfl)
      clear k3
      repeat (first
        | (refine' wpPlan_free (v := _) rfl (by rfl) ?_ ?_
           rotate_left
           · (intro w'; have g1 := G1.out; have g2 := G2.out; have g3 := G3.out; go_simp; try rfl)
           simp only [List.getElem_toArray, List.getElem_cons_zero, List.getElem_cons_succ, Act.put, List.setIfInBounds_toArray, List.set_cons_zero, List.set_cons_succ])
        | (refine' wpPlan_held (v := _) rfl (by rfl) (fun w' hS => LD1.out w' hS) ?_
           simp only [List.getElem_toArray, List.getElem_cons_zero, List.getElem_cons_succ, Act.put, List.setIfInBounds_toArray, List.set_cons_zero, List.set_cons_succ])
        | (refine' wpPlan_held (v := _) rfl (by rfl) (fun w' hS => LD2.out w' hS) ?_
           simp only [List.getElem_toArray, List.getElem_cons_zero, List.getElem_cons_succ, Act.put, List.setIfInBounds_toArray, List.set_cons_zero, List.set_cons_succ])
        | (refine' wpPlan_held (v := _) rfl (by rfl) ?_ ?_
           rotate_left
           · (intro w' hS; have g1 := G1.out; have g2 := G2.out; have g3 := G3.out; obtain ⟨q2, q3⟩ := A2.out _ hS; have q0 := hS.cell B0.out id; clear hS; go_simp; try rfl)
           simp only [List.getElem_toArray, List.getElem_cons_zero, List.getElem_cons_succ, Act.put, List.setIfInBounds_toArray, List.set_cons_zero, List.set_cons_succ])
        | (refine' wpPlan_skip rfl (by rfl) ?_
           simp only [List.getElem_toArray, List.getElem_cons_zero, List.getElem_cons_succ, Act.put, List.setIfInBounds_toArray, List.set_cons_zero, List.set_cons_succ])
        | (refine' wpPlan_skipHeld rfl (by rfl) ?_
           simp only [List.getElem_toArray, List.getElem_cons_zero, List.getElem_cons_succ, Act.put, List.setIfInBounds_toArray, List.set_cons_zero, List.set_cons_succ]))
      refine' wpPlan_kept rfl ?_
      intro K hK
      go_simp
      refine (may_any (BW.out wd (Fr.refl _ _)).ask (HU.out.stay f3)).mono ?_
      rintro e w5 ⟨rfl, f5⟩
      go_simp
      refine hK _ _ ⟨f5, ?_⟩
      clear hK K
      obtain ⟨t, ht⟩ : ∃ t, hMay l r X = t := ⟨_, rfl⟩
      rw [ht]
      have HT := Lib.hid ht
      clear ht
      cases t with
      | false =>
        repeat (first
          | (refine' wpPlan_free (v := _) rfl (by rfl) ?_ ?_
             rotate_left
             · (intro w'; have g1 := G1.out; have g2 := G2.out; have g3 := G3.out; go_simp; try rfl)
             simp only [List.getElem_toArray, List.getElem_cons_zero, List.getElem_cons_succ, Act.put, List.setIfInBounds_toArray, List.set_cons_zero, List.set_cons_succ])
          | (refine' wpPlan_held (v := _) rfl (by rfl) (fun w' hS => LD1.out w' hS) ?_
             simp only [List.getElem_toArray, List.getElem_cons_zero, List.getElem_cons_succ, Act.put, List.setIfInBounds_toArray, List.set_cons_zero, List.set_cons_succ])
          | (refine' wpPlan_held (v := _) rfl (by rfl) (fun w' hS => LD2.out w' hS) ?_
             simp only [List.getElem_toArray, List.getElem_cons_zero, List.getElem_cons_succ, Act.put, List.setIfInBounds_toArray, List.set_cons_zero, List.set_cons_succ])
          | (refine' wpPlan_held (v := _) rfl (by rfl) ?_ ?_
             rotate_left
             · (intro w' hS; have g1 := G1.out; have g2 := G2.out; have g3 := G3.out; obtain ⟨q2, q3⟩ := A2.out _ hS; have q0 := hS.cell B0.out id; clear hS; go_simp; try rfl)
             simp only [List.getElem_toArray, List.getElem_cons_zero, List.getElem_cons_succ, Act.put, List.setIfInBounds_toArray, List.set_cons_zero, List.set_cons_succ])
          | (refine' wpPlan_skip rfl (by rfl) ?_
             simp only [List.getElem_toArray, List.getElem_cons_zero, List.getElem_cons_succ, Act.put, List.setIfInBounds_toArray, List.set_cons_zero, List.set_cons_succ])
          | (refine' wpPlan_skipHeld rfl (by rfl) ?_
             simp only [List.getElem_toArray, List.getElem_cons_zero, List.getElem_cons_succ, Act.put, List.setIfInBounds_toArray, List.set_cons_zero, List.set_cons_succ]))
        refine wpPlan_end ?_
        simp only [wpSegs, List.drop_succ_cons, List.drop_zero]
        go_wp2_with fail
        go_ret
        refine ⟨?_, f0.trans (f1.trans (f3.trans f5))⟩
        unfold hWrong
        rw [HI0.out, HI.out.2, HN.out, G1.out, G2.out, HP.out, hBack, HT.out]
        simp
      | true =>
        repeat (first
          | (refine' wpPlan_free (v := _) rfl (by rfl) ?_ ?_
             rotate_left
             · (intro w'; have g1 := G1.out; have g2 := G2.out; have g3 := G3.out; go_simp; try rfl)
             simp only [List.getElem_toArray, List.getElem_cons_zero, List.getElem_cons_succ, Act.put, List.setIfInBounds_toArray, List.set_cons_zero, List.set_cons_succ])
          | (refine' wpPlan_held (v := _) rfl (by rfl) (fun w' hS => LD1.out w' hS) ?_
             simp only [List.getElem_toArray, List.getElem_cons_zero, List.getElem_cons_succ, Act.put, List.setIfInBounds_toArray, List.set_cons_zero, List.set_cons_succ])
          | (refine' wpPlan_held (v := _) rfl (by rfl) (fun w' hS => LD2.out w' hS) ?_
             simp only [List.getElem_toArray, List.getElem_cons_zero, List.getElem_cons_succ, Act.put, List.setIfInBounds_toArray, List.set_cons_zero, List.set_cons_succ])
          | (refine' wpPlan_held (v := _) rfl (by rfl) ?_ ?_
             rotate_left
             · (intro w' hS; have g1 := G1.out; have g2 := G2.out; have g3 := G3.out; obtain ⟨q2, q3⟩ := A2.out _ hS; have q0 := hS.cell B0.out id; clear hS; go_simp; try rfl)
             simp only [List.getElem_toArray, List.getElem_cons_zero, List.getElem_cons_succ, Act.put, List.setIfInBounds_toArray, List.set_cons_zero, List.set_cons_succ])
          | (refine' wpPlan_skip rfl (by rfl) ?_
             simp only [List.getElem_toArray, List.getElem_cons_zero, List.getElem_cons_succ, Act.put, List.setIfInBounds_toArray, List.set_cons_zero, List.set_cons_succ])
          | (refine' wpPlan_skipHeld rfl (by rfl) ?_
             simp only [List.getElem_toArray, List.getElem_cons_zero, List.getElem_cons_succ, Act.put, List.setIfInBounds_toArray, List.set_cons_zero, List.set_cons_succ]))
        refine wpPlan_end ?_
        simp only [wpSegs, List.drop_succ_cons, List.drop_zero]
        go_wp2_with fail
        go_roundw
        case rel => exact ⟨j + 1, by omega, by go_num, f1.trans (f3.trans f5), by rw [HI.out.2, HN.out, G1.out, G2.out, HP.out, hBack, HT.out]; simp⟩
        case measure => simp [intOf]; omega
    · obtain rfl : j = it.length := by omega
      obtain ⟨h1, h2⟩ := HI.out
      have BW := Lib.hid (BA.out.fr h1)
      have LDW := Lib.hid BW.out.facts.2.2.1
      go_wp2_with (refine wpList_load_w 129 (.pointer (some ⟨C, 0, none⟩)) _ LDW.out _ rfl rfl (by rfl) ?_)
      refine (misses_any BW.out.ask HNI.out).mono ?_
      rintro e w5 ⟨rfl, f5⟩
      go_wp2_with fail
      go_ret
      refine ⟨?_, f0.trans (h1.trans f5)⟩
      unfold hWrong
      rw [HI0.out, h2, List.drop_length]
      rfl
end Go.Proofs.Ytplhcfaonhkegaa
