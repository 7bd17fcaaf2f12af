/-
  Model: Check.
-/
import Derived.Test.YtplhcfaonhkegaaM2
namespace Go.Proofs.Ytplhcfaonhkegaa
open Go.RowKit Go.Maps

/-- The key ahead of a place. -/
def prv (l : List MItem) : Nat → Option Int
  | 0 => none
  | j + 1 => l[j]?.map (·.1)
theorem drop_at {α : Type} {l : List α} {j : Nat} (h : j < l.length) : l.drop j = l[j] :: l.drop (j + 1) := (List.drop_eq_getElem_cons h)
theorem mOk_long {p : Option Int} {x : MItem} {l : List MItem} (h : 1024 < x.2.length) : mOk p (x :: l) = false := by
  rw [Bool.eq_false_iff]; intro e; rw [mOk_cons] at e; omega
theorem mOk_back {p : Int} {x : MItem} {l : List MItem} (h : x.1 ≤ p) : mOk (some p) (x :: l) = false := by
  rw [Bool.eq_false_iff]; intro e; rw [mOk_cons] at e; have := e.2.1 p rfl; omega
theorem mOk_next0 {x : MItem} {l : List MItem} (h : x.2.length ≤ 1024) : mOk none (x :: l) = mOk (some x.1) l := by simp [mOk, h]
theorem mOk_next {p : Int} {x : MItem} {l : List MItem} (h : x.2.length ≤ 1024) (h2 : p < x.1) : mOk (some p) (x :: l) = mOk (some x.1) l := by simp [mOk, h, h2]

set_option maxRecDepth 100000 in
set_option maxHeartbeats 4000000 in
theorem check_any {w : World} {v : Value} {l : List MItem} (h : Sl kItem All w v l) :
    Calls Try.prog 35 #[v] w fun e w' => e = .returned (.int .i64 (mCheck l)) ∧ Fr Non w w' := by
  obtain ⟨va, vc, rfl, hc, hm, _⟩ := h.frm
  unfold maxLen at hm
  have HS := Lib.hid h
  clear h
  go_enter Try.func35, Try.ntmps35
  go_wp2_with fail
  go_loopw [7] (fun i wr => ∃ (j : Nat), j ≤ l.length ∧ i = .int .i64 j ∧ Hid (Fr Non w wr ∧ mOk none l = mOk (prv l j) (l.drop j))) (fun i _ => l.length - (intOf i).toNat)
  case atStart => exact ⟨0, by omega, rfl, Fr.refl _ _, by simp [prv]⟩
  case round =>
    obtain ⟨j, hj, rfl, HI⟩ := hrel
    by_cases hlt : j < l.length
    · have f1 := HI.out.1
      obtain ⟨B, O, u, rfl, _, _, c0, c1, hu, _, _, _⟩ := item_at (HS.out.stay f1) j hlt
      have hd := drop_at hlt
      have hp1 : prv l (j + 1) = some l[j].1 := by simp [prv, hlt]
      have HD := Lib.hid (And.intro hd hp1)
      clear hd hp1
      obtain ⟨x, hx⟩ : ∃ x, l[j] = x := ⟨_, rfl⟩
      rw [hx] at c0 hu HD
      obtain ⟨ua, uc, rfl, _⟩ := hu.frm
      have j0 : (0 : Int) ≤ (j : Int) := by omega
      have j1 : (j : Int) < (l.length : Int) := by omega
      have f2 : Fr Non wr (wr.alloc (.cells #[.int .u64 x.1, .slice ua x.2.length uc] 60)) := (Fr.refl _ _).alloc _
      clear hu hx
      by_cases h1 : (1024 : Int) < (x.2.length : Int)
      · go_wp2_with fail
        refine wp_draw [((fun w' => w' = (wr.alloc (.cells #[.int .u64 x.1, .slice ua x.2.length uc] 60)).drew), [(.free, 0), (.held, 1), (.free, 2), (.free, 3), (.free, 4), (.free, 5), (.free, 6), (.free, 7), (.free, 8), (.free, 9), (.free, 10), (.free, 11), (.free, 12), (.held, 13), (.free, 14), (.held, 15), (.free, 16), (.free, 17), (.free, 18)])] 19 (by kernel_rfl) (by kernel_rfl) (fun _ _ _ _ _ h => h) ⟨rfl, ?_⟩
        repeat (first
          | (refine' wpPlan_free (v := _) rfl (by rfl) ?_ ?_
             rotate_left
             · (intro w'; go_simp; try rfl)
             simp only [List.getElem_toArray, List.getElem_cons_zero, List.getElem_cons_succ, Act.put, List.setIfInBounds_toArray, List.set_cons_zero, List.set_cons_succ])
          | (refine' wpPlan_held (v := _) rfl (by rfl) ?_ ?_
             rotate_left
             · (intro w' hS; subst hS; go_simp; try rfl)
             simp only [List.getElem_toArray, List.getElem_cons_zero, List.getElem_cons_succ, Act.put, List.setIfInBounds_toArray, List.set_cons_zero, List.set_cons_succ])
          | (refine' wpPlan_skip rfl (by rfl) ?_
             simp only [List.getElem_toArray, List.getElem_cons_zero, List.getElem_cons_succ, Act.put, List.setIfInBounds_toArray, List.set_cons_zero, List.set_cons_succ])
          | (refine' wpPlan_skipHeld rfl (by rfl) ?_
             simp only [List.getElem_toArray, List.getElem_cons_zero, List.getElem_cons_succ, Act.put, List.setIfInBounds_toArray, List.set_cons_zero, List.set_cons_succ]))
        repeat (first
          | (refine' wpPlan_free (v := _) rfl (by rfl) ?_ ?_
             rotate_left
             · (intro w'; go_simp; try rfl)
             simp only [List.getElem_toArray, List.getElem_cons_zero, List.getElem_cons_succ, Act.put, List.setIfInBounds_toArray, List.set_cons_zero, List.set_cons_succ])
          | (refine' wpPlan_held (v := _) rfl (by rfl) ?_ ?_
             rotate_left
             · (intro w' hS; go_simp; try rfl)
             simp only [List.getElem_toArray, List.getElem_cons_zero, List.getElem_cons_succ, Act.put, List.setIfInBounds_toArray, List.set_cons_zero, List.set_cons_succ])
          | (refine' wpPlan_skip rfl (by rfl) ?_
             simp only [List.getElem_toArray, List.getElem_cons_zero, List.getElem_cons_succ, Act.put, List.setIfInBounds_toArray, List.set_cons_zero, List.set_cons_succ])
          | (refine' wpPlan_skipHeld rfl (by rfl) ?_
             simp only [List.getElem_toArray, List.getElem_cons_zero, List.getElem_cons_succ, Act.put, List.setIfInBounds_toArray, List.set_cons_zero, List.set_cons_succ]))
        refine wpPlan_end ?_
        simp only [wpSegs, List.drop_succ_cons, List.drop_zero]
        go_wp2_with fail
        go_ret
        refine ⟨?_, f1.trans f2.drew⟩
        unfold mCheck
        rw [HI.out.2, HD.out.1, mOk_long (by omega)]
        rfl
      · have G1 := Lib.hid (show decide ((1024 : Int) < (x.2.length : Int)) = false from decide_eq_false h1)
        by_cases h2 : 0 < j
        · obtain ⟨m, hm0⟩ : ∃ m, j = m + 1 := ⟨j - 1, by omega⟩
          have g2 : (0 : Int) < (j : Int) := by omega
          have W1 : IntKind.i64.wrap ((j : Int) - 1) = (m : Int) := by rw [IntWalk.i64_in _ (by omega)]; omega
          have hml : m < l.length := by omega
          obtain ⟨B', O', u', hBO, _, _, d0, _⟩ := item_at (HS.out.stay f1) m hml
          cases hBO
          have m0 : (0 : Int) ≤ (m : Int) := by omega
          have m1 : (m : Int) < (l.length : Int) := by omega
          have hpj : prv l j = some l[m].1 := by rw [hm0]; simp [prv, hml]
          have HP := Lib.hid hpj
          clear hpj hm0
          obtain ⟨y, hy⟩ : ∃ y, l[m] = y := ⟨_, rfl⟩
          rw [hy] at d0 HP
          clear hy
          have e0 := f2.cell c0 id
          have e1 := f2.cell d0 id
          by_cases h3 : x.1 ≤ y.1
          · have G3 := Lib.hid (decide_eq_true h3)
            go_wp2_with fail
            refine wp_draw [((fun w' => w' = (wr.alloc (.cells #[.int .u64 x.1, .slice ua x.2.length uc] 60)).drew), [(.free, 0), (.held, 1), (.free, 2), (.free, 3), (.free, 4), (.free, 5), (.free, 6), (.free, 7), (.free, 8), (.free, 9), (.free, 10), (.free, 11), (.free, 12), (.held, 13), (.free, 14), (.held, 15), (.free, 16), (.free, 17), (.free, 18)])] 19 (by kernel_rfl) (by kernel_rfl) (fun _ _ _ _ _ h => h) ⟨rfl, ?_⟩
            repeat (first
              | (refine' wpPlan_free (v := _) rfl (by rfl) ?_ ?_
                 rotate_left
                 · (intro w'; have g1 := G1.out; have g3 := G3.out; go_simp; try rfl)
                 simp only [List.getElem_toArray, List.getElem_cons_zero, List.getElem_cons_succ, Act.put, List.setIfInBounds_toArray, List.set_cons_zero, List.set_cons_succ])
              | (refine' wpPlan_held (v := _) rfl (by rfl) ?_ ?_
                 rotate_left
                 · (intro w' hS; have g1 := G1.out; have g3 := G3.out; subst hS; go_simp; try rfl)
                 simp only [List.getElem_toArray, List.getElem_cons_zero, List.getElem_cons_succ, Act.put, List.setIfInBounds_toArray, List.set_cons_zero, List.set_cons_succ])
              | (refine' wpPlan_skip rfl (by rfl) ?_
                 simp only [List.getElem_toArray, List.getElem_cons_zero, List.getElem_cons_succ, Act.put, List.setIfInBounds_toArray, List.set_cons_zero, List.set_cons_succ])
              | (refine' wpPlan_skipHeld rfl (by rfl) ?_
                 simp only [List.getElem_toArray, List.getElem_cons_zero, List.getElem_cons_succ, Act.put, List.setIfInBounds_toArray, List.set_cons_zero, List.set_cons_succ]))
            repeat (first
              | (refine' wpPlan_free (v := _) rfl (by rfl) ?_ ?_
                 rotate_left
                 · (intro w'; have g1 := G1.out; have g3 := G3.out; go_simp; try rfl)
                 simp only [List.getElem_toArray, List.getElem_cons_zero, List.getElem_cons_succ, Act.put, List.setIfInBounds_toArray, List.set_cons_zero, List.set_cons_succ])
              | (refine' wpPlan_held (v := _) rfl (by rfl) ?_ ?_
                 rotate_left
                 · (intro w' hS; have g1 := G1.out; have g3 := G3.out; go_simp; try rfl)
                 simp only [List.getElem_toArray, List.getElem_cons_zero, List.getElem_cons_succ, Act.put, List.setIfInBounds_toArray, List.set_cons_zero, List.set_cons_succ])
              | (refine' wpPlan_skip rfl (by rfl) ?_
                 simp only [List.getElem_toArray, List.getElem_cons_zero, List.getElem_cons_succ, Act.put, List.setIfInBounds_toArray, List.set_cons_zero, List.set_cons_succ])
              | (refine' wpPlan_skipHeld rfl (by rfl) ?_
                 simp only [List.getElem_toArray, List.getElem_cons_zero, List.getElem_cons_succ, Act.put, List.setIfInBounds_toArray, List.set_cons_zero, List.set_cons_succ]))
            refine wpPlan_end ?_
            simp only [wpSegs, List.drop_succ_cons, List.drop_zero]
            go_wp2_with fail
            go_ret
            refine ⟨?_, f1.trans f2.drew⟩
            unfold mCheck
            rw [HI.out.2, HD.out.1, HP.out, mOk_back h3]
            rfl
          · have G3 := Lib.hid (decide_eq_false h3)
            go_wp2_with fail
            refine wp_draw [((fun w' => w' = (wr.alloc (.cells #[.int .u64 x.1, .slice ua x.2.length uc] 60)).drew), [(.free, 0), (.held, 1), (.free, 2), (.free, 3), (.free, 4), (.free, 5), (.free, 6), (.free, 7), (.free, 8), (.free, 9), (.free, 10), (.free, 11), (.free, 12), (.held, 13), (.free, 14), (.held, 15), (.free, 16), (.free, 17), (.free, 18)])] 19 (by kernel_rfl) (by kernel_rfl) (fun _ _ _ _ _ h => h) ⟨rfl, ?_⟩
            repeat (first
              | (refine' wpPlan_free (v := _) rfl (by rfl) ?_ ?_
                 rotate_left
                 · (intro w'; have g1 := G1.out; have g3 := G3.out; go_simp; try rfl)
                 simp only [List.getElem_toArray, List.getElem_cons_zero, List.getElem_cons_succ, Act.put, List.setIfInBounds_toArray, List.set_cons_zero, List.set_cons_succ])
              | (refine' wpPlan_held (v := _) rfl (by rfl) ?_ ?_
                 rotate_left
                 · (intro w' hS; have g1 := G1.out; have g3 := G3.out; subst hS; go_simp; try rfl)
                 simp only [List.getElem_toArray, List.getElem_cons_zero, List.getElem_cons_succ, Act.put, List.setIfInBounds_toArray, List.set_cons_zero, List.set_cons_succ])
              | (refine' wpPlan_skip rfl (by rfl) ?_
                 simp only [List.getElem_toArray, List.getElem_cons_zero, List.getElem_cons_succ, Act.put, List.setIfInBounds_toArray, List.set_cons_zero, List.set_cons_succ])
              | (refine' wpPlan_skipHeld rfl (by rfl) ?_
                 simp only [List.getElem_toArray, List.getElem_cons_zero, List.getElem_cons_succ, Act.put, List.setIfInBounds_toArray, List.set_cons_zero, List.set_cons_succ]))
            repeat (first
              | (refine' wpPlan_free (v := _) rfl (by rfl) ?_ ?_
                 rotate_left
                 · (intro w'; have g1 := G1.out; have g3 := G3.out; go_simp; try rfl)
                 simp only [List.getElem_toArray, List.getElem_cons_zero, List.getElem_cons_succ, Act.put, List.setIfInBounds_toArray, List.set_cons_zero, List.set_cons_succ])
              | (refine' wpPlan_held (v := _) rfl (by rfl) ?_ ?_
                 rotate_left
                 · (intro w' hS; have g1 := G1.out; have g3 := G3.out; go_simp; try rfl)
                 simp only [List.getElem_toArray, List.getElem_cons_zero, List.getElem_cons_succ, Act.put, List.setIfInBounds_toArray, List.set_cons_zero, List.set_cons_succ])
              | (refine' wpPlan_skip rfl (by rfl) ?_
                 simp only [List.getElem_toArray, List.getElem_cons_zero, List.getElem_cons_succ, Act.put, List.setIfInBounds_toArray, List.set_cons_zero, List.set_cons_succ])
              | (refine' wpPlan_skipHeld rfl (by rfl) ?_
                 simp only [List.getElem_toArray, List.getElem_cons_zero, List.getElem_cons_succ, Act.put, List.setIfInBounds_toArray, List.set_cons_zero, List.set_cons_succ]))
            refine wpPlan_end ?_
            simp only [wpSegs, List.drop_succ_cons, List.drop_zero]
            go_wp2_with fail
            go_roundw
            case rel => exact ⟨j + 1, by omega, by go_num, f1.trans f2.drew, by rw [HI.out.2, HD.out.1, HP.out, mOk_next (by omega) (by omega), HD.out.2]⟩
            case measure => simp [intOf]; omega
        · have G2 := Lib.hid (show decide ((0 : Int) < (j : Int)) = false from decide_eq_false (by omega))
          go_wp2_with fail
          refine wp_draw [((fun w' => w' = (wr.alloc (.cells #[.int .u64 x.1, .slice ua x.2.length uc] 60)).drew), [(.free, 0), (.held, 1), (.free, 2), (.free, 3), (.free, 4), (.free, 5), (.free, 6), (.free, 7), (.free, 8), (.free, 9), (.free, 10), (.free, 11), (.free, 12), (.held, 13), (.free, 14), (.held, 15), (.free, 16), (.free, 17), (.free, 18)])] 19 (by kernel_rfl) (by kernel_rfl) (fun _ _ _ _ _ h => h) ⟨rfl, ?_⟩
          repeat (first
            | (refine' wpPlan_free (v := _) rfl (by rfl) ?_ ?_
               rotate_left
               · (intro w'; have g1 := G1.out; have g2 := G2.out; go_simp; try rfl)
               simp only [List.getElem_toArray, List.getElem_cons_zero, List.getElem_cons_succ, Act.put, List.setIfInBounds_toArray, List.set_cons_zero, List.set_cons_succ])
            | (refine' wpPlan_held (v := _) rfl (by rfl) ?_ ?_
               rotate_left
               · (intro w' hS; have g1 := G1.out; have g2 := G2.out; subst hS; go_simp; try rfl)
               simp only [List.getElem_toArray, List.getElem_cons_zero, List.getElem_cons_succ, Act.put, List.setIfInBounds_toArray, List.set_cons_zero, List.set_cons_succ])
            | (refine' wpPlan_skip rfl (by rfl) ?_
               simp only [List.getElem_toArray, List.getElem_cons_zero, List.getElem_cons_succ, Act.put, List.setIfInBounds_toArray, List.set_cons_zero, List.set_cons_succ])
            | (refine' wpPlan_skipHeld rfl (by rfl) ?_
               simp only [List.getElem_toArray, List.getElem_cons_zero, List.getElem_cons_succ, Act.put, List.setIfInBounds_toArray, List.set_cons_zero, List.set_cons_succ]))
          repeat (first
            | (refine' wpPlan_free (v := _) rfl (by rfl) ?_ ?_
               rotate_left
               · (intro w'; have g1 := G1.out; have g2 := G2.out; go_simp; try rfl)
               simp only [List.getElem_toArray, List.getElem_cons_zero, List.getElem_cons_succ, Act.put, List.setIfInBounds_toArray, List.set_cons_zero, List.set_cons_succ])
            | (refine' wpPlan_held (v := _) rfl (by rfl) ?_ ?_
               rotate_left
               · (intro w' hS; have g1 := G1.out; have g2 := G2.out; go_simp; try rfl)
               simp only [List.getElem_toArray, List.getElem_cons_zero, List.getElem_cons_succ, Act.put, List.setIfInBounds_toArray, List.set_cons_zero, List.set_cons_succ])
            | (refine' wpPlan_skip rfl (by rfl) ?_
               simp only [List.getElem_toArray, List.getElem_cons_zero, List.getElem_cons_succ, Act.put, List.setIfInBounds_toArray, List.set_cons_zero, List.set_cons_succ])
            | (refine' wpPlan_skipHeld rfl (by rfl) ?_
               simp only [List.getElem_toArray, List.getElem_cons_zero, List.getElem_cons_succ, Act.put, List.setIfInBounds_toArray, List.set_cons_zero, List.set_cons_succ]))
          refine wpPlan_end ?_
          simp only [wpSegs, List.drop_succ_cons, List.drop_zero]
          go_wp2_with fail
          go_roundw
          case rel =>
            obtain rfl : j = 0 := by omega
            exact ⟨0 + 1, by omega, by go_num, f1.trans f2.drew, by rw [HI.out.2, HD.out.1, prv, mOk_next0 (by omega), HD.out.2]⟩
          case measure => simp [intOf]; omega
    · obtain rfl : j = l.length := by omega
      obtain ⟨h1, h2⟩ := HI.out
      go_wp2_with fail
      go_ret
      refine ⟨?_, h1⟩
      unfold mCheck
      rw [h2, List.drop_length]
      rfl

set_option maxRecDepth 100000 in
set_option maxHeartbeats 4000000 in
theorem rcheck_any {w : World} {v : Value} {l : List MItem} (h : Sl kItem All w v l) :
    Calls Try.prog 29 #[v] w fun e w' => e = .returned (.int .i64 (mCheck l)) ∧ Fr Non w w' := by
  obtain ⟨va, vc, rfl, hc, hm, _⟩ := h.frm
  unfold maxLen at hm
  have HS := Lib.hid h
  clear h
  go_enter Try.func29, Try.ntmps29
  go_wp2_with fail
  go_loopw [3] (fun i wr => ∃ (j : Nat), j ≤ l.length ∧ i = .int .i64 j ∧ Hid (Fr Non w wr ∧ mOk none l = mOk (prv l j) (l.drop j))) (fun i _ => l.length - (intOf i).toNat)
  case atStart => exact ⟨0, by omega, rfl, Fr.refl _ _, by simp [prv]⟩
  case round =>
    obtain ⟨j, hj, rfl, HI⟩ := hrel
    by_cases hlt : j < l.length
    · have f1 := HI.out.1
      obtain ⟨B, O, u, rfl, _, _, c0, c1, hu, _, _, _⟩ := item_at (HS.out.stay f1) j hlt
      have hd := drop_at hlt
      have hp1 : prv l (j + 1) = some l[j].1 := by simp [prv, hlt]
      have HD := Lib.hid (And.intro hd hp1)
      clear hd hp1
      obtain ⟨x, hx⟩ : ∃ x, l[j] = x := ⟨_, rfl⟩
      rw [hx] at c0 hu HD
      obtain ⟨ua, uc, rfl, _⟩ := hu.frm
      have j0 : (0 : Int) ≤ (j : Int) := by omega
      have j1 : (j : Int) < (l.length : Int) := by omega
      have f2 : Fr Non wr wr.drew := (Fr.refl _ _).drew
      clear hu hx
      by_cases h1 : (1024 : Int) < (x.2.length : Int)
      · go_wp2_with fail
        refine wp_draw [((fun w' => w' = wr.drew), [(.free, 0), (.free, 1), (.free, 2), (.free, 3), (.held, 4), (.free, 5), (.free, 6), (.free, 7), (.free, 8), (.free, 9), (.free, 10), (.free, 11), (.free, 12), (.free, 13), (.free, 14), (.free, 15), (.held, 16), (.free, 17), (.free, 18), (.free, 19), (.free, 20), (.held, 21), (.free, 22), (.free, 23), (.free, 24)])] 25 (by kernel_rfl) (by kernel_rfl) (fun _ _ _ _ _ h => h) ⟨rfl, ?_⟩
        repeat (first
          | (refine' wpPlan_free (v := _) rfl (by rfl) ?_ ?_
             rotate_left
             · (intro w'; go_simp; try rfl)
             simp only [List.getElem_toArray, List.getElem_cons_zero, List.getElem_cons_succ, Act.put, List.setIfInBounds_toArray, List.set_cons_zero, List.set_cons_succ])
          | (refine' wpPlan_held (v := _) rfl (by rfl) ?_ ?_
             rotate_left
             · (intro w' hS; subst hS; go_simp; try rfl)
             simp only [List.getElem_toArray, List.getElem_cons_zero, List.getElem_cons_succ, Act.put, List.setIfInBounds_toArray, List.set_cons_zero, List.set_cons_succ])
          | (refine' wpPlan_skip rfl (by rfl) ?_
             simp only [List.getElem_toArray, List.getElem_cons_zero, List.getElem_cons_succ, Act.put, List.setIfInBounds_toArray, List.set_cons_zero, List.set_cons_succ])
          | (refine' wpPlan_skipHeld rfl (by rfl) ?_
             simp only [List.getElem_toArray, List.getElem_cons_zero, List.getElem_cons_succ, Act.put, List.setIfInBounds_toArray, List.set_cons_zero, List.set_cons_succ]))
        repeat (first
          | (refine' wpPlan_free (v := _) rfl (by rfl) ?_ ?_
             rotate_left
             · (intro w'; go_simp; try rfl)
             simp only [List.getElem_toArray, List.getElem_cons_zero, List.getElem_cons_succ, Act.put, List.setIfInBounds_toArray, List.set_cons_zero, List.set_cons_succ])
          | (refine' wpPlan_held (v := _) rfl (by rfl) ?_ ?_
             rotate_left
             · (intro w' hS; go_simp; try rfl)
             simp only [List.getElem_toArray, List.getElem_cons_zero, List.getElem_cons_succ, Act.put, List.setIfInBounds_toArray, List.set_cons_zero, List.set_cons_succ])
          | (refine' wpPlan_skip rfl (by rfl) ?_
             simp only [List.getElem_toArray, List.getElem_cons_zero, List.getElem_cons_succ, Act.put, List.setIfInBounds_toArray, List.set_cons_zero, List.set_cons_succ])
          | (refine' wpPlan_skipHeld rfl (by rfl) ?_
             simp only [List.getElem_toArray, List.getElem_cons_zero, List.getElem_cons_succ, Act.put, List.setIfInBounds_toArray, List.set_cons_zero, List.set_cons_succ]))
        refine wpPlan_end ?_
        simp only [wpSegs, List.drop_succ_cons, List.drop_zero]
        go_wp2_with fail
        go_ret
        refine ⟨?_, f1.trans f2⟩
        unfold mCheck
        rw [HI.out.2, HD.out.1, mOk_long (by omega)]
        rfl
      · have G1 := Lib.hid (show decide ((1024 : Int) < (x.2.length : Int)) = false from decide_eq_false h1)
        by_cases h2 : 0 < j
        · obtain ⟨m, hm0⟩ : ∃ m, j = m + 1 := ⟨j - 1, by omega⟩
          have g2 : (0 : Int) < (j : Int) := by omega
          have W1 : IntKind.i64.wrap ((j : Int) - 1) = (m : Int) := by rw [IntWalk.i64_in _ (by omega)]; omega
          have hml : m < l.length := by omega
          obtain ⟨B', O', u', hBO, _, _, d0, _⟩ := item_at (HS.out.stay f1) m hml
          cases hBO
          have m0 : (0 : Int) ≤ (m : Int) := by omega
          have m1 : (m : Int) < (l.length : Int) := by omega
          have hpj : prv l j = some l[m].1 := by rw [hm0]; simp [prv, hml]
          have HP := Lib.hid hpj
          clear hpj hm0
          obtain ⟨y, hy⟩ : ∃ y, l[m] = y := ⟨_, rfl⟩
          rw [hy] at d0 HP
          clear hy
          by_cases h3 : x.1 ≤ y.1
          · have G3 := Lib.hid (decide_eq_true h3)
            go_wp2_with fail
            refine wp_draw [((fun w' => w' = wr.drew), [(.free, 0), (.free, 1), (.free, 2), (.free, 3), (.held, 4), (.free, 5), (.free, 6), (.free, 7), (.free, 8), (.free, 9), (.free, 10), (.free, 11), (.free, 12), (.free, 13), (.free, 14), (.free, 15), (.held, 16), (.free, 17), (.free, 18), (.free, 19), (.free, 20), (.held, 21), (.free, 22), (.free, 23), (.free, 24)])] 25 (by kernel_rfl) (by kernel_rfl) (fun _ _ _ _ _ h => h) ⟨rfl, ?_⟩
            repeat (first
              | (refine' wpPlan_free (v := _) rfl (by rfl) ?_ ?_
                 rotate_left
                 · (intro w'; have g1 := G1.out; have g3 := G3.out; go_simp; try rfl)
                 simp only [List.getElem_toArray, List.getElem_cons_zero, List.getElem_cons_succ, Act.put, List.setIfInBounds_toArray, List.set_cons_zero, List.set_cons_succ])
              | (refine' wpPlan_held (v := _) rfl (by rfl) ?_ ?_
                 rotate_left
                 · (intro w' hS; have g1 := G1.out; have g3 := G3.out; subst hS; go_simp; try rfl)
                 simp only [List.getElem_toArray, List.getElem_cons_zero, List.getElem_cons_succ, Act.put, List.setIfInBounds_toArray, List.set_cons_zero, List.set_cons_succ])
              | (refine' wpPlan_skip rfl (by rfl) ?_
                 simp only [List.getElem_toArray, List.getElem_cons_zero, List.getElem_cons_succ, Act.put, List.setIfInBounds_toArray, List.set_cons_zero, List.set_cons_succ])
              | (refine' wpPlan_skipHeld rfl (by rfl) ?_
                 simp only [List.getElem_toArray, List.getElem_cons_zero, List.getElem_cons_succ, Act.put, List.setIfInBounds_toArray, List.set_cons_zero, List.set_cons_succ]))
            repeat (first
              | (refine' wpPlan_free (v := _) rfl (by rfl) ?_ ?_
                 rotate_left
                 · (intro w'; have g1 := G1.out; have g3 := G3.out; go_simp; try rfl)
                 simp only [List.getElem_toArray, List.getElem_cons_zero, List.getElem_cons_succ, Act.put, List.setIfInBounds_toArray, List.set_cons_zero, List.set_cons_succ])
              | (refine' wpPlan_held (v := _) rfl (by rfl) ?_ ?_
                 rotate_left
                 · (intro w' hS; have g1 := G1.out; have g3 := G3.out; go_simp; try rfl)
                 simp only [List.getElem_toArray, List.getElem_cons_zero, List.getElem_cons_succ, Act.put, List.setIfInBounds_toArray, List.set_cons_zero, List.set_cons_succ])
              | (refine' wpPlan_skip rfl (by rfl) ?_
                 simp only [List.getElem_toArray, List.getElem_cons_zero, List.getElem_cons_succ, Act.put, List.setIfInBounds_toArray, List.set_cons_zero, List.set_cons_succ])
              | (refine' wpPlan_skipHeld rfl (by rfl) ?_
                 simp only [List.getElem_toArray, List.getElem_cons_zero, List.getElem_cons_succ, Act.put, List.setIfInBounds_toArray, List.set_cons_zero, List.set_cons_succ]))
            refine wpPlan_end ?_
            simp only [wpSegs, List.drop_succ_cons, List.drop_zero]
            go_wp2_with fail
            go_ret
            refine ⟨?_, f1.trans f2⟩
            unfold mCheck
            rw [HI.out.2, HD.out.1, HP.out, mOk_back h3]
            rfl
          · have G3 := Lib.hid (decide_eq_false h3)
            go_wp2_with fail
            refine wp_draw [((fun w' => w' = wr.drew), [(.free, 0), (.free, 1), (.free, 2), (.free, 3), (.held, 4), (.free, 5), (.free, 6), (.free, 7), (.free, 8), (.free, 9), (.free, 10), (.free, 11), (.free, 12), (.free, 13), (.free, 14), (.free, 15), (.held, 16), (.free, 17), (.free, 18), (.free, 19), (.free, 20), (.held, 21), (.free, 22), (.free, 23), (.free, 24)])] 25 (by kernel_rfl) (by kernel_rfl) (fun _ _ _ _ _ h => h) ⟨rfl, ?_⟩
            repeat (first
              | (refine' wpPlan_free (v := _) rfl (by rfl) ?_ ?_
                 rotate_left
                 · (intro w'; have g1 := G1.out; have g3 := G3.out; go_simp; try rfl)
                 simp only [List.getElem_toArray, List.getElem_cons_zero, List.getElem_cons_succ, Act.put, List.setIfInBounds_toArray, List.set_cons_zero, List.set_cons_succ])
              | (refine' wpPlan_held (v := _) rfl (by rfl) ?_ ?_
                 rotate_left
                 · (intro w' hS; have g1 := G1.out; have g3 := G3.out; subst hS; go_simp; try rfl)
                 simp only [List.getElem_toArray, List.getElem_cons_zero, List.getElem_cons_succ, Act.put, List.setIfInBounds_toArray, List.set_cons_zero, List.set_cons_succ])
              | (refine' wpPlan_skip rfl (by rfl) ?_
                 simp only [List.getElem_toArray, List.getElem_cons_zero, List.getElem_cons_succ, Act.put, List.setIfInBounds_toArray, List.set_cons_zero, List.set_cons_succ])
              | (refine' wpPlan_skipHeld rfl (by rfl) ?_
                 simp only [List.getElem_toArray, List.getElem_cons_zero, List.getElem_cons_succ, Act.put, List.setIfInBounds_toArray, List.set_cons_zero, List.set_cons_succ]))
            repeat (first
              | (refine' wpPlan_free (v := _) rfl (by rfl) ?_ ?_
                 rotate_left
                 · (intro w'; have g1 := G1.out; have g3 := G3.out; go_simp; try rfl)
                 simp only [List.getElem_toArray, List.getElem_cons_zero, List.getElem_cons_succ, Act.put, List.setIfInBounds_toArray, List.set_cons_zero, List.set_cons_succ])
              | (refine' wpPlan_held (v := _) rfl (by rfl) ?_ ?_
                 rotate_left
                 · (intro w' hS; have g1 := G1.out; have g3 := G3.out; go_simp; try rfl)
                 simp only [List.getElem_toArray, List.getElem_cons_zero, List.getElem_cons_succ, Act.put, List.setIfInBounds_toArray, List.set_cons_zero, List.set_cons_succ])
              | (refine' wpPlan_skip rfl (by rfl) ?_
                 simp only [List.getElem_toArray, List.getElem_cons_zero, List.getElem_cons_succ, Act.put, List.setIfInBounds_toArray, List.set_cons_zero, List.set_cons_succ])
              | (refine' wpPlan_skipHeld rfl (by rfl) ?_
                 simp only [List.getElem_toArray, List.getElem_cons_zero, List.getElem_cons_succ, Act.put, List.setIfInBounds_toArray, List.set_cons_zero, List.set_cons_succ]))
            refine wpPlan_end ?_
            simp only [wpSegs, List.drop_succ_cons, List.drop_zero]
            go_wp2_with fail
            go_roundw
            case rel => exact ⟨j + 1, by omega, by go_num, f1.trans f2, by rw [HI.out.2, HD.out.1, HP.out, mOk_next (by omega) (by omega), HD.out.2]⟩
            case measure => simp [intOf]; omega
        · obtain rfl : j = 0 := by omega
          go_wp2_with fail
          refine wp_draw [((fun w' => w' = wr.drew), [(.free, 0), (.free, 1), (.free, 2), (.free, 3), (.held, 4), (.free, 5), (.free, 6), (.free, 7), (.free, 8), (.free, 9), (.free, 10), (.free, 11), (.free, 12), (.free, 13), (.free, 14), (.free, 15), (.held, 16), (.free, 17), (.free, 18), (.free, 19), (.free, 20), (.held, 21), (.free, 22), (.free, 23), (.free, 24)])] 25 (by kernel_rfl) (by kernel_rfl) (fun _ _ _ _ _ h => h) ⟨rfl, ?_⟩
          repeat (first
            | (refine' wpPlan_free (v := _) rfl (by rfl) ?_ ?_
               rotate_left
               · (intro w'; have g1 := G1.out; go_simp; try rfl)
               simp only [List.getElem_toArray, List.getElem_cons_zero, List.getElem_cons_succ, Act.put, List.setIfInBounds_toArray, List.set_cons_zero, List.set_cons_succ])
            | (refine' wpPlan_held (v := _) rfl (by rfl) ?_ ?_
               rotate_left
               · (intro w' hS; have g1 := G1.out; subst hS; go_simp; try rfl)
               simp only [List.getElem_toArray, List.getElem_cons_zero, List.getElem_cons_succ, Act.put, List.setIfInBounds_toArray, List.set_cons_zero, List.set_cons_succ])
            | (refine' wpPlan_skip rfl (by rfl) ?_
               simp only [List.getElem_toArray, List.getElem_cons_zero, List.getElem_cons_succ, Act.put, List.setIfInBounds_toArray, List.set_cons_zero, List.set_cons_succ])
            | (refine' wpPlan_skipHeld rfl (by rfl) ?_
               simp only [List.getElem_toArray, List.getElem_cons_zero, List.getElem_cons_succ, Act.put, List.setIfInBounds_toArray, List.set_cons_zero, List.set_cons_succ]))
          repeat (first
            | (refine' wpPlan_free (v := _) rfl (by rfl) ?_ ?_
               rotate_left
               · (intro w'; have g1 := G1.out; go_simp; try rfl)
               simp only [List.getElem_toArray, List.getElem_cons_zero, List.getElem_cons_succ, Act.put, List.setIfInBounds_toArray, List.set_cons_zero, List.set_cons_succ])
            | (refine' wpPlan_held (v := _) rfl (by rfl) ?_ ?_
               rotate_left
               · (intro w' hS; have g1 := G1.out; go_simp; try rfl)
               simp only [List.getElem_toArray, List.getElem_cons_zero, List.getElem_cons_succ, Act.put, List.setIfInBounds_toArray, List.set_cons_zero, List.set_cons_succ])
            | (refine' wpPlan_skip rfl (by rfl) ?_
               simp only [List.getElem_toArray, List.getElem_cons_zero, List.getElem_cons_succ, Act.put, List.setIfInBounds_toArray, List.set_cons_zero, List.set_cons_succ])
            | (refine' wpPlan_skipHeld rfl (by rfl) ?_
               simp only [List.getElem_toArray, List.getElem_cons_zero, List.getElem_cons_succ, Act.put, List.setIfInBounds_toArray, List.set_cons_zero, List.set_cons_succ]))
          refine wpPlan_end ?_
          simp only [wpSegs, List.drop_succ_cons, List.drop_zero]
          go_wp2_with fail
          go_roundw
          case rel => exact ⟨0 + 1, by omega, by go_num, f1.trans f2, by rw [HI.out.2, HD.out.1, prv, mOk_next0 (by omega), HD.out.2]⟩
          case measure => simp [intOf]; omega
    · obtain rfl : j = l.length := by omega
      obtain ⟨h1, h2⟩ := HI.out
      go_wp2_with fail
      go_ret
      refine ⟨?_, h1⟩
      unfold mCheck
      rw [h2, List.drop_length]
      rfl
end Go.Proofs.Ytplhcfaonhkegaa
