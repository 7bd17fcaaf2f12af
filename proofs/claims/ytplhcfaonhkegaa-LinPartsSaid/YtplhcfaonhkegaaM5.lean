/-
  Model: Same, Key.
-/
import Derived.Test.YtplhcfaonhkegaaM4
import Derived.Shelf.Abstract
namespace Go.Proofs.Ytplhcfaonhkegaa
open Go.RowKit Go.Maps

theorem enters74 : ∀ args w, (callFunc 74 args).run Try.prog w = .ok (.enter 74 args) w := enters_of Try.func74 (by kernel_rfl) rfl

theorem take_next {α : Type} {l : List α} {j : Nat} (h : j < l.length) : l.take (j + 1) = l.take j ++ [l[j]] := by rw [List.take_succ_eq_append_getElem h]
theorem ne_at {α : Type} {l m : List α} (j : Nat) (h1 : j < l.length) (h2 : j < m.length) (h : l[j] ≠ m[j]) : l ≠ m := fun e => h (by subst e; rfl)

set_option maxRecDepth 100000 in
set_option maxHeartbeats 4000000 in
theorem equalFunc_any {w : World} {u v : Value} {l m : List MItem} (hl : Sl kItem All w u l) (hm : Sl kItem All w v m) :
    Calls Try.prog 73 #[u, v, .func (.func 74) #[] #[]] w fun e w' => e = .returned (.bool (decide (l = m))) ∧ Fr Non w w' := by
  obtain ⟨va, vc, rfl, _, hx, _⟩ := hl.frm
  obtain ⟨ua, uc, rfl, _, hy, _⟩ := hm.frm
  unfold maxLen at hx hy
  have eg := enters74
  by_cases hlen : l.length = m.length
  rotate_left
  · have h1 : ¬ (l.length : Int) = (m.length : Int) := by omega
    have h2 : ((l.length : Int) == (m.length : Int)) = false := by simpa using h1
    rw [decide_eq_false (fun e => hlen (by rw [e]))]
    go_enter Try.func73, Try.ntmps73
    go_wp2_with fail
    go_ret
    exact ⟨by trivial, Fr.refl _ _⟩
  rw [← hlen]
  have HN := Lib.hid hlen
  clear hlen
  have HL := Lib.hid hl
  have HM := Lib.hid hm
  clear hl hm
  go_enter Try.func73, Try.ntmps73
  go_wp2_with fail
  go_loopw [17] (fun i wr => ∃ (j : Nat), j ≤ l.length ∧ i = .int .i64 j ∧ Hid (Fr Non w wr ∧ l.take j = m.take j)) (fun i _ => l.length - (intOf i).toNat)
  case atStart => exact ⟨0, by omega, rfl, Fr.refl _ _, by simp⟩
  case round =>
    obtain ⟨j, hj, rfl, HI⟩ := hrel
    by_cases hlt : j < l.length
    · have f1 := HI.out.1
      have hlt2 : j < m.length := by have := HN.out; omega
      obtain ⟨B, O, u1, rfl, _, _, c0, c1, hu1, _, _, _⟩ := item_at (HL.out.stay f1) j hlt
      have hm2 := HM.out
      rw [← HN.out] at hm2
      obtain ⟨B2, O2, u2, rfl, _, _, d0, d1, hu2, _, _, _⟩ := item_at (hm2.stay f1) j hlt2
      clear hm2
      have HT := Lib.hid (And.intro (take_next hlt) (And.intro (take_next hlt2) (ne_at j hlt hlt2)))
      obtain ⟨x, hx⟩ : ∃ x, l[j] = x := ⟨_, rfl⟩
      obtain ⟨y, hy⟩ : ∃ y, m[j] = y := ⟨_, rfl⟩
      rw [hx] at c0 hu1 HT
      rw [hy] at d0 hu2 HT
      clear hx hy
      obtain ⟨a1, n1, rfl, _⟩ := hu1.frm
      obtain ⟨a2, n2, rfl, _⟩ := hu2.frm
      have j0 : (0 : Int) ≤ (j : Int) := by omega
      have j1 : (j : Int) < (l.length : Int) := by omega
      have f2 : Fr Non wr (wr.alloc (.cells #[.int .u64 x.1, .slice a1 x.2.length n1] 60)) := (Fr.refl _ _).alloc _
      have e0 := f2.cell d0 id
      have e1 := f2.cell d1 id
      have f3 := f2.alloc (.cells #[.int .u64 y.1, .slice a2 y.2.length n2] 60)
      have H1 := Lib.hid (hu1.stay f3)
      have H2 := Lib.hid (hu2.stay f3)
      clear hu1 hu2
      go_wp2_with fail
      refine (sameItem_any x y H1.out H2.out).mono ?_
      rintro e w4 ⟨rfl, f4⟩
      clear c0 c1 d0 d1 e0 e1
      by_cases hxy : x = y
      · rw [decide_eq_true hxy]
        subst hxy
        go_wp2_with fail
        go_roundw
        case rel => exact ⟨j + 1, by omega, by go_num, (f1.trans f3).trans f4, by rw [HT.out.1, HT.out.2.1, HI.out.2]⟩
        case measure => simp [intOf]; omega
      · rw [decide_eq_false hxy]
        go_wp2_with fail
        go_ret
        exact ⟨by rw [decide_eq_false (HT.out.2.2 hxy)]; rfl, (f1.trans f3).trans f4⟩
    · obtain rfl : j = l.length := by omega
      obtain ⟨h1, h2⟩ := HI.out
      rw [List.take_length, HN.out, List.take_length] at h2
      go_wp2_with fail
      go_ret
      exact ⟨by rw [decide_eq_true h2]; rfl, h1⟩

theorem msame_any {w : World} {u v : Value} {l m : List MItem} (hl : Sl kItem All w u l) (hm : Sl kItem All w v m) :
    Calls Try.prog 38 #[u, v] w fun e w' => e = .returned (.bool (decide (l = m))) ∧ Fr Non w w' := by
  obtain ⟨va, vc, rfl, _, hx, _⟩ := hl.frm
  obtain ⟨ua, uc, rfl, _, hy, _⟩ := hm.frm
  go_enter Try.func38, Try.ntmps38
  go_wp2_with fail
  refine (equalFunc_any hl hm).mono ?_
  rintro e w4 ⟨rfl, f4⟩
  go_wp2_with fail
  go_ret
  exact ⟨rfl, f4⟩

set_option maxRecDepth 100000 in
set_option maxHeartbeats 4000000 in
theorem rsame_any {w : World} {u v : Value} {l m : List MItem} (hl : Sl kItem All w u l) (hm : Sl kItem All w v m) :
    Calls Try.prog 25 #[u, v] w fun e w' => e = .returned (.bool (decide (l = m))) ∧ Fr Non w w' := by
  obtain ⟨va, vc, rfl, _, hx, _⟩ := hl.frm
  obtain ⟨ua, uc, rfl, _, hy, _⟩ := hm.frm
  unfold maxLen at hx hy
  by_cases hlen : l.length = m.length
  rotate_left
  · have h1 : ¬ (l.length : Int) = (m.length : Int) := by omega
    have h2 : ((l.length : Int) == (m.length : Int)) = false := by simpa using h1
    rw [decide_eq_false (fun e => hlen (by rw [e]))]
    go_enter Try.func25, Try.ntmps25
    go_wp2_with fail
    go_ret
    exact ⟨by trivial, Fr.refl _ _⟩
  rw [← hlen]
  have HN := Lib.hid hlen
  clear hlen
  have HL := Lib.hid hl
  have HM := Lib.hid hm
  clear hl hm
  go_enter Try.func25, Try.ntmps25
  go_wp2_with fail
  go_loopw [5] (fun i wr => ∃ (j : Nat), j ≤ l.length ∧ i = .int .i64 j ∧ Hid (Fr Non w wr ∧ l.take j = m.take j)) (fun i _ => l.length - (intOf i).toNat)
  case atStart => exact ⟨0, by omega, rfl, Fr.refl _ _, by simp⟩
  case round =>
    obtain ⟨j, hj, rfl, HI⟩ := hrel
    by_cases hlt : j < l.length
    · have f1 := HI.out.1
      have hlt2 : j < m.length := by have := HN.out; omega
      obtain ⟨B, O, u1, rfl, _, _, c0, c1, hu1, _, _, _⟩ := item_at (HL.out.stay f1) j hlt
      have hm2 := HM.out
      rw [← HN.out] at hm2
      obtain ⟨B2, O2, u2, rfl, _, _, d0, d1, hu2, _, _, _⟩ := item_at (hm2.stay f1) j hlt2
      clear hm2
      have HT := Lib.hid (And.intro (take_next hlt) (And.intro (take_next hlt2) (ne_at j hlt hlt2)))
      obtain ⟨x, hx⟩ : ∃ x, l[j] = x := ⟨_, rfl⟩
      obtain ⟨y, hy⟩ : ∃ y, m[j] = y := ⟨_, rfl⟩
      rw [hx] at c0 hu1 HT
      rw [hy] at d0 hu2 HT
      clear hx hy
      obtain ⟨a1, n1, rfl, _⟩ := hu1.frm
      obtain ⟨a2, n2, rfl, _⟩ := hu2.frm
      have j0 : (0 : Int) ≤ (j : Int) := by omega
      have j1 : (j : Int) < (l.length : Int) := by omega
      have K1 := Lib.hid (show (convert 37 9 (.slice a1 x.2.length n1)).run Try.prog wr.drew = .ok (.string ⟨x.2.toArray⟩) wr.drew from conv_src (sl_src (hu1.stay ((Fr.refl _ _).drew))))
      have K2 := Lib.hid (show (convert 37 9 (.slice a2 y.2.length n2)).run Try.prog wr.drew = .ok (.string ⟨y.2.toArray⟩) wr.drew from conv_src (sl_src (hu2.stay ((Fr.refl _ _).drew))))
      have f2 : Fr Non wr wr.drew := (Fr.refl _ _).drew
      clear hu1 hu2
      by_cases hk : x.1 = y.1
      · have G1 := Lib.hid (show (y.1 != y.1) = false by simp)
        by_cases hb : x.2 = y.2
        · have hxy : x = y := Prod.ext hk hb
          subst hxy
          go_wp2_with fail
          refine wp_draw [((fun w' => w' = wr.drew), [(.free, 0), (.free, 1), (.free, 2), (.free, 3), (.held, 4), (.free, 5), (.free, 6), (.free, 7), (.free, 8), (.held, 9), (.free, 10), (.free, 11), (.free, 12), (.free, 13), (.free, 14), (.free, 15), (.held, 16), (.held, 17), (.free, 18), (.free, 19), (.free, 20), (.free, 21), (.held, 22), (.held, 23), (.free, 24), (.free, 25)])] 26 (by kernel_rfl) (by kernel_rfl) (fun _ _ _ _ _ h => h) ⟨rfl, ?_⟩
          repeat (first
            | (refine' wpPlan_free (v := _) rfl (by rfl) ?_ ?_
               rotate_left
               · (intro w'; go_simp; try rfl)
               simp only [List.getElem_toArray, List.getElem_cons_zero, List.getElem_cons_succ, Act.put, List.setIfInBounds_toArray, List.set_cons_zero, List.set_cons_succ])
            | (refine' wpPlan_held (v := _) rfl (by rfl) ?_ ?_
               rotate_left
               · (intro w' hS; subst hS; have k1 := K1.out; have k2 := K2.out; go_simp; try rfl)
               simp only [List.getElem_toArray, List.getElem_cons_zero, List.getElem_cons_succ, Act.put, List.setIfInBounds_toArray, List.set_cons_zero, List.set_cons_succ])
            | (refine' wpPlan_skip rfl (by rfl) ?_
               simp only [List.getElem_toArray, List.getElem_cons_zero, List.getElem_cons_succ, Act.put, List.setIfInBounds_toArray, List.set_cons_zero, List.set_cons_succ])
            | (refine' wpPlan_skipHeld rfl (by rfl) ?_
               simp only [List.getElem_toArray, List.getElem_cons_zero, List.getElem_cons_succ, Act.put, List.setIfInBounds_toArray, List.set_cons_zero, List.set_cons_succ]))
          repeat (first
            | (refine' wpPlan_free (v := _) rfl (by rfl) ?_ ?_
               rotate_left
               · (intro w'; go_simp; try rfl)
               simp only [List.getElem_toArray, List.getElem_cons_zero, List.getElem_cons_succ, Act.put, List.setIfInBounds_toArray, List.set_cons_zero, List.set_cons_succ])
            | (refine' wpPlan_held (v := _) rfl (by rfl) ?_ ?_
               rotate_left
               · (intro w' hS; go_simp; try rfl)
               simp only [List.getElem_toArray, List.getElem_cons_zero, List.getElem_cons_succ, Act.put, List.setIfInBounds_toArray, List.set_cons_zero, List.set_cons_succ])
            | (refine' wpPlan_skip rfl (by rfl) ?_
               simp only [List.getElem_toArray, List.getElem_cons_zero, List.getElem_cons_succ, Act.put, List.setIfInBounds_toArray, List.set_cons_zero, List.set_cons_succ])
            | (refine' wpPlan_skipHeld rfl (by rfl) ?_
               simp only [List.getElem_toArray, List.getElem_cons_zero, List.getElem_cons_succ, Act.put, List.setIfInBounds_toArray, List.set_cons_zero, List.set_cons_succ]))
          refine wpPlan_end ?_
          simp only [wpSegs, List.drop_succ_cons, List.drop_zero]
          go_wp2_with fail
          go_roundw
          case rel => exact ⟨j + 1, by omega, by go_num, f1.trans f2, by rw [HT.out.1, HT.out.2.1, HI.out.2]⟩
          case measure => simp [intOf]; omega
        · have hxy : x ≠ y := fun e => hb (by rw [e])
          have E5 := Lib.hid (show (x.2 == y.2) = false by simpa using hb)
          go_wp2_with fail
          refine wp_draw [((fun w' => w' = wr.drew), [(.free, 0), (.free, 1), (.free, 2), (.free, 3), (.held, 4), (.free, 5), (.free, 6), (.free, 7), (.free, 8), (.held, 9), (.free, 10), (.free, 11), (.free, 12), (.free, 13), (.free, 14), (.free, 15), (.held, 16), (.held, 17), (.free, 18), (.free, 19), (.free, 20), (.free, 21), (.held, 22), (.held, 23), (.free, 24), (.free, 25)])] 26 (by kernel_rfl) (by kernel_rfl) (fun _ _ _ _ _ h => h) ⟨rfl, ?_⟩
          repeat (first
            | (refine' wpPlan_free (v := _) rfl (by rfl) ?_ ?_
               rotate_left
               · (intro w'; have e5 := E5.out; go_simp; try rfl)
               simp only [List.getElem_toArray, List.getElem_cons_zero, List.getElem_cons_succ, Act.put, List.setIfInBounds_toArray, List.set_cons_zero, List.set_cons_succ])
            | (refine' wpPlan_held (v := _) rfl (by rfl) ?_ ?_
               rotate_left
               · (intro w' hS; have e5 := E5.out; subst hS; have k1 := K1.out; have k2 := K2.out; go_simp; try rfl)
               simp only [List.getElem_toArray, List.getElem_cons_zero, List.getElem_cons_succ, Act.put, List.setIfInBounds_toArray, List.set_cons_zero, List.set_cons_succ])
            | (refine' wpPlan_skip rfl (by rfl) ?_
               simp only [List.getElem_toArray, List.getElem_cons_zero, List.getElem_cons_succ, Act.put, List.setIfInBounds_toArray, List.set_cons_zero, List.set_cons_succ])
            | (refine' wpPlan_skipHeld rfl (by rfl) ?_
               simp only [List.getElem_toArray, List.getElem_cons_zero, List.getElem_cons_succ, Act.put, List.setIfInBounds_toArray, List.set_cons_zero, List.set_cons_succ]))
          repeat (first
            | (refine' wpPlan_free (v := _) rfl (by rfl) ?_ ?_
               rotate_left
               · (intro w'; have e5 := E5.out; go_simp; try rfl)
               simp only [List.getElem_toArray, List.getElem_cons_zero, List.getElem_cons_succ, Act.put, List.setIfInBounds_toArray, List.set_cons_zero, List.set_cons_succ])
            | (refine' wpPlan_held (v := _) rfl (by rfl) ?_ ?_
               rotate_left
               · (intro w' hS; have e5 := E5.out; go_simp; try rfl)
               simp only [List.getElem_toArray, List.getElem_cons_zero, List.getElem_cons_succ, Act.put, List.setIfInBounds_toArray, List.set_cons_zero, List.set_cons_succ])
            | (refine' wpPlan_skip rfl (by rfl) ?_
               simp only [List.getElem_toArray, List.getElem_cons_zero, List.getElem_cons_succ, Act.put, List.setIfInBounds_toArray, List.set_cons_zero, List.set_cons_succ])
            | (refine' wpPlan_skipHeld rfl (by rfl) ?_
               simp only [List.getElem_toArray, List.getElem_cons_zero, List.getElem_cons_succ, Act.put, List.setIfInBounds_toArray, List.set_cons_zero, List.set_cons_succ]))
          refine wpPlan_end ?_
          simp only [wpSegs, List.drop_succ_cons, List.drop_zero]
          have e5 := E5.out
          go_wp2_with fail
          go_ret
          exact ⟨by rw [decide_eq_false (HT.out.2.2 hxy)]; rfl, f1.trans f2⟩
      · have hxy : x ≠ y := fun e => hk (by rw [e])
        have G1 := Lib.hid (show (x.1 != y.1) = true by simpa using hk)
        go_wp2_with fail
        refine wp_draw [((fun w' => w' = wr.drew), [(.free, 0), (.free, 1), (.free, 2), (.free, 3), (.held, 4), (.free, 5), (.free, 6), (.free, 7), (.free, 8), (.held, 9), (.free, 10), (.free, 11), (.free, 12), (.free, 13), (.free, 14), (.free, 15), (.held, 16), (.held, 17), (.free, 18), (.free, 19), (.free, 20), (.free, 21), (.held, 22), (.held, 23), (.free, 24), (.free, 25)])] 26 (by kernel_rfl) (by kernel_rfl) (fun _ _ _ _ _ h => h) ⟨rfl, ?_⟩
        repeat (first
          | (refine' wpPlan_free (v := _) rfl (by rfl) ?_ ?_
             rotate_left
             · (intro w'; have g1 := G1.out; go_simp; try rfl)
             simp only [List.getElem_toArray, List.getElem_cons_zero, List.getElem_cons_succ, Act.put, List.setIfInBounds_toArray, List.set_cons_zero, List.set_cons_succ])
          | (refine' wpPlan_held (v := _) rfl (by rfl) ?_ ?_
             rotate_left
             · (intro w' hS; have g1 := G1.out; subst hS; go_simp; try rfl)
             simp only [List.getElem_toArray, List.getElem_cons_zero, List.getElem_cons_succ, Act.put, List.setIfInBounds_toArray, List.set_cons_zero, List.set_cons_succ])
          | (refine' wpPlan_skip rfl (by rfl) ?_
             simp only [List.getElem_toArray, List.getElem_cons_zero, List.getElem_cons_succ, Act.put, List.setIfInBounds_toArray, List.set_cons_zero, List.set_cons_succ])
          | (refine' wpPlan_skipHeld rfl (by rfl) ?_
             simp only [List.getElem_toArray, List.getElem_cons_zero, List.getElem_cons_succ, Act.put, List.setIfInBounds_toArray, List.set_cons_zero, List.set_cons_succ]))
        repeat (first
          | (refine' wpPlan_free (v := _) rfl (by rfl) ?_ ?_
             rotate_left
             · (intro w'; have g1 := G1.out; go_simp; try rfl)
             simp only [List.getElem_toArray, List.getElem_cons_zero, List.getElem_cons_succ, Act.put, List.setIfInBounds_toArray, List.set_cons_zero, List.set_cons_succ])
          | (refine' wpPlan_held (v := _) rfl (by rfl) ?_ ?_
             rotate_left
             · (intro w' hS; have g1 := G1.out; go_simp; try rfl)
             simp only [List.getElem_toArray, List.getElem_cons_zero, List.getElem_cons_succ, Act.put, List.setIfInBounds_toArray, List.set_cons_zero, List.set_cons_succ])
          | (refine' wpPlan_skip rfl (by rfl) ?_
             simp only [List.getElem_toArray, List.getElem_cons_zero, List.getElem_cons_succ, Act.put, List.setIfInBounds_toArray, List.set_cons_zero, List.set_cons_succ])
          | (refine' wpPlan_skipHeld rfl (by rfl) ?_
             simp only [List.getElem_toArray, List.getElem_cons_zero, List.getElem_cons_succ, Act.put, List.setIfInBounds_toArray, List.set_cons_zero, List.set_cons_succ]))
        refine wpPlan_end ?_
        simp only [wpSegs, List.drop_succ_cons, List.drop_zero]
        go_wp2_with fail
        go_ret
        exact ⟨by rw [decide_eq_false (HT.out.2.2 hxy)]; rfl, f1.trans f2⟩
    · obtain rfl : j = l.length := by omega
      obtain ⟨h1, h2⟩ := HI.out
      rw [List.take_length, HN.out, List.take_length] at h2
      go_wp2_with fail
      go_ret
      exact ⟨by rw [decide_eq_true h2]; rfl, h1⟩
end Go.Proofs.Ytplhcfaonhkegaa
