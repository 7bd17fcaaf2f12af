/-
  KeyPlaces, walked.
-/
import Derived.Test.YthjfnpojelfekaaDoorK9
import Derived.Test.YthjfnpojelfekaaDoorK12
namespace Go.Proofs.YthjfnpojelfekaaDoor
open Go.RowKit

theorem kCount_cons (k x : MK) (l : List MK) : kCount k (x :: l) = kCount k l + (if kLess x k then 1 else 0) := by
  unfold kCount
  rw [List.countP_cons]
theorem kCount_none {k x : MK} {l : List MK} (h : Rise (x :: l)) (hx : kLess x k = false) : kCount k (x :: l) = 0 := by
  unfold kCount
  rw [List.countP_eq_zero]
  intro y hy
  rcases List.mem_cons.1 hy with rfl | hy
  · simp [hx]
  · have h1 := (List.pairwise_cons.1 h).1 y hy
    intro h2
    have := kLess_trans h1 h2
    rw [hx] at this
    cases this
theorem kCount_at {k : MK} : ∀ {l : List MK}, Rise l → ∀ (i : Nat) (h : i < l.length), decide (i < kCount k l) = kLess l[i] k
  | [], _, i, h => by simp at h
  | x :: l, hr, i, h => by
    have hl : Rise l := (List.pairwise_cons.1 hr).2
    by_cases hx : kLess x k = true
    · rw [kCount_cons, if_pos hx]
      cases i with
      | zero => simp [hx]
      | succ i =>
        have := kCount_at (k := k) hl i (by simpa using h)
        simp only [List.getElem_cons_succ]
        rw [← this, decide_eq_decide]
        omega
    · have hx2 : kLess x k = false := by simpa using hx
      rw [kCount_none hr hx2]
      cases i with
      | zero => simp [hx2]
      | succ i =>
        have hi : i < l.length := by simpa using h
        have h1 := (List.pairwise_cons.1 hr).1 l[i] (List.getElem_mem _)
        simp only [List.getElem_cons_succ]
        cases h2 : kLess l[i] k with
        | false => simp
        | true =>
          have := kLess_trans h1 h2
          rw [hx2] at this
          cases this
theorem kThere_at {k : MK} {l : List MK} (hr : Rise l) : kThere k l = true ↔ ∃ h : kCount k l < l.length, l[kCount k l] = k := by
  constructor
  · intro h
    unfold kThere at h
    rw [List.any_eq_true] at h
    obtain ⟨x, hx, hxk⟩ := h
    obtain ⟨i, hi, rfl⟩ := List.getElem_of_mem hx
    have e : l[i] = k := by simpa using hxk
    have h1 := kCount_at (k := k) hr i hi
    rw [e, kLess_irr] at h1
    have h2 : ¬ i < kCount k l := by simpa using h1
    have h3 : ¬ kCount k l < i := by
      intro hlt
      have h4 := kCount_at (k := k) hr (kCount k l) (by omega)
      have h5 : kLess (l[kCount k l]'(by omega)) l[i] = true := (List.pairwise_iff_getElem.1 hr) _ _ (by omega) hi hlt
      rw [e] at h5
      rw [h5] at h4
      simp at h4
    have h6 : kCount k l = i := by omega
    exact ⟨by omega, by simp only [h6]; exact e⟩
  · rintro ⟨h, e⟩
    unfold kThere
    rw [List.any_eq_true]
    exact ⟨_, List.getElem_mem h, by simpa using e⟩
theorem kSorted_wf {l : List MK} (h : ∀ x ∈ l, kWf x) : ∀ x ∈ kSorted l, kWf x := fun x hx => h x (((kSorted_rise l).2 x).1 hx)
theorem kSorted_len (l : List MK) : (kSorted l).length ≤ l.length := by
  unfold kSorted
  have := kComp_len (kSort l) (kSort l).length
  rw [List.take_length, kSort_len] at this
  exact this

set_option maxRecDepth 100000 in
set_option maxHeartbeats 4000000 in
theorem places_law {w : World} {u : Value} {l : List MK} (hl : Sl kKey All w u l) (k : MK) : Calls Tryd.prog 6 #[u, kV k] w (KEnd w) := by
  obtain ⟨a, n, rfl, _⟩ := hl.frm
  have HL := Lib.hid hl.there
  have H0 := Lib.hid (fun w => awake_any w)
  obtain ⟨k1, k2⟩ := k
  unfold kV
  have bK := alloc_at w (.cells #[.int .i64 k1, .int .u64 k2] 25)
  have f0 : Fr Non w (w.alloc (.cells #[.int .i64 k1, .int .u64 k2] 25)) := (Fr.refl _ _).alloc _
  clear hl
  go_enter Tryd.func6, Tryd.ntmps6
  go_wp2_with fail
  refine (H0.out _).mono ?_
  rintro e w1 ⟨rfl, f1⟩
  have BK1 := Lib.hid (f1.heap bK id)
  have F1 := Lib.hid (f0.trans f1)
  have HF := Lib.hid (few_any ((HL.out.stay (f0.trans f1)).all))
  clear bK f0 f1 H0
  go_wp2_with fail
  refine HF.out.mono ?_
  rintro e w2 ⟨v2, rfl, hs2, rfl⟩
  have HSO := Lib.hid (sorted_any hs2 (by rw [List.length_take]; omega))
  have HWF := Lib.hid (kSorted_wf (keys_wf hs2))
  have HR := Lib.hid (kSorted_rise (l.take 100)).1
  have hlen : (kSorted (l.take 100)).length ≤ 100 := by have := kSorted_len (l.take 100); rw [List.length_take] at this; omega
  obtain ⟨L, hL⟩ : ∃ L, kSorted (l.take 100) = L := ⟨_, rfl⟩
  rw [hL] at HSO HWF HR hlen
  clear hs2 hL HF
  go_wp2_with fail
  refine HSO.out.mono ?_
  rintro e w3 ⟨v3, rfl, hk3, f3, _⟩
  have hs3 := hk3.sl HWF.out
  obtain ⟨b, c, rfl, _⟩ := hs3.frm
  have HS3 := Lib.hid hs3.there
  have HP := Lib.hid (place_any hs3 (by omega) (k1, k2))
  have BK3 := Lib.hid (f3.heap BK1.out id)
  have F3 := Lib.hid (F1.out.trans f3)
  have s0a : w3.cell? ⟨w.heap.size, 0, none⟩ = some (.int .i64 k1) := by rw [(box_facts BK3.out).1]; rfl
  have s0b : w3.cell? ⟨w.heap.size, 1, none⟩ = some (.int .u64 k2) := by rw [(box_facts BK3.out).1]; rfl
  have hcl := kCount_le (k1, k2) L L.length
  rw [List.take_length] at hcl
  have CA := Lib.hid (@kCount_at (k1, k2) L HR.out)
  have TA := Lib.hid (@kThere_at (k1, k2) L HR.out)
  have RI := Lib.hid (List.pairwise_iff_getElem.1 HR.out)
  obtain ⟨N, hN⟩ : ∃ N, kCount (k1, k2) L = N := ⟨_, rfl⟩
  obtain ⟨T, hT⟩ : ∃ T, kThere (k1, k2) L = T := ⟨_, rfl⟩
  rw [hN] at HP hcl CA TA
  rw [hT] at HP TA
  unfold kV at HP
  clear hk3 f3 hs3 HSO BK1 F1 hN hT HWF
  go_wp2_with fail
  refine HP.out.mono ?_
  rintro e w4 ⟨rfl, f4⟩
  have F4 := Lib.hid (F3.out.trans f4)
  have BK4 := Lib.hid (f4.heap BK3.out id)
  have HS4 := Lib.hid (HS3.out.stay f4)
  have n1 : ¬ (L.length : Int) < (N : Int) := by omega
  have n0 : ¬ (N : Int) < 0 := by omega
  have nd0 : decide ((N : Int) < 0) = false := by simp
  have nd1 : decide (L.length < N) = false := by simp; omega
  clear f4 s0a s0b HP HS3 BK3 F3
  go_wp2_with fail
  go_loopw [7] (fun i wr => ∃ (j : Nat), j ≤ L.length ∧ i = .int .i64 j ∧ Hid (Fr Non w4 wr)) (fun i _ => L.length - (intOf i).toNat)
  case atStart => exact ⟨0, by omega, rfl, Fr.refl _ _⟩
  case round =>
    obtain ⟨j, hj, rfl, HI⟩ := hrel
    have j0 : (0 : Int) ≤ (j : Int) := by omega
    by_cases hlt : j < L.length
    · have j1 : (j : Int) < (L.length : Int) := by omega
      obtain ⟨b', o, rfl, x0, x1⟩ := keys_rd (HS4.out.stay HI.out) j hlt
      have hca := CA.out j hlt
      have HLS := Lib.hid (fun w => less_any w L[j] (k1, k2))
      rw [← hca] at HLS
      have hprev : ∀ m, j = m + 1 → ∃ Y : MK, wr.cell? ⟨b', o + m * 2, none⟩ = some (.int .i64 Y.1) ∧ wr.cell? ⟨b', o + m * 2 + 1, none⟩ = some (.int .u64 Y.2) ∧ ∀ w, Calls Tryd.prog 15 #[kV Y, kV L[j]] w fun e w' => e = .returned (.bool true) ∧ Grown w w' := by
        intro m hm
        obtain ⟨b'', o'', e, y0, y1⟩ := keys_rd (HS4.out.stay HI.out) m (by omega)
        cases e
        refine ⟨_, y0, y1, fun w => ?_⟩
        have h := less_any w (L[m]'(by omega)) L[j]
        rw [RI.out m j (by omega) hlt (by omega)] at h
        exact h
      obtain ⟨X, hX⟩ : ∃ X, L[j] = X := ⟨_, rfl⟩
      rw [hX] at x0 x1 HLS
      simp only [hX] at hprev
      obtain ⟨X1, X2⟩ := X
      simp only at x0 x1
      unfold kV at HLS
      have bK5 := HI.out.heap BK4.out id
      have s0a : wr.cell? ⟨w.heap.size, 0, none⟩ = some (.int .i64 k1) := by rw [(box_facts bK5).1]; rfl
      have s0b : wr.cell? ⟨w.heap.size, 1, none⟩ = some (.int .u64 k2) := by rw [(box_facts bK5).1]; rfl
      clear hX hca bK5
      rcases Nat.eq_zero_or_pos j with hjz | hjp
      · have gz : decide (0 < j) = false := by simp; omega
        have gz2 : ¬ 0 < j := by omega
        have Q := Lib.hid (And.intro x0 (And.intro x1 (And.intro s0a (And.intro s0b trivial))))
        clear hprev hjz
        by_cases hjn : j < N
        · have i1 : (j : Int) < (N : Int) := by omega
          rw [decide_eq_true hjn] at HLS
          clear x0 x1 s0a s0b
          go_wp2_with fail
          have fd0 : Fr Non wr wr.drew := (Fr.refl _ _).drew
          refine wp_draw [((fun y => Fr Non wr y), [(.free, 0), (.free, 1), (.free, 2), (.free, 3), (.free, 4), (.free, 5), (.held, 6), (.held, 7), (.kept, 8), (.free, 9), (.free, 10), (.free, 11), (.free, 12), (.free, 13), (.free, 14), (.free, 15), (.free, 16), (.free, 17), (.held, 18), (.free, 19), (.free, 20), (.free, 21), (.held, 22), (.kept, 23), (.free, 24), (.free, 25), (.free, 26)])] 27 (by kernel_rfl) (by kernel_rfl) (fun _ _ _ _ _ h => h) ⟨fd0, ?_⟩
          generalize wr.drew = wd0 at fd0 ⊢
          repeat (first
            | (refine' wpPlan_free (v := _) rfl (by rfl) ?_ ?_
               rotate_left
               · (intro w'; skip; go_simp; try rfl)
               simp only [List.getElem_toArray, List.getElem_cons_zero, List.getElem_cons_succ, Act.put, List.setIfInBounds_toArray, List.set_cons_zero, List.set_cons_succ])
            | (refine' wpPlan_held (v := _) rfl (by rfl) ?_ ?_
               rotate_left
               · (intro w' hS; skip; (have q0 := hS.cell Q.out.1 id; have q1 := hS.cell Q.out.2.1 id; have q2 := hS.cell Q.out.2.2.1 id; have q3 := hS.cell Q.out.2.2.2.1 id; clear hS); go_simp; try rfl)
               simp only [List.getElem_toArray, List.getElem_cons_zero, List.getElem_cons_succ, Act.put, List.setIfInBounds_toArray, List.set_cons_zero, List.set_cons_succ])
            | (refine' wpPlan_skip rfl (by rfl) ?_
               simp only [List.getElem_toArray, List.getElem_cons_zero, List.getElem_cons_succ, Act.put, List.setIfInBounds_toArray, List.set_cons_zero, List.set_cons_succ])
            | (refine' wpPlan_skipHeld rfl (by rfl) ?_
               simp only [List.getElem_toArray, List.getElem_cons_zero, List.getElem_cons_succ, Act.put, List.setIfInBounds_toArray, List.set_cons_zero, List.set_cons_succ]))
          refine' wpPlan_kept rfl ?_
          intro K hK
          go_simp
          refine (HLS.out _).mono ?_
          rintro e w5 ⟨rfl, f5⟩
          go_simp
          have fd1 := fd0.trans f5.fr
          refine hK _ _ ⟨fd1, ?_⟩
          clear hK K fd0 f5
          repeat (first
            | (refine' wpPlan_free (v := _) rfl (by rfl) ?_ ?_
               rotate_left
               · (intro w'; skip; go_simp; try rfl)
               simp only [List.getElem_toArray, List.getElem_cons_zero, List.getElem_cons_succ, Act.put, List.setIfInBounds_toArray, List.set_cons_zero, List.set_cons_succ])
            | (refine' wpPlan_held (v := _) rfl (by rfl) ?_ ?_
               rotate_left
               · (intro w' hS; skip; (have q0 := hS.cell Q.out.1 id; have q1 := hS.cell Q.out.2.1 id; have q2 := hS.cell Q.out.2.2.1 id; have q3 := hS.cell Q.out.2.2.2.1 id; clear hS); go_simp; try rfl)
               simp only [List.getElem_toArray, List.getElem_cons_zero, List.getElem_cons_succ, Act.put, List.setIfInBounds_toArray, List.set_cons_zero, List.set_cons_succ])
            | (refine' wpPlan_skip rfl (by rfl) ?_
               simp only [List.getElem_toArray, List.getElem_cons_zero, List.getElem_cons_succ, Act.put, List.setIfInBounds_toArray, List.set_cons_zero, List.set_cons_succ])
            | (refine' wpPlan_skipHeld rfl (by rfl) ?_
               simp only [List.getElem_toArray, List.getElem_cons_zero, List.getElem_cons_succ, Act.put, List.setIfInBounds_toArray, List.set_cons_zero, List.set_cons_succ]))
          refine' wpPlan_kept rfl ?_
          intro K hK
          go_simp
          refine hK _ _ ⟨fd1, ?_⟩
          clear hK K
          repeat (first
            | (refine' wpPlan_free (v := _) rfl (by rfl) ?_ ?_
               rotate_left
               · (intro w'; skip; go_simp; try rfl)
               simp only [List.getElem_toArray, List.getElem_cons_zero, List.getElem_cons_succ, Act.put, List.setIfInBounds_toArray, List.set_cons_zero, List.set_cons_succ])
            | (refine' wpPlan_held (v := _) rfl (by rfl) ?_ ?_
               rotate_left
               · (intro w' hS; skip; (have q0 := hS.cell Q.out.1 id; have q1 := hS.cell Q.out.2.1 id; have q2 := hS.cell Q.out.2.2.1 id; have q3 := hS.cell Q.out.2.2.2.1 id; clear hS); go_simp; try rfl)
               simp only [List.getElem_toArray, List.getElem_cons_zero, List.getElem_cons_succ, Act.put, List.setIfInBounds_toArray, List.set_cons_zero, List.set_cons_succ])
            | (refine' wpPlan_skip rfl (by rfl) ?_
               simp only [List.getElem_toArray, List.getElem_cons_zero, List.getElem_cons_succ, Act.put, List.setIfInBounds_toArray, List.set_cons_zero, List.set_cons_succ])
            | (refine' wpPlan_skipHeld rfl (by rfl) ?_
               simp only [List.getElem_toArray, List.getElem_cons_zero, List.getElem_cons_succ, Act.put, List.setIfInBounds_toArray, List.set_cons_zero, List.set_cons_succ]))
          refine wpPlan_end ?_
          simp only [wpSegs, List.drop_succ_cons, List.drop_zero]
          have HI2 := Lib.hid (HI.out.trans fd1)
          go_wp2_with fail
          go_roundw
          case rel => exact ⟨j + 1, by omega, by go_num, HI2⟩
          case measure => simp [intOf]; omega
        · have i1 : ¬ (j : Int) < (N : Int) := by omega
          rw [decide_eq_false hjn] at HLS
          clear x0 x1 s0a s0b
          go_wp2_with fail
          have fd0 : Fr Non wr wr.drew := (Fr.refl _ _).drew
          refine wp_draw [((fun y => Fr Non wr y), [(.free, 0), (.free, 1), (.free, 2), (.free, 3), (.free, 4), (.free, 5), (.held, 6), (.held, 7), (.kept, 8), (.free, 9), (.free, 10), (.free, 11), (.free, 12), (.free, 13), (.free, 14), (.free, 15), (.free, 16), (.free, 17), (.held, 18), (.free, 19), (.free, 20), (.free, 21), (.held, 22), (.kept, 23), (.free, 24), (.free, 25), (.free, 26)])] 27 (by kernel_rfl) (by kernel_rfl) (fun _ _ _ _ _ h => h) ⟨fd0, ?_⟩
          generalize wr.drew = wd0 at fd0 ⊢
          repeat (first
            | (refine' wpPlan_free (v := _) rfl (by rfl) ?_ ?_
               rotate_left
               · (intro w'; skip; go_simp; try rfl)
               simp only [List.getElem_toArray, List.getElem_cons_zero, List.getElem_cons_succ, Act.put, List.setIfInBounds_toArray, List.set_cons_zero, List.set_cons_succ])
            | (refine' wpPlan_held (v := _) rfl (by rfl) ?_ ?_
               rotate_left
               · (intro w' hS; skip; (have q0 := hS.cell Q.out.1 id; have q1 := hS.cell Q.out.2.1 id; have q2 := hS.cell Q.out.2.2.1 id; have q3 := hS.cell Q.out.2.2.2.1 id; clear hS); go_simp; try rfl)
               simp only [List.getElem_toArray, List.getElem_cons_zero, List.getElem_cons_succ, Act.put, List.setIfInBounds_toArray, List.set_cons_zero, List.set_cons_succ])
            | (refine' wpPlan_skip rfl (by rfl) ?_
               simp only [List.getElem_toArray, List.getElem_cons_zero, List.getElem_cons_succ, Act.put, List.setIfInBounds_toArray, List.set_cons_zero, List.set_cons_succ])
            | (refine' wpPlan_skipHeld rfl (by rfl) ?_
               simp only [List.getElem_toArray, List.getElem_cons_zero, List.getElem_cons_succ, Act.put, List.setIfInBounds_toArray, List.set_cons_zero, List.set_cons_succ]))
          refine' wpPlan_kept rfl ?_
          intro K hK
          go_simp
          refine (HLS.out _).mono ?_
          rintro e w5 ⟨rfl, f5⟩
          go_simp
          have fd1 := fd0.trans f5.fr
          refine hK _ _ ⟨fd1, ?_⟩
          clear hK K fd0 f5
          repeat (first
            | (refine' wpPlan_free (v := _) rfl (by rfl) ?_ ?_
               rotate_left
               · (intro w'; skip; go_simp; try rfl)
               simp only [List.getElem_toArray, List.getElem_cons_zero, List.getElem_cons_succ, Act.put, List.setIfInBounds_toArray, List.set_cons_zero, List.set_cons_succ])
            | (refine' wpPlan_held (v := _) rfl (by rfl) ?_ ?_
               rotate_left
               · (intro w' hS; skip; (have q0 := hS.cell Q.out.1 id; have q1 := hS.cell Q.out.2.1 id; have q2 := hS.cell Q.out.2.2.1 id; have q3 := hS.cell Q.out.2.2.2.1 id; clear hS); go_simp; try rfl)
               simp only [List.getElem_toArray, List.getElem_cons_zero, List.getElem_cons_succ, Act.put, List.setIfInBounds_toArray, List.set_cons_zero, List.set_cons_succ])
            | (refine' wpPlan_skip rfl (by rfl) ?_
               simp only [List.getElem_toArray, List.getElem_cons_zero, List.getElem_cons_succ, Act.put, List.setIfInBounds_toArray, List.set_cons_zero, List.set_cons_succ])
            | (refine' wpPlan_skipHeld rfl (by rfl) ?_
               simp only [List.getElem_toArray, List.getElem_cons_zero, List.getElem_cons_succ, Act.put, List.setIfInBounds_toArray, List.set_cons_zero, List.set_cons_succ]))
          refine' wpPlan_kept rfl ?_
          intro K hK
          go_simp
          refine hK _ _ ⟨fd1, ?_⟩
          clear hK K
          repeat (first
            | (refine' wpPlan_free (v := _) rfl (by rfl) ?_ ?_
               rotate_left
               · (intro w'; skip; go_simp; try rfl)
               simp only [List.getElem_toArray, List.getElem_cons_zero, List.getElem_cons_succ, Act.put, List.setIfInBounds_toArray, List.set_cons_zero, List.set_cons_succ])
            | (refine' wpPlan_held (v := _) rfl (by rfl) ?_ ?_
               rotate_left
               · (intro w' hS; skip; (have q0 := hS.cell Q.out.1 id; have q1 := hS.cell Q.out.2.1 id; have q2 := hS.cell Q.out.2.2.1 id; have q3 := hS.cell Q.out.2.2.2.1 id; clear hS); go_simp; try rfl)
               simp only [List.getElem_toArray, List.getElem_cons_zero, List.getElem_cons_succ, Act.put, List.setIfInBounds_toArray, List.set_cons_zero, List.set_cons_succ])
            | (refine' wpPlan_skip rfl (by rfl) ?_
               simp only [List.getElem_toArray, List.getElem_cons_zero, List.getElem_cons_succ, Act.put, List.setIfInBounds_toArray, List.set_cons_zero, List.set_cons_succ])
            | (refine' wpPlan_skipHeld rfl (by rfl) ?_
               simp only [List.getElem_toArray, List.getElem_cons_zero, List.getElem_cons_succ, Act.put, List.setIfInBounds_toArray, List.set_cons_zero, List.set_cons_succ]))
          refine wpPlan_end ?_
          simp only [wpSegs, List.drop_succ_cons, List.drop_zero]
          have HI2 := Lib.hid (HI.out.trans fd1)
          go_wp2_with fail
          go_roundw
          case rel => exact ⟨j + 1, by omega, by go_num, HI2⟩
          case measure => simp [intOf]; omega
      · obtain ⟨m, hm0⟩ : ∃ m, j = m + 1 := ⟨j - 1, by omega⟩
        obtain ⟨Y, y0, y1, hpv⟩ := hprev m hm0
        obtain ⟨Y1, Y2⟩ := Y
        simp only at y0 y1
        unfold kV at hpv
        have HPV := Lib.hid hpv
        have Q := Lib.hid (And.intro x0 (And.intro x1 (And.intro s0a (And.intro s0b (And.intro y0 (And.intro y1 trivial))))))
        have gz : (0 : Int) < (j : Int) := by omega
        have gd : decide (0 < j) = true := by simp; omega
        have W1 : IntKind.i64.wrap ((j : Int) - 1) = (m : Int) := by rw [IntWalk.i64_in _ (by omega)]; omega
        have m0 : (0 : Int) ≤ (m : Int) := by omega
        have ml : (m : Int) < (L.length : Int) := by omega
        clear hprev hm0 hpv y0 y1
        by_cases hjn : j < N
        · have i1 : (j : Int) < (N : Int) := by omega
          rw [decide_eq_true hjn] at HLS
          clear x0 x1 s0a s0b
          go_wp2_with fail
          have fd0 : Fr Non wr wr.drew := (Fr.refl _ _).drew
          refine wp_draw [((fun y => Fr Non wr y), [(.free, 0), (.free, 1), (.free, 2), (.free, 3), (.free, 4), (.free, 5), (.held, 6), (.held, 7), (.kept, 8), (.free, 9), (.free, 10), (.free, 11), (.free, 12), (.free, 13), (.free, 14), (.free, 15), (.free, 16), (.free, 17), (.held, 18), (.free, 19), (.free, 20), (.free, 21), (.held, 22), (.kept, 23), (.free, 24), (.free, 25), (.free, 26)])] 27 (by kernel_rfl) (by kernel_rfl) (fun _ _ _ _ _ h => h) ⟨fd0, ?_⟩
          generalize wr.drew = wd0 at fd0 ⊢
          repeat (first
            | (refine' wpPlan_free (v := _) rfl (by rfl) ?_ ?_
               rotate_left
               · (intro w'; skip; go_simp; try rfl)
               simp only [List.getElem_toArray, List.getElem_cons_zero, List.getElem_cons_succ, Act.put, List.setIfInBounds_toArray, List.set_cons_zero, List.set_cons_succ])
            | (refine' wpPlan_held (v := _) rfl (by rfl) ?_ ?_
               rotate_left
               · (intro w' hS; skip; (have q0 := hS.cell Q.out.1 id; have q1 := hS.cell Q.out.2.1 id; have q2 := hS.cell Q.out.2.2.1 id; have q3 := hS.cell Q.out.2.2.2.1 id; have q4 := hS.cell Q.out.2.2.2.2.1 id; have q5 := hS.cell Q.out.2.2.2.2.2.1 id; clear hS); go_simp; try rfl)
               simp only [List.getElem_toArray, List.getElem_cons_zero, List.getElem_cons_succ, Act.put, List.setIfInBounds_toArray, List.set_cons_zero, List.set_cons_succ])
            | (refine' wpPlan_skip rfl (by rfl) ?_
               simp only [List.getElem_toArray, List.getElem_cons_zero, List.getElem_cons_succ, Act.put, List.setIfInBounds_toArray, List.set_cons_zero, List.set_cons_succ])
            | (refine' wpPlan_skipHeld rfl (by rfl) ?_
               simp only [List.getElem_toArray, List.getElem_cons_zero, List.getElem_cons_succ, Act.put, List.setIfInBounds_toArray, List.set_cons_zero, List.set_cons_succ]))
          refine' wpPlan_kept rfl ?_
          intro K hK
          go_simp
          refine (HLS.out _).mono ?_
          rintro e w5 ⟨rfl, f5⟩
          go_simp
          have fd1 := fd0.trans f5.fr
          refine hK _ _ ⟨fd1, ?_⟩
          clear hK K fd0 f5
          repeat (first
            | (refine' wpPlan_free (v := _) rfl (by rfl) ?_ ?_
               rotate_left
               · (intro w'; skip; go_simp; try rfl)
               simp only [List.getElem_toArray, List.getElem_cons_zero, List.getElem_cons_succ, Act.put, List.setIfInBounds_toArray, List.set_cons_zero, List.set_cons_succ])
            | (refine' wpPlan_held (v := _) rfl (by rfl) ?_ ?_
               rotate_left
               · (intro w' hS; skip; (have q0 := hS.cell Q.out.1 id; have q1 := hS.cell Q.out.2.1 id; have q2 := hS.cell Q.out.2.2.1 id; have q3 := hS.cell Q.out.2.2.2.1 id; have q4 := hS.cell Q.out.2.2.2.2.1 id; have q5 := hS.cell Q.out.2.2.2.2.2.1 id; clear hS); go_simp; try rfl)
               simp only [List.getElem_toArray, List.getElem_cons_zero, List.getElem_cons_succ, Act.put, List.setIfInBounds_toArray, List.set_cons_zero, List.set_cons_succ])
            | (refine' wpPlan_skip rfl (by rfl) ?_
               simp only [List.getElem_toArray, List.getElem_cons_zero, List.getElem_cons_succ, Act.put, List.setIfInBounds_toArray, List.set_cons_zero, List.set_cons_succ])
            | (refine' wpPlan_skipHeld rfl (by rfl) ?_
               simp only [List.getElem_toArray, List.getElem_cons_zero, List.getElem_cons_succ, Act.put, List.setIfInBounds_toArray, List.set_cons_zero, List.set_cons_succ]))
          refine' wpPlan_kept rfl ?_
          intro K hK
          go_simp
          refine (HPV.out _).mono ?_
          rintro e w6 ⟨rfl, f6⟩
          go_simp
          have fd2 := fd1.trans f6.fr
          refine hK _ _ ⟨fd2, ?_⟩
          clear hK K fd1 f6
          repeat (first
            | (refine' wpPlan_free (v := _) rfl (by rfl) ?_ ?_
               rotate_left
               · (intro w'; skip; go_simp; try rfl)
               simp only [List.getElem_toArray, List.getElem_cons_zero, List.getElem_cons_succ, Act.put, List.setIfInBounds_toArray, List.set_cons_zero, List.set_cons_succ])
            | (refine' wpPlan_held (v := _) rfl (by rfl) ?_ ?_
               rotate_left
               · (intro w' hS; skip; (have q0 := hS.cell Q.out.1 id; have q1 := hS.cell Q.out.2.1 id; have q2 := hS.cell Q.out.2.2.1 id; have q3 := hS.cell Q.out.2.2.2.1 id; have q4 := hS.cell Q.out.2.2.2.2.1 id; have q5 := hS.cell Q.out.2.2.2.2.2.1 id; clear hS); go_simp; try rfl)
               simp only [List.getElem_toArray, List.getElem_cons_zero, List.getElem_cons_succ, Act.put, List.setIfInBounds_toArray, List.set_cons_zero, List.set_cons_succ])
            | (refine' wpPlan_skip rfl (by rfl) ?_
               simp only [List.getElem_toArray, List.getElem_cons_zero, List.getElem_cons_succ, Act.put, List.setIfInBounds_toArray, List.set_cons_zero, List.set_cons_succ])
            | (refine' wpPlan_skipHeld rfl (by rfl) ?_
               simp only [List.getElem_toArray, List.getElem_cons_zero, List.getElem_cons_succ, Act.put, List.setIfInBounds_toArray, List.set_cons_zero, List.set_cons_succ]))
          refine wpPlan_end ?_
          simp only [wpSegs, List.drop_succ_cons, List.drop_zero]
          have HI2 := Lib.hid (HI.out.trans fd2)
          go_wp2_with fail
          go_roundw
          case rel => exact ⟨j + 1, by omega, by go_num, HI2⟩
          case measure => simp [intOf]; omega
        · have i1 : ¬ (j : Int) < (N : Int) := by omega
          rw [decide_eq_false hjn] at HLS
          clear x0 x1 s0a s0b
          go_wp2_with fail
          have fd0 : Fr Non wr wr.drew := (Fr.refl _ _).drew
          refine wp_draw [((fun y => Fr Non wr y), [(.free, 0), (.free, 1), (.free, 2), (.free, 3), (.free, 4), (.free, 5), (.held, 6), (.held, 7), (.kept, 8), (.free, 9), (.free, 10), (.free, 11), (.free, 12), (.free, 13), (.free, 14), (.free, 15), (.free, 16), (.free, 17), (.held, 18), (.free, 19), (.free, 20), (.free, 21), (.held, 22), (.kept, 23), (.free, 24), (.free, 25), (.free, 26)])] 27 (by kernel_rfl) (by kernel_rfl) (fun _ _ _ _ _ h => h) ⟨fd0, ?_⟩
          generalize wr.drew = wd0 at fd0 ⊢
          repeat (first
            | (refine' wpPlan_free (v := _) rfl (by rfl) ?_ ?_
               rotate_left
               · (intro w'; skip; go_simp; try rfl)
               simp only [List.getElem_toArray, List.getElem_cons_zero, List.getElem_cons_succ, Act.put, List.setIfInBounds_toArray, List.set_cons_zero, List.set_cons_succ])
            | (refine' wpPlan_held (v := _) rfl (by rfl) ?_ ?_
               rotate_left
               · (intro w' hS; skip; (have q0 := hS.cell Q.out.1 id; have q1 := hS.cell Q.out.2.1 id; have q2 := hS.cell Q.out.2.2.1 id; have q3 := hS.cell Q.out.2.2.2.1 id; have q4 := hS.cell Q.out.2.2.2.2.1 id; have q5 := hS.cell Q.out.2.2.2.2.2.1 id; clear hS); go_simp; try rfl)
               simp only [List.getElem_toArray, List.getElem_cons_zero, List.getElem_cons_succ, Act.put, List.setIfInBounds_toArray, List.set_cons_zero, List.set_cons_succ])
            | (refine' wpPlan_skip rfl (by rfl) ?_
               simp only [List.getElem_toArray, List.getElem_cons_zero, List.getElem_cons_succ, Act.put, List.setIfInBounds_toArray, List.set_cons_zero, List.set_cons_succ])
            | (refine' wpPlan_skipHeld rfl (by rfl) ?_
               simp only [List.getElem_toArray, List.getElem_cons_zero, List.getElem_cons_succ, Act.put, List.setIfInBounds_toArray, List.set_cons_zero, List.set_cons_succ]))
          refine' wpPlan_kept rfl ?_
          intro K hK
          go_simp
          refine (HLS.out _).mono ?_
          rintro e w5 ⟨rfl, f5⟩
          go_simp
          have fd1 := fd0.trans f5.fr
          refine hK _ _ ⟨fd1, ?_⟩
          clear hK K fd0 f5
          repeat (first
            | (refine' wpPlan_free (v := _) rfl (by rfl) ?_ ?_
               rotate_left
               · (intro w'; skip; go_simp; try rfl)
               simp only [List.getElem_toArray, List.getElem_cons_zero, List.getElem_cons_succ, Act.put, List.setIfInBounds_toArray, List.set_cons_zero, List.set_cons_succ])
            | (refine' wpPlan_held (v := _) rfl (by rfl) ?_ ?_
               rotate_left
               · (intro w' hS; skip; (have q0 := hS.cell Q.out.1 id; have q1 := hS.cell Q.out.2.1 id; have q2 := hS.cell Q.out.2.2.1 id; have q3 := hS.cell Q.out.2.2.2.1 id; have q4 := hS.cell Q.out.2.2.2.2.1 id; have q5 := hS.cell Q.out.2.2.2.2.2.1 id; clear hS); go_simp; try rfl)
               simp only [List.getElem_toArray, List.getElem_cons_zero, List.getElem_cons_succ, Act.put, List.setIfInBounds_toArray, List.set_cons_zero, List.set_cons_succ])
            | (refine' wpPlan_skip rfl (by rfl) ?_
               simp only [List.getElem_toArray, List.getElem_cons_zero, List.getElem_cons_succ, Act.put, List.setIfInBounds_toArray, List.set_cons_zero, List.set_cons_succ])
            | (refine' wpPlan_skipHeld rfl (by rfl) ?_
               simp only [List.getElem_toArray, List.getElem_cons_zero, List.getElem_cons_succ, Act.put, List.setIfInBounds_toArray, List.set_cons_zero, List.set_cons_succ]))
          refine' wpPlan_kept rfl ?_
          intro K hK
          go_simp
          refine (HPV.out _).mono ?_
          rintro e w6 ⟨rfl, f6⟩
          go_simp
          have fd2 := fd1.trans f6.fr
          refine hK _ _ ⟨fd2, ?_⟩
          clear hK K fd1 f6
          repeat (first
            | (refine' wpPlan_free (v := _) rfl (by rfl) ?_ ?_
               rotate_left
               · (intro w'; skip; go_simp; try rfl)
               simp only [List.getElem_toArray, List.getElem_cons_zero, List.getElem_cons_succ, Act.put, List.setIfInBounds_toArray, List.set_cons_zero, List.set_cons_succ])
            | (refine' wpPlan_held (v := _) rfl (by rfl) ?_ ?_
               rotate_left
               · (intro w' hS; skip; (have q0 := hS.cell Q.out.1 id; have q1 := hS.cell Q.out.2.1 id; have q2 := hS.cell Q.out.2.2.1 id; have q3 := hS.cell Q.out.2.2.2.1 id; have q4 := hS.cell Q.out.2.2.2.2.1 id; have q5 := hS.cell Q.out.2.2.2.2.2.1 id; clear hS); go_simp; try rfl)
               simp only [List.getElem_toArray, List.getElem_cons_zero, List.getElem_cons_succ, Act.put, List.setIfInBounds_toArray, List.set_cons_zero, List.set_cons_succ])
            | (refine' wpPlan_skip rfl (by rfl) ?_
               simp only [List.getElem_toArray, List.getElem_cons_zero, List.getElem_cons_succ, Act.put, List.setIfInBounds_toArray, List.set_cons_zero, List.set_cons_succ])
            | (refine' wpPlan_skipHeld rfl (by rfl) ?_
               simp only [List.getElem_toArray, List.getElem_cons_zero, List.getElem_cons_succ, Act.put, List.setIfInBounds_toArray, List.set_cons_zero, List.set_cons_succ]))
          refine wpPlan_end ?_
          simp only [wpSegs, List.drop_succ_cons, List.drop_zero]
          have HI2 := Lib.hid (HI.out.trans fd2)
          go_wp2_with fail
          go_roundw
          case rel => exact ⟨j + 1, by omega, by go_num, HI2⟩
          case measure => simp [intOf]; omega
    · obtain rfl : j = L.length := by omega
      have bK5 := HI.out.heap BK4.out id
      have s0a : wr.cell? ⟨w.heap.size, 0, none⟩ = some (.int .i64 k1) := by rw [(box_facts bK5).1]; rfl
      have s0b : wr.cell? ⟨w.heap.size, 1, none⟩ = some (.int .u64 k2) := by rw [(box_facts bK5).1]; rfl
      have FE := Lib.hid (F4.out.trans HI.out)
      clear bK5
      by_cases hnl : N < L.length
      · obtain ⟨b', o, rfl, x0, x1⟩ := keys_rd (HS4.out.stay HI.out) N hnl
        have E := Lib.hid (fun w => eq_key L[N] (k1, k2) w)
        have ht : decide (L[N] = (k1, k2)) = T := by
          have := TA.out
          by_cases he : L[N] = (k1, k2)
          · rw [decide_eq_true he]; exact (this.2 ⟨hnl, he⟩).symm
          · rw [decide_eq_false he]
            cases T with
            | false => rfl
            | true => obtain ⟨_, h2⟩ := this.1 rfl; exact absurd h2 he
        rw [ht] at E
        obtain ⟨X, hX⟩ : ∃ X, L[N] = X := ⟨_, rfl⟩
        rw [hX] at x0 x1 E
        obtain ⟨X1, X2⟩ := X
        simp only at x0 x1
        unfold kV at E
        have e1 := E.out
        have i1 : (N : Int) < (L.length : Int) := by omega
        have i0 : (0 : Int) ≤ (N : Int) := by omega
        have Q := Lib.hid (And.intro x0 (And.intro x1 (And.intro s0a s0b)))
        clear hX ht x0 x1 s0a s0b E
        go_wp2_with fail
        have fd0 : Fr Non wr wr.drew := (Fr.refl _ _).drew
        refine wp_draw [((fun y => Fr Non wr y), [(.free, 0), (.free, 1), (.free, 2), (.free, 3), (.free, 4), (.free, 5), (.free, 6), (.free, 7), (.free, 8), (.held, 9), (.held, 10), (.free, 11), (.free, 12), (.free, 13), (.free, 14)])] 15 (by kernel_rfl) (by kernel_rfl) (fun _ _ _ _ _ h => h) ⟨fd0, ?_⟩
        generalize wr.drew = wd0 at fd0 ⊢
        repeat (first
          | (refine' wpPlan_free (v := _) rfl (by rfl) ?_ ?_
             rotate_left
             · (intro w'; skip; go_simp; try rfl)
             simp only [List.getElem_toArray, List.getElem_cons_zero, List.getElem_cons_succ, Act.put, List.setIfInBounds_toArray, List.set_cons_zero, List.set_cons_succ])
          | (refine' wpPlan_held (v := _) rfl (by rfl) ?_ ?_
             rotate_left
             · (intro w' hS; skip; (have q0 := hS.cell Q.out.1 id; have q1 := hS.cell Q.out.2.1 id; have q2 := hS.cell Q.out.2.2.1 id; have q3 := hS.cell Q.out.2.2.2 id; clear hS); go_simp; try rfl)
             simp only [List.getElem_toArray, List.getElem_cons_zero, List.getElem_cons_succ, Act.put, List.setIfInBounds_toArray, List.set_cons_zero, List.set_cons_succ])
          | (refine' wpPlan_skip rfl (by rfl) ?_
             simp only [List.getElem_toArray, List.getElem_cons_zero, List.getElem_cons_succ, Act.put, List.setIfInBounds_toArray, List.set_cons_zero, List.set_cons_succ])
          | (refine' wpPlan_skipHeld rfl (by rfl) ?_
             simp only [List.getElem_toArray, List.getElem_cons_zero, List.getElem_cons_succ, Act.put, List.setIfInBounds_toArray, List.set_cons_zero, List.set_cons_succ]))
        refine wpPlan_end ?_
        simp only [wpSegs, List.drop_succ_cons, List.drop_zero]
        go_wp2_with fail
        go_ret
        exact ⟨by trivial, FE.out.trans fd0⟩
      · have hT : T = false := by
          cases T with
          | false => rfl
          | true => obtain ⟨h1, _⟩ := TA.out.1 rfl; exact absurd h1 hnl
        subst hT
        have i1 : ¬ (N : Int) < (L.length : Int) := by omega
        go_wp2_with fail
        have fd0 : Fr Non wr wr.drew := (Fr.refl _ _).drew
        refine wp_draw [((fun y => Fr Non wr y), [(.free, 0), (.free, 1), (.free, 2), (.free, 3), (.free, 4), (.free, 5), (.free, 6), (.free, 7), (.free, 8), (.held, 9), (.held, 10), (.free, 11), (.free, 12), (.free, 13), (.free, 14)])] 15 (by kernel_rfl) (by kernel_rfl) (fun _ _ _ _ _ h => h) ⟨fd0, ?_⟩
        generalize wr.drew = wd0 at fd0 ⊢
        repeat (first
          | (refine' wpPlan_free (v := _) rfl (by rfl) ?_ ?_
             rotate_left
             · (intro w'; skip; go_simp; try rfl)
             simp only [List.getElem_toArray, List.getElem_cons_zero, List.getElem_cons_succ, Act.put, List.setIfInBounds_toArray, List.set_cons_zero, List.set_cons_succ])
          | (refine' wpPlan_held (v := _) rfl (by rfl) ?_ ?_
             rotate_left
             · (intro w' hS; skip; skip; go_simp; try rfl)
             simp only [List.getElem_toArray, List.getElem_cons_zero, List.getElem_cons_succ, Act.put, List.setIfInBounds_toArray, List.set_cons_zero, List.set_cons_succ])
          | (refine' wpPlan_skip rfl (by rfl) ?_
             simp only [List.getElem_toArray, List.getElem_cons_zero, List.getElem_cons_succ, Act.put, List.setIfInBounds_toArray, List.set_cons_zero, List.set_cons_succ])
          | (refine' wpPlan_skipHeld rfl (by rfl) ?_
             simp only [List.getElem_toArray, List.getElem_cons_zero, List.getElem_cons_succ, Act.put, List.setIfInBounds_toArray, List.set_cons_zero, List.set_cons_succ]))
        refine wpPlan_end ?_
        simp only [wpSegs, List.drop_succ_cons, List.drop_zero]
        go_wp2_with fail
        go_ret
        exact ⟨by trivial, FE.out.trans fd0⟩
end Go.Proofs.YthjfnpojelfekaaDoor
