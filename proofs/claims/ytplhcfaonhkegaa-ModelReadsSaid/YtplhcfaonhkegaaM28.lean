/-
  Model: ModelReads.
-/
import Derived.Test.YtplhcfaonhkegaaM24
import Derived.Test.YtplhcfaonhkegaaM27
namespace Go.Proofs.Ytplhcfaonhkegaa
open Go.RowKit Go.Maps

theorem items_max {S : Nat → Prop} {w : World} {a : Option Addr} {c : Nat} {l : List MItem} (h : Sl kItem S w (.slice a l.length c) l) : ∀ x ∈ l, x.1 ≤ 18446744073709551615 := by
  intro x hx
  obtain ⟨i, hi, rfl⟩ := List.getElem_of_mem hx
  obtain ⟨_, _, _, _, _, _, _, _, _, _, _, h1⟩ := item_at h i hi
  exact h1

set_option maxRecDepth 100000 in
set_option maxHeartbeats 4000000 in
theorem reads_law {w : World} {vl : Value} {l : List MItem} (hl : Sl kItem All w vl l) (low high : Int) (hlow : 0 ≤ low ∧ low ≤ 18446744073709551615) :
    Calls Try.prog 6 #[vl, .int .u64 low, .int .u64 high] w fun e w' => e = .returned (.bool true) ∧ Fr Non w w' := by
  obtain ⟨a1, n1, rfl, _⟩ := hl.frm
  have HL := Lib.hid hl
  have hl200 : (l.take 200).length ≤ 200 := by rw [List.length_take]; omega
  obtain ⟨L, hL⟩ : ∃ L, l.take 200 = L := ⟨_, rfl⟩
  rw [hL] at hl200
  have HLL := Lib.hid hL
  clear hl hL
  have hck := fun (w : World) (a : Option Addr) (n : Nat) (h : Sl kItem All w (.slice a L.length n) L) => rcheck_any h
  by_cases h4 : mOk none L = true
  rotate_left
  · rw [show mCheck L = 103 from if_neg h4] at hck
    have HCK := Lib.hid hck
    clear hck h4
    go_enter Try.func6, Try.ntmps6
    go_wp2_with fail
    refine (awake_any _).mono ?_
    rintro e w1 ⟨rfl, f1⟩
    go_wp2_with fail
    refine (few_any (HL.out.stay f1)).mono ?_
    rintro e w2 ⟨x1, y1, rfl, h1, hw⟩
    obtain rfl := hw.symm
    rw [HLL.out] at h1 ⊢
    have H1 := Lib.hid h1
    clear h1
    go_wp2_with fail
    refine (HCK.out _ _ _ H1.out).mono ?_
    rintro e w3 ⟨rfl, f3⟩
    go_wp2_with fail
    go_ret
    exact ⟨by trivial, f1.trans f3⟩
  rw [show mCheck L = 0 from if_pos h4] at hck
  have HCK := Lib.hid hck
  have hd4 := fun (w : World) (a : Option Addr) (n : Nat) (h : Sl kItem All w (.slice a L.length n) L) => do_any h (by omega) (4, low, 0, []) (ca := none) (cc := 0) (.inl ⟨rfl, rfl⟩) hlow
  have hd5 := fun (w : World) (a : Option Addr) (n : Nat) (h : Sl kItem All w (.slice a L.length n) L) => do_any h (by omega) (5, low, high, []) (ca := none) (cc := 0) (.inl ⟨rfl, rfl⟩) hlow
  rw [mDo_ok h4 (by simp [mCallOk]), show mDone L (4, low, 0, []) = (L, mAsked L (4, low, 0, [])) by simp [mDone]] at hd4
  rw [mDo_ok h4 (by simp [mCallOk]), show mDone L (5, low, high, []) = (L, mAsked L (5, low, high, [])) by simp [mDone]] at hd5
  obtain ⟨be, I, hB, hB0, hB1⟩ := asked5_is L low high
  rw [hB] at hd5
  have HD4 := Lib.hid hd4
  have HD5 := Lib.hid hd5
  have HB0 := Lib.hid hB0
  have HB1 := Lib.hid hB1
  have HOK := Lib.hid h4
  clear hck hd4 hd5 hB hB0 hB1 h4
  go_enter Try.func6, Try.ntmps6
  go_wp2_with fail
  refine (awake_any _).mono ?_
  rintro e w1 ⟨rfl, f1⟩
  go_wp2_with fail
  refine (few_any (HL.out.stay f1)).mono ?_
  rintro e w2 ⟨x1, y1, rfl, h1, hw⟩
  obtain rfl := hw.symm
  rw [HLL.out] at h1 ⊢
  obtain ⟨ae, ak, ab, af, hA, hA0, hA1⟩ := asked4_is HOK.out low (items_max h1)
  have hd4 := HD4.out
  rw [hA] at hd4
  have HD4 := Lib.hid hd4
  have HA0 := Lib.hid hA0
  have HA1 := Lib.hid hA1
  have H1 := Lib.hid h1
  clear h1 hd4 hA hA0 hA1
  go_wp2_with fail
  refine (HCK.out _ _ _ H1.out).mono ?_
  rintro e w3 ⟨rfl, f3⟩
  go_wp2_with fail
  refine (HD4.out _ _ _ (H1.out.stay f3)).mono ?_
  rintro e w4 ⟨x4, y4, rfl, hx4, hy4, f4⟩
  obtain ⟨u4, v4, rfl, hu4, hv4, _⟩ := hy4
  obtain ⟨p1, p3, rfl, _⟩ := hu4.frm
  obtain ⟨p4, p6, rfl, _⟩ := hv4.frm
  obtain ⟨xa4, xc4, rfl⟩ := hx4.form
  simp only [resCells, refCells, r0, List.cons_append, List.nil_append, List.length_nil] at hu4 hv4 ⊢
  have fy4 : Fr Non w4 (w4.alloc (.cells #[.int .i64 ae, .int .u64 ak, .slice p1 ab.length p3, .slice p4 0 p6, .int .i64 0, .int .i64 0, .int .u64 0, .int .i64 0, .int .u64 0, .int .i64 0, .int .i64 0, .int .u64 0, .int .i64 0, .int .u64 0, .bool af] 52)) := (Fr.refl _ _).alloc _
  have bP := alloc_at w4 (.cells #[.int .i64 ae, .int .u64 ak, .slice p1 ab.length p3, .slice p4 0 p6, .int .i64 0, .int .i64 0, .int .u64 0, .int .i64 0, .int .u64 0, .int .i64 0, .int .i64 0, .int .u64 0, .int .i64 0, .int .u64 0, .bool af] 52)
  obtain ⟨P, hP⟩ : ∃ P, w4.heap.size = P := ⟨_, rfl⟩
  rw [hP] at bP
  have H5 := Lib.hid (H1.out.stay ((f3.trans f4).trans fy4))
  have HU4 := Lib.hid (hu4.stay fy4)
  have f5 := (f3.trans f4).trans fy4
  clear hx4 hu4 hv4
  go_wp2_with fail
  generalize (w4.alloc (.cells #[.int .i64 ae, .int .u64 ak, .slice p1 ab.length p3, .slice p4 0 p6, .int .i64 0, .int .i64 0, .int .u64 0, .int .i64 0, .int .u64 0, .int .i64 0, .int .i64 0, .int .u64 0, .int .i64 0, .int .u64 0, .bool af] 52)) = w5 at fy4 bP H5 HU4 f5 ⊢
  refine (HD5.out _ _ _ H5.out).mono ?_
  rintro e w6 ⟨x6, y6, rfl, hx6, hy6, f6⟩
  obtain ⟨u6, v6, rfl, hu6, hv6, _⟩ := hy6
  obtain ⟨q1, q3, rfl, _⟩ := hu6.frm
  obtain ⟨ia, ic, rfl, _⟩ := hv6.frm
  obtain ⟨xa6, xc6, rfl⟩ := hx6.form
  simp only [resCells, refCells, r0, List.cons_append, List.nil_append, List.length_nil] at hu6 hv6 ⊢
  have fy6 : Fr Non w6 (w6.alloc (.cells #[.int .i64 be, .int .u64 0, .slice q1 0 q3, .slice ia I.length ic, .int .i64 0, .int .i64 0, .int .u64 0, .int .i64 0, .int .u64 0, .int .i64 0, .int .i64 0, .int .u64 0, .int .i64 0, .int .u64 0, .bool false] 52)) := (Fr.refl _ _).alloc _
  have bQ := alloc_at w6 (.cells #[.int .i64 be, .int .u64 0, .slice q1 0 q3, .slice ia I.length ic, .int .i64 0, .int .i64 0, .int .u64 0, .int .i64 0, .int .u64 0, .int .i64 0, .int .i64 0, .int .u64 0, .int .i64 0, .int .u64 0, .bool false] 52)
  obtain ⟨Q, hQ⟩ : ∃ Q, w6.heap.size = Q := ⟨_, rfl⟩
  rw [hQ] at bQ
  have f67 := f6.trans fy6
  have bP7 := f67.heap bP id
  have H7 := Lib.hid (H5.out.stay f67)
  have HU7 := Lib.hid (HU4.out.stay f67)
  have HI7 := Lib.hid (hv6.stay fy6)
  have fw7 := f1.trans (f5.trans f67)
  clear hx6 hu6 hv6 bP
  go_wp2_with fail
  generalize (w6.alloc (.cells #[.int .i64 be, .int .u64 0, .slice q1 0 q3, .slice ia I.length ic, .int .i64 0, .int .i64 0, .int .u64 0, .int .i64 0, .int .u64 0, .int .i64 0, .int .i64 0, .int .u64 0, .int .i64 0, .int .u64 0, .bool false] 52)) = w7 at fy6 bQ bP7 H7 HU7 HI7 fw7 f67 ⊢
  clear fy6 f67 hP hQ
  go_loopw [13, 14] (fun n i wr => ∃ (j : Nat), j ≤ L.length ∧ i = .int .i64 j ∧ n = .int .i64 (mCnt low high L j) ∧ Hid (Fr Non w7 wr)) (fun _ i _ => L.length - (intOf i).toNat)
  case atStart => exact ⟨0, by omega, rfl, rfl, Fr.refl _ _⟩
  case round =>
    obtain ⟨j, hj, rfl, rfl, HI⟩ := hrel
    have hcl := mCnt_le low high L j
    have f8 := HI.out
    have bP8 := f8.heap bP7 id
    have bQ8 := f8.heap bQ id
    by_cases hlt : j < L.length
    · obtain ⟨B, O, u, rfl, _, _, c0, c1, hu, hul, k0, k1⟩ := item_at (H7.out.stay f8) j hlt
      have hmem : L[j] ∈ L := List.getElem_mem hlt
      have HX1 := Lib.hid (HA0.out L[j] hmem)
      have HX2 := Lib.hid (fun h => mCnt_out (low := low) (high := high) hlt h)
      have HX3 := Lib.hid (fun h => mCnt_in (low := low) (high := high) hlt h)
      obtain ⟨x, hx⟩ : ∃ x, L[j] = x := ⟨_, rfl⟩
      rw [hx] at c0 hu hul k0 k1 HX1 HX2 HX3
      clear hx hmem
      obtain ⟨ua, uc, rfl, _⟩ := hu.frm
      have HUX := Lib.hid hu
      have j0 : (0 : Int) ≤ (j : Int) := by omega
      have j1 : (j : Int) < (L.length : Int) := by omega
      obtain ⟨qP, zP⟩ := box_facts bP8
      obtain ⟨qQ, zQ⟩ := box_facts bQ8
      clear hu bP7 bQ
      obtain ⟨n, hn⟩ : ∃ n, mCnt low high L j = n := ⟨_, rfl⟩
      rw [hn] at HX2 HX3 hcl ⊢
      by_cases h1 : low ≤ x.1
      rotate_left
      · have HN := Lib.hid h1
        go_wp2_with fail
        go_roundw
        case rel => exact ⟨j + 1, by omega, by go_num, by rw [HX2.out (fun h => HN.out h.1)], f8⟩
        case measure => simp [intOf]; omega
      obtain ⟨ha, hak⟩ := HX1.out h1
      subst ha
      have nk : ¬ x.1 < ak := by omega
      clear hak
      have nl : ¬ x.1 < low := by omega
      by_cases h2 : x.1 ≤ high
      rotate_left
      · have n2 : high < x.1 := by omega
        have HN := Lib.hid h2
        clear h2
        go_wp2_with fail
        go_roundw
        case rel => exact ⟨j + 1, by omega, by go_num, by rw [HX2.out (fun h => HN.out h.2)], f8⟩
        case measure => simp [intOf]; omega
      have n2 : ¬ high < x.1 := by omega
      obtain ⟨hc1, hc2, hc3⟩ := HX3.out ⟨h1, h2⟩
      have HC1 := Lib.hid hc1
      clear hc1 h2
      by_cases hb : be = 0
      rotate_left
      · have G := Lib.hid (show (be == 0) = false by simpa using hb)
        clear hb hc2 hc3
        go_wp2_with fail
        refine wp_draw [((fun w' => w' = wr.drew), [(.free, 0), (.held, 1), (.free, 2), (.free, 3), (.free, 4), (.free, 5), (.held, 6), (.free, 7), (.free, 8), (.free, 9), (.free, 10), (.held, 11), (.free, 12), (.free, 13), (.free, 14), (.held, 15), (.free, 16), (.free, 17), (.free, 18), (.free, 19), (.free, 20), (.held, 21), (.free, 22), (.free, 23), (.free, 24), (.held, 25), (.held, 26), (.free, 27), (.free, 28), (.free, 29), (.free, 30), (.held, 31), (.held, 32), (.free, 33), (.free, 34), (.free, 35)])] 36 (by kernel_rfl) (by kernel_rfl) (fun _ _ _ _ _ h => h) ⟨rfl, ?_⟩
        repeat (first
          | (refine' wpPlan_free (v := _) rfl (by rfl) ?_ ?_
             rotate_left
             · (intro w'; have g := G.out; go_simp; try rfl)
             simp only [List.getElem_toArray, List.getElem_cons_zero, List.getElem_cons_succ, Act.put, List.setIfInBounds_toArray, List.set_cons_zero, List.set_cons_succ])
          | (refine' wpPlan_held (v := _) rfl (by rfl) ?_ ?_
             rotate_left
             · (intro w' hS; have g := G.out; subst hS; go_simp; try rfl)
             simp only [List.getElem_toArray, List.getElem_cons_zero, List.getElem_cons_succ, Act.put, List.setIfInBounds_toArray, List.set_cons_zero, List.set_cons_succ])
          | (refine' wpPlan_skip rfl (by rfl) ?_
             simp only [List.getElem_toArray, List.getElem_cons_zero, List.getElem_cons_succ, Act.put, List.setIfInBounds_toArray, List.set_cons_zero, List.set_cons_succ])
          | (refine' wpPlan_skipHeld rfl (by rfl) ?_
             simp only [List.getElem_toArray, List.getElem_cons_zero, List.getElem_cons_succ, Act.put, List.setIfInBounds_toArray, List.set_cons_zero, List.set_cons_succ]))
        repeat (first
          | (refine' wpPlan_free (v := _) rfl (by rfl) ?_ ?_
             rotate_left
             · (intro w'; have g := G.out; go_simp; try rfl)
             simp only [List.getElem_toArray, List.getElem_cons_zero, List.getElem_cons_succ, Act.put, List.setIfInBounds_toArray, List.set_cons_zero, List.set_cons_succ])
          | (refine' wpPlan_held (v := _) rfl (by rfl) ?_ ?_
             rotate_left
             · (intro w' hS; have g := G.out; go_simp; try rfl)
             simp only [List.getElem_toArray, List.getElem_cons_zero, List.getElem_cons_succ, Act.put, List.setIfInBounds_toArray, List.set_cons_zero, List.set_cons_succ])
          | (refine' wpPlan_skip rfl (by rfl) ?_
             simp only [List.getElem_toArray, List.getElem_cons_zero, List.getElem_cons_succ, Act.put, List.setIfInBounds_toArray, List.set_cons_zero, List.set_cons_succ])
          | (refine' wpPlan_skipHeld rfl (by rfl) ?_
             simp only [List.getElem_toArray, List.getElem_cons_zero, List.getElem_cons_succ, Act.put, List.setIfInBounds_toArray, List.set_cons_zero, List.set_cons_succ]))
        refine wpPlan_end ?_
        simp only [wpSegs, List.drop_succ_cons, List.drop_zero]
        go_wp2_with fail
        go_roundw
        case rel => exact ⟨j + 1, by omega, by go_num, by rw [HC1.out]; rfl, f8.drew⟩
        case measure => simp [intOf]; omega
      obtain ⟨hI, hI64⟩ := HB0.out hb
      subst hb
      rw [← hI] at hc2 hc3
      have hI8 := HI7.out.stay f8
      obtain ⟨B2, O2, u2, rfl, -, -, d0, d1, hu2, -, -, -⟩ := item_at hI8 n hc2
      rw [hc3 hc2] at d0 hu2
      obtain ⟨ub, ud, rfl, _⟩ := hu2.frm
      have cv1 := conv_src (sl_src (HUX.out.stay ((Fr.refl Non wr).drew)))
      have cv2 := conv_src (sl_src (hu2.stay ((Fr.refl Non wr).drew)))
      have m0 : (0 : Int) ≤ (n : Int) := by omega
      have m1 : (n : Int) < (I.length : Int) := by omega
      have m2 : ¬ (I.length : Int) ≤ (n : Int) := by omega
      have G := Lib.hid (show decide (I.length ≤ n) = false from decide_eq_false (by omega))
      have G2 := Lib.hid (decide_eq_false m2)
      clear hI hc2 hc3 hI8 hu2
      go_wp2_with fail
      refine wp_draw [((fun w' => w' = wr.drew), [(.free, 0), (.held, 1), (.free, 2), (.free, 3), (.free, 4), (.free, 5), (.held, 6), (.free, 7), (.free, 8), (.free, 9), (.free, 10), (.held, 11), (.free, 12), (.free, 13), (.free, 14), (.held, 15), (.free, 16), (.free, 17), (.free, 18), (.free, 19), (.free, 20), (.held, 21), (.free, 22), (.free, 23), (.free, 24), (.held, 25), (.held, 26), (.free, 27), (.free, 28), (.free, 29), (.free, 30), (.held, 31), (.held, 32), (.free, 33), (.free, 34), (.free, 35)])] 36 (by kernel_rfl) (by kernel_rfl) (fun _ _ _ _ _ h => h) ⟨rfl, ?_⟩
      repeat (first
        | (refine' wpPlan_free (v := _) rfl (by rfl) ?_ ?_
           rotate_left
           · (intro w'; have g := G.out; have g2 := G2.out; go_simp; try rfl)
           simp only [List.getElem_toArray, List.getElem_cons_zero, List.getElem_cons_succ, Act.put, List.setIfInBounds_toArray, List.set_cons_zero, List.set_cons_succ])
        | (refine' wpPlan_held (v := _) rfl (by rfl) ?_ ?_
           rotate_left
           · (intro w' hS; have g := G.out; have g2 := G2.out; subst hS; go_simp; try rfl)
           simp only [List.getElem_toArray, List.getElem_cons_zero, List.getElem_cons_succ, Act.put, List.setIfInBounds_toArray, List.set_cons_zero, List.set_cons_succ])
        | (refine' wpPlan_skip rfl (by rfl) ?_
           simp only [List.getElem_toArray, List.getElem_cons_zero, List.getElem_cons_succ, Act.put, List.setIfInBounds_toArray, List.set_cons_zero, List.set_cons_succ])
        | (refine' wpPlan_skipHeld rfl (by rfl) ?_
           simp only [List.getElem_toArray, List.getElem_cons_zero, List.getElem_cons_succ, Act.put, List.setIfInBounds_toArray, List.set_cons_zero, List.set_cons_succ]))
      repeat (first
        | (refine' wpPlan_free (v := _) rfl (by rfl) ?_ ?_
           rotate_left
           · (intro w'; have g := G.out; have g2 := G2.out; go_simp; try rfl)
           simp only [List.getElem_toArray, List.getElem_cons_zero, List.getElem_cons_succ, Act.put, List.setIfInBounds_toArray, List.set_cons_zero, List.set_cons_succ])
        | (refine' wpPlan_held (v := _) rfl (by rfl) ?_ ?_
           rotate_left
           · (intro w' hS; have g := G.out; have g2 := G2.out; go_simp; try rfl)
           simp only [List.getElem_toArray, List.getElem_cons_zero, List.getElem_cons_succ, Act.put, List.setIfInBounds_toArray, List.set_cons_zero, List.set_cons_succ])
        | (refine' wpPlan_skip rfl (by rfl) ?_
           simp only [List.getElem_toArray, List.getElem_cons_zero, List.getElem_cons_succ, Act.put, List.setIfInBounds_toArray, List.set_cons_zero, List.set_cons_succ])
        | (refine' wpPlan_skipHeld rfl (by rfl) ?_
           simp only [List.getElem_toArray, List.getElem_cons_zero, List.getElem_cons_succ, Act.put, List.setIfInBounds_toArray, List.set_cons_zero, List.set_cons_succ]))
      refine wpPlan_end ?_
      simp only [wpSegs, List.drop_succ_cons, List.drop_zero]
      go_wp2_with fail
      go_roundw
      case rel => exact ⟨j + 1, by omega, by go_num, by rw [HC1.out]; rfl, f8.drew⟩
      case measure => simp [intOf]; omega
    · obtain rfl : j = L.length := by omega
      rw [mCnt_all]
      obtain ⟨qP, zP⟩ := box_facts bP8
      have hkey := fun (w : World) (h : Sl kItem All w (.slice x1 L.length y1) L) => rkey_any h ak
      obtain ⟨n, hn⟩ : ∃ n, (mBetween low high L).length = n := ⟨_, rfl⟩
      rw [hn]
      have HNN := Lib.hid hn
      clear hn hcl
      by_cases ha : ae = 0
      · obtain ⟨hk1, hk2, rfl⟩ := HA1.out ha
        subst ha
        rw [hk1] at hkey
        simp only [Option.getD_some, Option.isSome_some] at hkey
        have HKY := Lib.hid hkey
        have nl : ¬ ak < low := by omega
        clear hkey hk1 hk2
        go_wp2_with fail
        refine (HKY.out _ (H7.out.stay f8)).mono ?_
        rintro e w9 ⟨ka, kc, rfl, hkb, f9⟩
        have f89 := f8.trans f9
        have bP9 := f9.heap bP8 id
        have bQ9 := f9.heap bQ8 id
        clear qP zP
        obtain ⟨qP, zP⟩ := box_facts bP9
        obtain ⟨qQ, zQ⟩ := box_facts bQ9
        have cv1 := conv_src (sl_src hkb)
        have cv2 := conv_src (sl_src (HU7.out.stay f89))
        clear hkb
        by_cases hb : be = 0
        · obtain ⟨hI, hI64⟩ := HB0.out hb
          subst hb
          have e1 : I.length = n := by rw [hI]; exact HNN.out
          rw [e1] at qQ
          have e2 : ¬ (64 : Int) < (n : Int) := by omega
          have e3 := decide_eq_false e2
          clear hI hI64
          go_wp2_with fail
          go_ret
          exact ⟨by trivial, fw7.trans f89⟩
        · obtain ⟨hb1, hb2⟩ := HB1.out hb
          subst hb1
          have e2 : (64 : Int) < (n : Int) := by have := HNN.out; omega
          have e3 := decide_eq_true e2
          clear hb hb2
          go_wp2_with fail
          go_ret
          exact ⟨by trivial, fw7.trans f89⟩
      · have n1 : (ae == 0) = false := by simpa using ha
        have HKY := Lib.hid hkey
        clear hkey ha
        go_wp2_with fail
        refine (HKY.out _ (H7.out.stay f8)).mono ?_
        rintro e w9 ⟨ka, kc, rfl, hkb, f9⟩
        have f89 := f8.trans f9
        have bP9 := f9.heap bP8 id
        have bQ9 := f9.heap bQ8 id
        clear qP zP hkb
        obtain ⟨qP, zP⟩ := box_facts bP9
        obtain ⟨qQ, zQ⟩ := box_facts bQ9
        by_cases hb : be = 0
        · obtain ⟨hI, hI64⟩ := HB0.out hb
          subst hb
          have e1 : I.length = n := by rw [hI]; exact HNN.out
          rw [e1] at qQ
          have e2 : ¬ (64 : Int) < (n : Int) := by omega
          have e3 := decide_eq_false e2
          clear hI hI64
          go_wp2_with fail
          go_ret
          exact ⟨by trivial, fw7.trans f89⟩
        · obtain ⟨hb1, hb2⟩ := HB1.out hb
          subst hb1
          have e2 : (64 : Int) < (n : Int) := by have := HNN.out; omega
          have e3 := decide_eq_true e2
          clear hb hb2
          go_wp2_with fail
          go_ret
          exact ⟨by trivial, fw7.trans f89⟩
end Go.Proofs.Ytplhcfaonhkegaa
