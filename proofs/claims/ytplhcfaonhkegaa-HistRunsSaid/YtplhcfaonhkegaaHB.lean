/-
  Both histories side by side: HistRuns.
-/
import Derived.Test.YtplhcfaonhkegaaHA
import Derived.Test.YtplhcfaonhkegaaG
import Derived.Deep.CutBlock
namespace Go.Proofs.Ytplhcfaonhkegaa
open Go.RowKit Go.Maps

set_option maxRecDepth 100000 in
set_option maxHeartbeats 4000000 in
theorem sameInts_any {w : World} {u v : Value} {l : List Int} (hu : GRow w 3 1 u l.length (ints l)) (hv : GRow w 3 1 v l.length (ints l)) (hn : l.length ≤ 200000) :
    Calls Try.prog 49 #[u, v] w fun e w' => e = .returned (.bool true) ∧ Fr Non w w' := by
  obtain ⟨a, n, rfl⟩ := hu.form
  obtain ⟨b, m, rfl⟩ := hv.form
  have HU := Lib.hid hu
  have HV := Lib.hid hv
  clear hu hv
  go_enter Try.func49, Try.ntmps49
  go_wp2_with fail
  go_loopw [5] (fun i wr => ∃ (j : Nat), j ≤ l.length ∧ i = .int .i64 j ∧ Hid (Fr Non w wr)) (fun i _ => l.length - (intOf i).toNat)
  case atStart => exact ⟨0, by omega, rfl, Fr.refl _ _⟩
  case round =>
    obtain ⟨j, hj, rfl, HI⟩ := hrel
    have j0 : (0 : Int) ≤ (j : Int) := by omega
    by_cases hlt : j < l.length
    · have j1 : (j : Int) < (l.length : Int) := by omega
      rcases id HU.out.2 with ⟨_, h0⟩ | ⟨g1, c1, cur1, e1, _⟩
      · omega
      rcases id HV.out.2 with ⟨_, h0⟩ | ⟨g2, c2, cur2, e2, _⟩
      · omega
      cases e1
      cases e2
      have cu : Hid (∀ y, Fr Non wr y → y.cell? ⟨g1, j, none⟩ = some (.int .i64 l[j])) := Lib.hid (fun y f => (HI.out.trans f).cell (HU.out.cells (g := g1) rfl j _ (by simp [ints, hlt])) id)
      have cv : Hid (∀ y, Fr Non wr y → y.cell? ⟨g2, j, none⟩ = some (.int .i64 l[j])) := Lib.hid (fun y f => (HI.out.trans f).cell (HV.out.cells (g := g2) rfl j _ (by simp [ints, hlt])) id)
      obtain ⟨x, hx⟩ : ∃ x, l[j] = x := ⟨_, rfl⟩
      rw [hx] at cu cv
      clear hx
      have fd : Fr Non wr wr.drew := (Fr.refl _ _).drew
      go_wp2_with fail
      refine wp_draw [((fun y => Fr Non wr y), [(.free, 0), (.free, 1), (.free, 2), (.held, 3), (.free, 4), (.free, 5), (.free, 6), (.held, 7), (.free, 8)])] 9 (by kernel_rfl) (by kernel_rfl) (fun _ _ _ _ _ h => h) ⟨fd, ?_⟩
      generalize wr.drew = wd at fd ⊢
      repeat (first
        | (refine' wpPlan_free (v := _) rfl (by rfl) ?_ ?_
           rotate_left
           · (intro w'; skip; go_simp; try rfl)
           simp only [List.getElem_toArray, List.getElem_cons_zero, List.getElem_cons_succ, Act.put, List.setIfInBounds_toArray, List.set_cons_zero, List.set_cons_succ])
        | (refine' wpPlan_held (v := _) rfl (by rfl) ?_ ?_
           rotate_left
           · (intro w' hS; skip; (have q1 := cu.out w' hS; have q2 := cv.out w' hS; clear hS); go_simp; try rfl)
           simp only [List.getElem_toArray, List.getElem_cons_zero, List.getElem_cons_succ, Act.put, List.setIfInBounds_toArray, List.set_cons_zero, List.set_cons_succ])
        | (refine' wpPlan_skip rfl (by rfl) ?_
           simp only [List.getElem_toArray, List.getElem_cons_zero, List.getElem_cons_succ, Act.put, List.setIfInBounds_toArray, List.set_cons_zero, List.set_cons_succ])
        | (refine' wpPlan_skipHeld rfl (by rfl) ?_
           simp only [List.getElem_toArray, List.getElem_cons_zero, List.getElem_cons_succ, Act.put, List.setIfInBounds_toArray, List.set_cons_zero, List.set_cons_succ]))
      refine wpPlan_end ?_
      simp only [wpSegs, List.drop_succ_cons, List.drop_zero]
      go_wp2_with fail
      go_roundw
      case rel => exact ⟨j + 1, by omega, by go_num, HI.out.trans fd⟩
      case measure => simp [intOf]; omega
    · obtain rfl : j = l.length := by omega
      go_wp2_with fail
      go_ret
      exact ⟨by trivial, HI.out⟩

/-- One of a row, loaded in any later world. -/
theorem hap_rdF {S : Nat → Prop} {w : World} {a : Option Addr} {n c : Nat} {l : List MHap} (h : Sl kHap S w (.slice a n c) l) (i : Nat) (hi : i < l.length) :
    ∃ b o cs, a = some ⟨b, o, none⟩ ∧ kHap.rd S w cs l[i] ∧ cs.length = 23 ∧ ∀ y, Fr Non w y → (do pure (Next.value (← Instr.loadAt 76 (.pointer (some ⟨b, o + i * 23, none⟩)))) : Sem Next).run Try.prog y = .ok (.value (.agg cs.toArray)) y := by
  obtain ⟨b, o, cs, rfl, _, _, _, hr, hc⟩ := h.at i hi
  have hl : cs.length = 23 := kHap.len hr
  refine ⟨b, o, cs, rfl, hr, hl, fun y f => ?_⟩
  have := run_loadAt_list (P := Try.prog) (w := y) (t := 76) (b := b) (o := o + i * 23) cs _ Try.underlying76 rfl (by rw [hl]; exact size76) (fun j v hv => by
    obtain ⟨hj, rfl⟩ := List.getElem?_eq_some_iff.1 hv
    exact f.cell (hc j hj) id)
  simp only [Sem.run_bind, this, Result.andThen_ok]
  rfl
/-- All that is read of a variable that holds what happened. -/
theorem box_all {w : World} {b : Nat} {x : MHap} {cs : List Value} (h : w.heap[b]? = some (.cells cs.toArray 76 (0, 0))) (hr : kHap.rd All w cs x) :
    ∃ a0 n0 u v, w.cell? ⟨b, 0, none⟩ = some (.int .i64 x.1.1) ∧ w.cell? ⟨b, 1, none⟩ = some (.int .u64 x.1.2.1) ∧ w.cell? ⟨b, 2, none⟩ = some (.int .u64 x.1.2.2.1) ∧ w.cell? ⟨b, 3, none⟩ = some (.slice a0 x.1.2.2.2.length n0) ∧
      Sl kByte All w (.slice a0 x.1.2.2.2.length n0) x.1.2.2.2 ∧ (Instr.loadAt 52 (.pointer (some ⟨b, 4, none⟩))).run Try.prog w = .ok (.agg (resCells x.2.1 u v).toArray) w ∧ Sl kByte All w u x.2.1.2.2.1 ∧ Sl kItem All w v x.2.1.2.2.2.1 ∧
      w.cell? ⟨b, 19, none⟩ = some (.int .i64 x.2.2.1) ∧ w.cell? ⟨b, 20, none⟩ = some (.int .i64 x.2.2.2.1) ∧ w.cell? ⟨b, 21, none⟩ = some (.bool x.2.2.2.2.1) ∧ w.cell? ⟨b, 22, none⟩ = some (.bool x.2.2.2.2.2) := by
  obtain ⟨a0, n0, a1, n1, a2, n2, rfl, h0, h1, h2⟩ := hap_cells hr
  have hc : ∀ j v, (hapCells x (.slice a0 x.1.2.2.2.length n0) (.slice a1 x.2.1.2.2.1.length n1) (.slice a2 x.2.1.2.2.2.1.length n2))[j]? = some v → w.cell? ⟨b, j, none⟩ = some v := fun j v hv => by
    rw [cell_of_row w b j _ _ _ h]; simpa using hv
  refine ⟨a0, n0, _, _, hc 0 _ rfl, hc 1 _ rfl, hc 2 _ rfl, hc 3 _ rfl, h0, run_loadAt_list _ _ Try.underlying52 rfl (by rw [show (resCells x.2.1 (.slice a1 x.2.1.2.2.1.length n1) (.slice a2 x.2.1.2.2.2.1.length n2)).length = 15 by simp [resCells, refCells]]; exact size52) (fun j v hv => hc (4 + j) v ?_), h1, h2, hc 19 _ rfl, hc 20 _ rfl, hc 21 _ rfl, hc 22 _ rfl⟩
  have hj : j < 15 := by
    rcases Nat.lt_or_ge j 15 with h | h
    · exact h
    · rw [List.getElem?_eq_none (by simpa [resCells, refCells] using h)] at hv; cases hv
  unfold hapCells
  rw [List.append_assoc, List.getElem?_append_right (by simp), List.getElem?_append_left (by simp [resCells, refCells]; omega)]
  simpa using hv
def SameCut (w : World) (cs ds : List Value) (p q : Value) (wx : World) : Prop :=
  ∃ b b', p = .pointer (some ⟨b, 0, none⟩) ∧ q = .pointer (some ⟨b', 0, none⟩) ∧ wx.heap[b]? = some (.cells cs.toArray 76 (0, 0)) ∧ wx.heap[b']? = some (.cells ds.toArray 76 (0, 0)) ∧ Fr Non w wx

set_option maxRecDepth 100000 in
set_option maxHeartbeats 4000000 in
theorem hsame_any {w : World} {u v : Value} {l : List MHap} (hu : Sl kHap All w u l) (hv : Sl kHap All w v l) (hn : l.length ≤ 200000) :
    Calls Try.prog 55 #[u, v] w fun e w' => e = .returned (.bool true) ∧ Fr Non w w' := by
  obtain ⟨a, n, rfl, _⟩ := hu.frm
  obtain ⟨b, m, rfl, _⟩ := hv.frm
  have HU := Lib.hid hu
  have HV := Lib.hid hv
  clear hu hv
  go_enter Try.func55, Try.ntmps55
  go_wp2_with fail
  go_loopw [5] (fun i wr => ∃ (j : Nat), j ≤ l.length ∧ i = .int .i64 j ∧ Hid (Fr Non w wr)) (fun i _ => l.length - (intOf i).toNat)
  case atStart => exact ⟨0, by omega, rfl, Fr.refl _ _⟩
  case round =>
    obtain ⟨j, hj, rfl, HI⟩ := hrel
    have j0 : (0 : Int) ≤ (j : Int) := by omega
    by_cases hlt : j < l.length
    · have j1 : (j : Int) < (l.length : Int) := by omega
      obtain ⟨B1, O1, cs, rfl, hr1, hl1, ld1⟩ := hap_rdF (HU.out.stay HI.out) j hlt
      obtain ⟨B2, O2, ds, rfl, hr2, hl2, ld2⟩ := hap_rdF (HV.out.stay HI.out) j hlt
      obtain ⟨x, hx⟩ : ∃ x, l[j] = x := ⟨_, rfl⟩
      rw [hx] at hr1 hr2
      have LD1 := Lib.hid ld1
      have LD2 := Lib.hid ld2
      have HR1 := Lib.hid hr1
      have HR2 := Lib.hid hr2
      have ON1 := Lib.hid (kHap.one hr1)
      have ON2 := Lib.hid (kHap.one hr2)
      have fd : Fr Non wr wr.drew := (Fr.refl _ _).drew
      clear hx ld1 ld2 hr1 hr2
      go_upto_region 6 with (fail)
      go_cut [6, 7] (fun p q wx => Hid (SameCut wr cs ds p q wx))
      case first =>
        go_wp2_with fail
        refine wp_drawT ((fun y => Fr Non wr y)) (fun i => ([.free, .free, .free, .held, .free, .free, .free, .held, .kept, .kept, .kept, .kept] : List Way).getD i .last) (.soft .free 0 (.soft .free 1 (.soft .free 2 (.soft .held 3 (.soft .free 4 (.soft .free 5 (.soft .free 6 (.soft .held 7 (.two 8 (.one 9 (.one 10 (.one 11 .leaf))) 9 (.one 8 (.one 10 (.one 11 .leaf)))))))))))) 12 (by kernel_rfl) (by kernel_rfl) (fun _ _ _ _ _ h => h) ⟨fd, ?_⟩
        generalize wr.drew = wd at fd ⊢
        repeat (first
          | (refine' wpTree_free (x := _) rfl (by rfl) ?_ ?_
             rotate_left
             · (intro w'; skip; go_simp; try rfl)
             simp only [List.getElem_toArray, List.getElem_cons_zero, List.getElem_cons_succ, Act.put, List.setIfInBounds_toArray, List.set_cons_zero, List.set_cons_succ])
          | (refine' wpTree_held (x := _) rfl (by rfl) (fun w' hS => LD1.out w' hS) ?_
             simp only [List.getElem_toArray, List.getElem_cons_zero, List.getElem_cons_succ, Act.put, List.setIfInBounds_toArray, List.set_cons_zero, List.set_cons_succ])
          | (refine' wpTree_held (x := _) rfl (by rfl) (fun w' hS => LD2.out w' hS) ?_
             simp only [List.getElem_toArray, List.getElem_cons_zero, List.getElem_cons_succ, Act.put, List.setIfInBounds_toArray, List.set_cons_zero, List.set_cons_succ])
          | (refine' wpTree_skip rfl (by rfl) ?_
             simp only [List.getElem_toArray, List.getElem_cons_zero, List.getElem_cons_succ, Act.put, List.setIfInBounds_toArray, List.set_cons_zero, List.set_cons_succ])
          | (refine' wpTree_skipHeld rfl (by rfl) ?_
             simp only [List.getElem_toArray, List.getElem_cons_zero, List.getElem_cons_succ, Act.put, List.setIfInBounds_toArray, List.set_cons_zero, List.set_cons_succ]))
        refine wpTree_two ?_ ?_
        · skip
          refine' wpTree_one rfl ?_
          intro K hK
          go_simp
          refine hK _ _ ⟨fd.alloc _, ?_⟩
          clear hK K
          refine' wpTree_one rfl ?_
          intro K hK
          go_simp
          refine hK _ _ ⟨(fd.alloc _).alloc _, ?_⟩
          clear hK K
          obtain ⟨wa, hwa⟩ : ∃ wa, ((wd.alloc (.cells #[.int .i64 0, .int .u64 0, .int .u64 0, .slice none 0 0, .int .i64 0, .int .u64 0, .slice none 0 0, .slice none 0 0, .int .i64 0, .int .i64 0, .int .u64 0, .int .i64 0, .int .u64 0, .int .i64 0, .int .i64 0, .int .u64 0, .int .i64 0, .int .u64 0, .bool false, .int .i64 0, .int .i64 0, .bool false, .bool false] 76)).alloc (.cells #[.int .i64 0, .int .u64 0, .int .u64 0, .slice none 0 0, .int .i64 0, .int .u64 0, .slice none 0 0, .slice none 0 0, .int .i64 0, .int .i64 0, .int .u64 0, .int .i64 0, .int .u64 0, .int .i64 0, .int .i64 0, .int .u64 0, .int .i64 0, .int .u64 0, .bool false, .int .i64 0, .int .i64 0, .bool false, .bool false] 76)) = wa := ⟨_, rfl⟩
          have g6 : wa.heap[wd.heap.size]? = some (.cells #[.int .i64 0, .int .u64 0, .int .u64 0, .slice none 0 0, .int .i64 0, .int .u64 0, .slice none 0 0, .slice none 0 0, .int .i64 0, .int .i64 0, .int .u64 0, .int .i64 0, .int .u64 0, .int .i64 0, .int .i64 0, .int .u64 0, .int .i64 0, .int .u64 0, .bool false, .int .i64 0, .int .i64 0, .bool false, .bool false] 76 (0, 0)) := by rw [← hwa]; exact alloc_at2 wd _ _
          have g7 : wa.heap[wd.heap.size + 1]? = some (.cells #[.int .i64 0, .int .u64 0, .int .u64 0, .slice none 0 0, .int .i64 0, .int .u64 0, .slice none 0 0, .slice none 0 0, .int .i64 0, .int .i64 0, .int .u64 0, .int .i64 0, .int .u64 0, .int .i64 0, .int .i64 0, .int .u64 0, .int .i64 0, .int .u64 0, .bool false, .int .i64 0, .int .i64 0, .bool false, .bool false] 76 (0, 0)) := by rw [← hwa]; exact alloc_at2' wd _ _
          have fa : Fr Non wr wa := by rw [← hwa]; exact (fd.alloc _).alloc _
          have sza : wr.heap.size ≤ wd.heap.size := fd.size
          rw [hwa]
          have G6 := Lib.hid g6
          have G7 := Lib.hid g7
          clear hwa g6 g7
          refine' wpTree_one rfl ?_
          intro K hK
          refine step_store_block rfl 76 _ _ rfl (wd.heap.size) 0 rfl (.agg cs.toArray) rfl _ 76 G6.out ?s1 ?s2 ?s3 ?_
          case s1 => simp [Value.cells, hl1]
          case s2 => rw [show (Value.agg cs.toArray).cells.size = 23 by simp [Value.cells, hl1]]; exact size76
          case s3 => intro u hu; exact ON1.out u (by simpa [Value.cells] using hu)
          intro w3 hb3 f3
          rw [putAt_whole _ _ (by simp [Value.cells, hl1])] at hb3
          replace hb3 : w3.heap[wd.heap.size]? = some (.cells cs.toArray 76 (0, 0)) := by simpa [Value.cells] using hb3
          have f03 : Fr Non wr w3 := fa.trans2 f3 (fun b hb e => by omega)
          refine hK _ _ ⟨f03, ?_⟩
          clear hK K
          have H3 := Lib.hid hb3
          have G7' := Lib.hid (f3.heap G7.out (by omega))
          clear hb3 f3
          refine' wpTree_one rfl ?_
          intro K hK
          refine step_store_block rfl 76 _ _ rfl (wd.heap.size + 1) 0 rfl (.agg ds.toArray) rfl _ 76 G7'.out ?s4 ?s5 ?s6 ?_
          case s4 => simp [Value.cells, hl2]
          case s5 => rw [show (Value.agg ds.toArray).cells.size = 23 by simp [Value.cells, hl2]]; exact size76
          case s6 => intro u hu; exact ON2.out u (by simpa [Value.cells] using hu)
          intro w4 hb4 f4
          rw [putAt_whole _ _ (by simp [Value.cells, hl2])] at hb4
          replace hb4 : w4.heap[wd.heap.size + 1]? = some (.cells ds.toArray 76 (0, 0)) := by simpa [Value.cells] using hb4
          have f04 : Fr Non wr w4 := f03.trans2 f4 (fun b hb e => by omega)
          refine hK _ _ ⟨f04, ?_⟩
          clear hK K
          have H4 := Lib.hid hb4
          have H34 := Lib.hid (f4.heap H3.out (by omega))
          have F04 := Lib.hid f04
          clear hb4 f4 f04 f03
          refine wpTree_leaf ?_
          simp only [List.drop_succ_cons, List.drop_zero]
          go_wp2_with fail
          go_meet
          exact Lib.hid ⟨wd.heap.size, wd.heap.size + 1, rfl, rfl, H34.out, H4.out, F04.out⟩
        · skip
          refine' wpTree_one rfl ?_
          intro K hK
          go_simp
          refine hK _ _ ⟨fd.alloc _, ?_⟩
          clear hK K
          refine' wpTree_one rfl ?_
          intro K hK
          go_simp
          refine hK _ _ ⟨(fd.alloc _).alloc _, ?_⟩
          clear hK K
          obtain ⟨wa, hwa⟩ : ∃ wa, ((wd.alloc (.cells #[.int .i64 0, .int .u64 0, .int .u64 0, .slice none 0 0, .int .i64 0, .int .u64 0, .slice none 0 0, .slice none 0 0, .int .i64 0, .int .i64 0, .int .u64 0, .int .i64 0, .int .u64 0, .int .i64 0, .int .i64 0, .int .u64 0, .int .i64 0, .int .u64 0, .bool false, .int .i64 0, .int .i64 0, .bool false, .bool false] 76)).alloc (.cells #[.int .i64 0, .int .u64 0, .int .u64 0, .slice none 0 0, .int .i64 0, .int .u64 0, .slice none 0 0, .slice none 0 0, .int .i64 0, .int .i64 0, .int .u64 0, .int .i64 0, .int .u64 0, .int .i64 0, .int .i64 0, .int .u64 0, .int .i64 0, .int .u64 0, .bool false, .int .i64 0, .int .i64 0, .bool false, .bool false] 76)) = wa := ⟨_, rfl⟩
          have g6 : wa.heap[wd.heap.size + 1]? = some (.cells #[.int .i64 0, .int .u64 0, .int .u64 0, .slice none 0 0, .int .i64 0, .int .u64 0, .slice none 0 0, .slice none 0 0, .int .i64 0, .int .i64 0, .int .u64 0, .int .i64 0, .int .u64 0, .int .i64 0, .int .i64 0, .int .u64 0, .int .i64 0, .int .u64 0, .bool false, .int .i64 0, .int .i64 0, .bool false, .bool false] 76 (0, 0)) := by rw [← hwa]; exact alloc_at2' wd _ _
          have g7 : wa.heap[wd.heap.size]? = some (.cells #[.int .i64 0, .int .u64 0, .int .u64 0, .slice none 0 0, .int .i64 0, .int .u64 0, .slice none 0 0, .slice none 0 0, .int .i64 0, .int .i64 0, .int .u64 0, .int .i64 0, .int .u64 0, .int .i64 0, .int .i64 0, .int .u64 0, .int .i64 0, .int .u64 0, .bool false, .int .i64 0, .int .i64 0, .bool false, .bool false] 76 (0, 0)) := by rw [← hwa]; exact alloc_at2 wd _ _
          have fa : Fr Non wr wa := by rw [← hwa]; exact (fd.alloc _).alloc _
          have sza : wr.heap.size ≤ wd.heap.size := fd.size
          rw [hwa]
          have G6 := Lib.hid g6
          have G7 := Lib.hid g7
          clear hwa g6 g7
          refine' wpTree_one rfl ?_
          intro K hK
          refine step_store_block rfl 76 _ _ rfl (wd.heap.size + 1) 0 rfl (.agg cs.toArray) rfl _ 76 G6.out ?s1 ?s2 ?s3 ?_
          case s1 => simp [Value.cells, hl1]
          case s2 => rw [show (Value.agg cs.toArray).cells.size = 23 by simp [Value.cells, hl1]]; exact size76
          case s3 => intro u hu; exact ON1.out u (by simpa [Value.cells] using hu)
          intro w3 hb3 f3
          rw [putAt_whole _ _ (by simp [Value.cells, hl1])] at hb3
          replace hb3 : w3.heap[wd.heap.size + 1]? = some (.cells cs.toArray 76 (0, 0)) := by simpa [Value.cells] using hb3
          have f03 : Fr Non wr w3 := fa.trans2 f3 (fun b hb e => by omega)
          refine hK _ _ ⟨f03, ?_⟩
          clear hK K
          have H3 := Lib.hid hb3
          have G7' := Lib.hid (f3.heap G7.out (by omega))
          clear hb3 f3
          refine' wpTree_one rfl ?_
          intro K hK
          refine step_store_block rfl 76 _ _ rfl (wd.heap.size) 0 rfl (.agg ds.toArray) rfl _ 76 G7'.out ?s4 ?s5 ?s6 ?_
          case s4 => simp [Value.cells, hl2]
          case s5 => rw [show (Value.agg ds.toArray).cells.size = 23 by simp [Value.cells, hl2]]; exact size76
          case s6 => intro u hu; exact ON2.out u (by simpa [Value.cells] using hu)
          intro w4 hb4 f4
          rw [putAt_whole _ _ (by simp [Value.cells, hl2])] at hb4
          replace hb4 : w4.heap[wd.heap.size]? = some (.cells ds.toArray 76 (0, 0)) := by simpa [Value.cells] using hb4
          have f04 : Fr Non wr w4 := f03.trans2 f4 (fun b hb e => by omega)
          refine hK _ _ ⟨f04, ?_⟩
          clear hK K
          have H4 := Lib.hid hb4
          have H34 := Lib.hid (f4.heap H3.out (by omega))
          have F04 := Lib.hid f04
          clear hb4 f4 f04 f03
          refine wpTree_leaf ?_
          simp only [List.drop_succ_cons, List.drop_zero]
          go_wp2_with fail
          go_meet
          exact Lib.hid ⟨wd.heap.size + 1, wd.heap.size, rfl, rfl, H34.out, H4.out, F04.out⟩
      case rest =>
      obtain ⟨b6, b7, rfl, rfl, p6, p7, fz⟩ := hcut.out
      clear hcut
      have FZ := Lib.hid (HI.out.trans fz)
      have FX := Lib.hid fz
      have r1 := kHap.stay HR1.out fz
      have r2 := kHap.stay HR2.out fz
      obtain ⟨a0, n0, u1, v1, c0, c1, c2, c3, s1, l1, su, sv, c19, c20, c21, c22⟩ := box_all p6 r1
      obtain ⟨a0', n0', u2, v2, d0, d1, d2, d3, s2, l2, su2, sv2, d19, d20, d21, d22⟩ := box_all p7 r2
      have K1 := conv_src (sl_src s1)
      have K2 := conv_src (sl_src s2)
      have L1 := Lib.hid l1
      have L2 := Lib.hid l2
      have SR := Lib.hid (rsres_any x.2.1 x.2.1 su sv su2 sv2)
      have P6 := Lib.hid p6
      have P7 := Lib.hid p7
      clear s1 s2 l1 l2 su sv su2 sv2 r1 r2 p6 p7 fz
      go_wp2_with (first | refine wpList_load_w 52 (.pointer (some ⟨b6, 4, none⟩)) _ L1.out _ rfl rfl (by rfl) ?_ | refine wpList_load_w 52 (.pointer (some ⟨b7, 4, none⟩)) _ L2.out _ rfl rfl (by rfl) ?_)
      refine SR.out.mono ?_
      rintro e w8 ⟨rfl, f8⟩
      clear c0 c1 c2 c3 c19 c20 c21 c22 d0 d1 d2 d3 d19 d20 d21 d22 K1 K2 SR L1 L2
      simp only [decide_true]
      have FY := Lib.hid (FX.out.trans f8)
      obtain ⟨_, _, _, _, c0, c1, c2, c3, _, _, _, _, c19, c20, c21, c22⟩ := box_all (f8.heap P6.out id) (kHap.stay HR1.out FY.out)
      obtain ⟨_, _, _, _, d0, d1, d2, d3, _, _, _, _, d19, d20, d21, d22⟩ := box_all (f8.heap P7.out id) (kHap.stay HR2.out FY.out)
      go_wp2_with fail
      go_roundw
      case rel => exact ⟨j + 1, by omega, by go_num, FZ.out.trans f8⟩
      case measure => simp [intOf]; omega
    · obtain rfl : j = l.length := by omega
      go_wp2_with fail
      go_ret
      exact ⟨by trivial, HI.out⟩
end Go.Proofs.Ytplhcfaonhkegaa

namespace Go.Proofs.Ytplhcfaonhkegaa
open Go.RowKit Go.Maps

def oC (x : MOp) : MOp := if 100 < x.2.2.1.2.2.2.length ∧ x.2.2.1.2.2.2.length ≤ 1024 then (x.1, x.2.1, (x.2.2.1.1, x.2.2.1.2.1, x.2.2.1.2.2.1, x.2.2.1.2.2.2.take 100), x.2.2.2) else x
def oR (x : MOp) : MOp := if 100 < x.2.2.2.1.2.2.1.length then (x.1, x.2.1, x.2.2.1, (x.2.2.2.1.1, x.2.2.2.1.2.1, x.2.2.2.1.2.2.1.take 100, x.2.2.2.1.2.2.2), x.2.2.2.2) else x
def oI (x : MOp) : MOp := if 20 < x.2.2.2.1.2.2.2.1.length then (x.1, x.2.1, x.2.2.1, (x.2.2.2.1.1, x.2.2.2.1.2.1, x.2.2.2.1.2.2.1, x.2.2.2.1.2.2.2.1.take 20, x.2.2.2.1.2.2.2.2), x.2.2.2.2) else x
def oCut (x : MOp) : MOp := oI (oR (oC x))

theorem res_put {S : Nat → Prop} {w : World} {rc : List Value} {r : MRes} (h : kRes.rd S w rc r) : ∃ u1 u2 tl, rc = .int .i64 r.1 :: .int .u64 r.2.1 :: u1 :: u2 :: tl ∧ Sl kByte S w u1 r.2.2.1 ∧ r.2.2.1.length ≤ reachBytes ∧ Sl kItem S w u2 r.2.2.2.1 ∧ r.2.2.2.1.length * 32 ≤ reachBytes ∧
    (∀ v1 v2 bs is, Sl kByte S w v1 bs → bs.length ≤ reachBytes → Sl kItem S w v2 is → is.length * 32 ≤ reachBytes → kRes.rd S w (.int .i64 r.1 :: .int .u64 r.2.1 :: v1 :: v2 :: tl) (r.1, r.2.1, bs, is, r.2.2.2.2)) := by
  obtain ⟨_, _, rfl, ⟨rfl, r1⟩, _, _, rfl, ⟨rfl, r2⟩, _, _, rfl, ⟨u1, rfl, hu1, hB1⟩, _, tl, rfl, ⟨u2, rfl, hu2, hB2⟩, ht⟩ := h
  exact ⟨u1, u2, tl, rfl, hu1, by simpa using hB1, hu2, hB2, fun v1 v2 bs is h1 l1 h2 l2 => ⟨[_], _, rfl, ⟨rfl, r1⟩, [_], _, rfl, ⟨rfl, r2⟩, [v1], _, rfl, ⟨v1, rfl, h1, by simpa using l1⟩, [v2], tl, rfl, ⟨v2, rfl, h2, l2⟩, ht⟩⟩
theorem call_new {S : Nat → Prop} {w : World} {a b c v v' : Value} {x : MCall} {bs : List UInt8} (h : kCall.rd S w [a, b, c, v] x) (hv : Sl kByte S w v' bs) (hB : bs.length ≤ reachBytes) : kCall.rd S w [a, b, c, v'] (x.1, x.2.1, x.2.2.1, bs) := by
  obtain ⟨c1, c2, e, ⟨rfl, h1⟩, d1, d2, rfl, ⟨rfl, h2⟩, e1, e2, rfl, ⟨rfl, h3⟩, ⟨u, rfl, hu, _⟩⟩ := h
  cases e
  exact ⟨[_], _, rfl, ⟨rfl, h1⟩, [_], _, rfl, ⟨rfl, h2⟩, [_], _, rfl, ⟨rfl, h3⟩, v', rfl, hv, by simpa using hB⟩
theorem op_of {S : Nat → Prop} {w : World} {x : MOp} {cc rc : List Value} (h1 : (Lit.int .i64 x.1).wf = true) (h2 : (Lit.int .i64 x.2.1).wf = true) (h3 : kCall.rd S w cc x.2.2.1) (h4 : kRes.rd S w rc x.2.2.2.1) :
    kOp.rd S w ([.int .i64 x.1] ++ ([.int .i64 x.2.1] ++ (cc ++ (rc ++ [.bool x.2.2.2.2])))) x :=
  ⟨[_], _, rfl, ⟨rfl, h1⟩, [_], _, rfl, ⟨rfl, h2⟩, cc, _, rfl, h3, rc, _, rfl, h4, rfl⟩
/-- The slices of one that is noted, and what may be laid in their places. -/
theorem op_slices {S : Nat → Prop} {w : World} {cs : List Value} {x : MOp} (h : kOp.rd S w cs x) : cs.length = 22 ∧ ∃ a0 n0 a1 n1 a2 n2,
    cs[5]? = some (.slice a0 x.2.2.1.2.2.2.length n0) ∧ Sl kByte S w (.slice a0 x.2.2.1.2.2.2.length n0) x.2.2.1.2.2.2 ∧ x.2.2.1.2.2.2.length ≤ reachBytes ∧
    cs[8]? = some (.slice a1 x.2.2.2.1.2.2.1.length n1) ∧ Sl kByte S w (.slice a1 x.2.2.2.1.2.2.1.length n1) x.2.2.2.1.2.2.1 ∧ x.2.2.2.1.2.2.1.length ≤ reachBytes ∧
    cs[9]? = some (.slice a2 x.2.2.2.1.2.2.2.1.length n2) ∧ Sl kItem S w (.slice a2 x.2.2.2.1.2.2.2.1.length n2) x.2.2.2.1.2.2.2.1 ∧ x.2.2.2.1.2.2.2.1.length * 32 ≤ reachBytes ∧
    (∀ v bs, Sl kByte S w v bs → bs.length ≤ reachBytes → kOp.rd S w (putAt cs 5 [v]) (x.1, x.2.1, (x.2.2.1.1, x.2.2.1.2.1, x.2.2.1.2.2.1, bs), x.2.2.2)) ∧
    (∀ v bs, Sl kByte S w v bs → bs.length ≤ reachBytes → kOp.rd S w (putAt cs 8 [v]) (x.1, x.2.1, x.2.2.1, (x.2.2.2.1.1, x.2.2.2.1.2.1, bs, x.2.2.2.1.2.2.2), x.2.2.2.2)) ∧
    (∀ v is, Sl kItem S w v is → is.length * 32 ≤ reachBytes → kOp.rd S w (putAt cs 9 [v]) (x.1, x.2.1, x.2.2.1, (x.2.2.2.1.1, x.2.2.2.1.2.1, x.2.2.2.1.2.2.1, is, x.2.2.2.1.2.2.2.2), x.2.2.2.2)) := by
  have hl : cs.length = 22 := kOp.len h
  obtain ⟨_, _, rfl, ⟨rfl, h1⟩, _, _, rfl, ⟨rfl, h2⟩, cc, _, rfl, h3, rc, _, rfl, h4, rfl⟩ := h
  obtain ⟨u0, rfl, hu0, hB0, _⟩ := call_cells h3
  obtain ⟨u1, u2, tl, rfl, hu1, hB1, hu2, hB2, hres⟩ := res_put h4
  obtain ⟨a0, n0, rfl, _⟩ := hu0.frm
  obtain ⟨a1, n1, rfl, _⟩ := hu1.frm
  obtain ⟨a2, n2, rfl, _⟩ := hu2.frm
  refine ⟨hl, a0, n0, a1, n1, a2, n2, rfl, hu0, hB0, rfl, hu1, hB1, rfl, hu2, hB2, fun v bs hv hb => ?_, fun v bs hv hb => ?_, fun v is hv hb => ?_⟩
  · exact op_of (x := (x.1, x.2.1, (x.2.2.1.1, x.2.2.1.2.1, x.2.2.1.2.2.1, bs), x.2.2.2)) h1 h2 (call_new h3 hv hb) h4
  · exact op_of (x := (x.1, x.2.1, x.2.2.1, (x.2.2.2.1.1, x.2.2.2.1.2.1, bs, x.2.2.2.1.2.2.2), x.2.2.2.2)) h1 h2 h3 (hres _ _ _ _ hv hb hu2 hB2)
  · exact op_of (x := (x.1, x.2.1, x.2.2.1, (x.2.2.2.1.1, x.2.2.2.1.2.1, x.2.2.2.1.2.2.1, is, x.2.2.2.1.2.2.2.2), x.2.2.2.2)) h1 h2 h3 (hres _ _ _ _ hu1 hB1 hv hb)
def opZ : List Value := [.int .i64 0, .int .i64 0, .int .i64 0, .int .u64 0, .int .u64 0, .slice none 0 0, .int .i64 0, .int .u64 0, .slice none 0 0, .slice none 0 0, .int .i64 0, .int .i64 0, .int .u64 0, .int .i64 0, .int .u64 0, .int .i64 0, .int .i64 0, .int .u64 0, .int .i64 0, .int .u64 0, .bool false, .bool false]
/-- A variable that holds one, new since w, and a bare one behind it. -/
def OpAt (S : Nat → Prop) (w : World) (x : MOp) (wx : World) : Prop :=
  ∃ cs : List Value, wx.heap[w.heap.size]? = some (.cells cs.toArray 67 (0, 0)) ∧ kOp.rd (fun b => S b ∧ b < w.heap.size) wx cs x ∧ wx.heap[w.heap.size + 1]? = some (.cells opZ.toArray 67 (0, 0)) ∧ Fr Non w wx
theorem OpAt.put {S : Nat → Prop} {w wx wy : World} {y : MOp} {ds : List Value} (h1 : wx.heap[w.heap.size + 1]? = some (.cells opZ.toArray 67 (0, 0))) (h2 : Fr Non w wx)
    (hb : wy.heap[w.heap.size]? = some (.cells ds.toArray 67 (0, 0))) (f : Fr (fun b => b = w.heap.size) wx wy) (hr : kOp.rd (fun b => S b ∧ b < w.heap.size) wx ds y) : OpAt S w y wy :=
  ⟨ds, hb, kOp.frame hr f (fun b _ hs e => by omega), f.heap h1 (by omega), h2.trans2 f (fun b hb e => by omega)⟩
theorem Sl.first {α : Type} {k : Kd α} {S : Nat → Prop} {w : World} {a : Option Addr} {n c : Nat} {l : List α} (h : Sl k S w (.slice a n c) l) (m : Nat) (hm : m < l.length) : ∃ b o, a = some ⟨b, o, none⟩ ∧ l.length ≤ c ∧ c ≤ maxLen ∧ Sl k S w (.slice (some ⟨b, o, none⟩) m c) (l.take m) := by
  obtain ⟨b, o, cs, rfl, _, h1, h2, _⟩ := h.at 0 (by omega)
  refine ⟨b, o, rfl, h1, h2, ?_⟩
  have := h.sub 0 m c (by omega) (by omega) h2
  simpa using this

set_option maxRecDepth 100000 in
set_option maxHeartbeats 4000000 in
theorem cut_any {S : Nat → Prop} {w : World} {ocs : List Value} {x : MOp} (h : kOp.rd S w ocs x) :
    Calls Try.prog 44 #[.agg ocs.toArray] w fun e w' => ∃ cs : List Value, e = .returned (.agg cs.toArray) ∧ kOp.rd (fun b => S b ∧ b < w.heap.size) w' cs (oCut x) ∧ Fr Non w w' := by
  have H0 : Hid (OpAt S w x ((w.alloc (.cells ocs.toArray 67)).alloc (.cells opZ.toArray 67))) := Lib.hid ⟨ocs, alloc_at2 w _ _, kOp.stay (kOp.mono h fun b hb hs => ⟨hs, hb⟩) (((Fr.refl _ _).alloc _).alloc _), alloc_at2' w _ _, ((Fr.refl _ _).alloc _).alloc _⟩
  unfold opZ at H0
  clear h
  go_enter Try.func44, Try.ntmps44
  go_upto_region 1 with (fail)
  generalize ((w.alloc (.cells ocs.toArray 67)).alloc (.cells #[.int .i64 0, .int .i64 0, .int .i64 0, .int .u64 0, .int .u64 0, .slice none 0 0, .int .i64 0, .int .u64 0, .slice none 0 0, .slice none 0 0, .int .i64 0, .int .i64 0, .int .u64 0, .int .i64 0, .int .u64 0, .int .i64 0, .int .i64 0, .int .u64 0, .int .i64 0, .int .u64 0, .bool false, .bool false] 67)) = w0 at H0 ⊢
  obtain ⟨C, hC⟩ : ∃ C, w.heap.size = C := ⟨_, rfl⟩
  have HC := Lib.hid hC
  rw [hC]
  clear hC
  go_cut [14] (fun v wx => v = .bool (decide (100 < x.2.2.1.2.2.2.length ∧ x.2.2.1.2.2.2.length ≤ 1024)) ∧ Hid (OpAt S w x wx))
  case first =>
    obtain ⟨cs, hb, hr, _, _⟩ := H0.out
    rw [HC.out] at hb
    obtain ⟨_, a0, n0, _, _, _, _, e5, _⟩ := op_slices hr
    obtain ⟨x0, _⟩ := box_facts hb
    have c5 : w0.cell? ⟨C, 5, none⟩ = some (.slice a0 x.2.2.1.2.2.2.length n0) := by rw [x0]; simpa using e5
    clear x0 hb hr e5
    by_cases h1 : 100 < x.2.2.1.2.2.2.length
    · by_cases h2 : x.2.2.1.2.2.2.length ≤ 1024
      · have i1 : (100 : Int) < (x.2.2.1.2.2.2.length : Int) := by omega
        have i2 : (x.2.2.1.2.2.2.length : Int) ≤ 1024 := by omega
        have HD := Lib.hid (show decide (100 < x.2.2.1.2.2.2.length ∧ x.2.2.1.2.2.2.length ≤ 1024) = true by simp [h1, h2])
        clear h1 h2
        go_wp2_with fail
        go_meet
        exact ⟨by rw [HD.out], H0⟩
      · have i1 : (100 : Int) < (x.2.2.1.2.2.2.length : Int) := by omega
        have i2 : decide ((x.2.2.1.2.2.2.length : Int) ≤ 1024) = false := by simp; omega
        have HD := Lib.hid (show decide (100 < x.2.2.1.2.2.2.length ∧ x.2.2.1.2.2.2.length ≤ 1024) = false by simp [h2])
        clear h1 h2
        go_wp2_with fail
        go_meet
        exact ⟨by rw [HD.out], H0⟩
    · have i1 : decide ((100 : Int) < (x.2.2.1.2.2.2.length : Int)) = false := by simp; omega
      have HD := Lib.hid (show decide (100 < x.2.2.1.2.2.2.length ∧ x.2.2.1.2.2.2.length ≤ 1024) = false by simp [h1])
      clear h1
      go_wp2_with fail
      go_meet
      exact ⟨by rw [HD.out], H0⟩
  case rest =>
  obtain ⟨rfl, H1⟩ := hcut
  obtain ⟨t, ht⟩ : ∃ t, decide (100 < x.2.2.1.2.2.2.length ∧ x.2.2.1.2.2.2.length ≤ 1024) = t := ⟨_, rfl⟩
  rw [ht]
  have HT := Lib.hid ht
  clear ht H0
  go_upto_if 14 with (fail)
  go_cut [3] (fun _ wx => Hid (OpAt S w (oC x) wx))
  case first =>
    cases t with
    | false =>
      have E := Lib.hid (show oC x = x by unfold oC; rw [if_neg (by simpa using HT.out)])
      go_wp2_with fail
      go_meet
      exact Lib.hid (by rw [E.out]; exact H1.out)
    | true =>
      have hT : 100 < x.2.2.1.2.2.2.length ∧ x.2.2.1.2.2.2.length ≤ 1024 := by simpa using HT.out
      have E := Lib.hid (show oC x = (x.1, x.2.1, (x.2.2.1.1, x.2.2.1.2.1, x.2.2.1.2.2.1, x.2.2.1.2.2.2.take 100), x.2.2.2) by unfold oC; rw [if_pos hT])
      have hlt := hT.1
      clear hT
      obtain ⟨cs, hb, hr, hz, hf⟩ := H1.out
      rw [HC.out] at hb
      obtain ⟨hl, a0, n0, _, _, _, _, e5, s5, l5, _, _, _, _, _, _, put5, _⟩ := op_slices hr
      obtain ⟨B, O, rfl, cap1, cap2, sub⟩ := s5.first 100 hlt
      obtain ⟨x0, _⟩ := box_facts hb
      have c5 : wc.cell? ⟨C, 5, none⟩ = some (.slice (some ⟨B, O, none⟩) x.2.2.1.2.2.2.length n0) := by rw [x0]; simpa using e5
      have i1 : (100 : Int) ≤ (n0 : Int) := by omega
      have i2 : 100 ≤ n0 := by omega
      have HB := Lib.hid hb
      have HF := Lib.hid hf
      have HZ := Lib.hid hz
      have HP := Lib.hid (put5 _ _ sub (by rw [List.length_take]; omega))
      have HL := Lib.hid hl
      clear x0 hb hr hz hf put5 sub e5 s5 hl l5 hlt
      go_wp2_with (refine wpList_store_block rfl 37 _ _ rfl C 5 rfl (.slice (some ⟨B, O, none⟩) 100 n0) rfl _ 67 HB.out ?hfit ?hinf ?hone ?_)
      case hfit => simp [Value.cells, HL.out]
      case hinf => kernel_rfl
      case hone => intro u hu; simp [Value.cells] at hu; subst hu; rfl
      intro wy hbx f3
      replace hbx : wy.heap[C]? = some (.cells (putAt cs 5 [.slice (some ⟨B, O, none⟩) 100 n0]).toArray 67 (0, 0)) := by simpa [Value.cells] using hbx
      have HY := Lib.hid (show OpAt S w (oC x) wy by rw [E.out]; exact OpAt.put HZ.out HF.out (by rw [HC.out]; exact hbx) (by rw [HC.out]; exact f3) HP.out)
      clear hbx f3
      go_wp2_with fail
      go_meet
      exact HY
  case rest =>
  have H2 := hcut
  clear hcut H1 HT
  obtain ⟨x1, hx1⟩ : ∃ x1, oC x = x1 := ⟨_, rfl⟩
  rw [hx1] at H2
  have HX1 := Lib.hid hx1
  clear hx1
  obtain ⟨cs, hb, hr, hz, hf⟩ := H2.out
  rw [HC.out] at hb
  obtain ⟨hl, _, _, aa, nn, _, _, _, _, _, ee, ss, ll, _, _, _, _, pp, _⟩ := op_slices hr
  obtain ⟨x0, _⟩ := box_facts hb
  have cc : wc.cell? ⟨C, 8, none⟩ = some (.slice aa x1.2.2.2.1.2.2.1.length nn) := by rw [x0]; simpa using ee
  have HB := Lib.hid hb
  have HF := Lib.hid hf
  have HZ := Lib.hid hz
  have HP := Lib.hid pp
  have HS := Lib.hid ss
  have HL := Lib.hid hl
  have LL := Lib.hid ll
  clear x0 hb hr hz hf pp ee ss hl ll
  go_upto_if 25 with (fail)
  go_cut [3] (fun _ wx => Hid (OpAt S w (oR x1) wx))
  case first =>
    by_cases hlt : 100 < x1.2.2.2.1.2.2.1.length
    · have E := Lib.hid (show oR x1 = (x1.1, x1.2.1, x1.2.2.1, (x1.2.2.2.1.1, x1.2.2.2.1.2.1, x1.2.2.2.1.2.2.1.take 100, x1.2.2.2.1.2.2.2), x1.2.2.2.2) by unfold oR; rw [if_pos hlt])
      obtain ⟨B, O, rfl, cap1, cap2, sub⟩ := HS.out.first 100 hlt
      have i0 : (100 : Int) < (x1.2.2.2.1.2.2.1.length : Int) := by omega
      have i1 : (100 : Int) ≤ (nn : Int) := by omega
      have i2 : 100 ≤ nn := by omega
      have HQ := Lib.hid (HP.out _ _ sub (by rw [List.length_take]; have := LL.out; omega))
      clear sub hlt HS
      go_wp2_with (refine wpList_store_block rfl 37 _ _ rfl C 8 rfl (.slice (some ⟨B, O, none⟩) 100 nn) rfl _ 67 HB.out ?hfit ?hinf ?hone ?_)
      case hfit => simp [Value.cells, HL.out]
      case hinf => kernel_rfl
      case hone => intro u hu; simp [Value.cells] at hu; subst hu; rfl
      intro wy hbx f3
      replace hbx : wy.heap[C]? = some (.cells (putAt cs 8 [.slice (some ⟨B, O, none⟩) 100 nn]).toArray 67 (0, 0)) := by simpa [Value.cells] using hbx
      have HY := Lib.hid (show OpAt S w (oR x1) wy by rw [E.out]; exact OpAt.put HZ.out HF.out (by rw [HC.out]; exact hbx) (by rw [HC.out]; exact f3) HQ.out)
      clear hbx f3
      go_wp2_with fail
      go_meet
      exact HY
    · have E := Lib.hid (show oR x1 = x1 by unfold oR; rw [if_neg hlt])
      have i0 : decide ((100 : Int) < (x1.2.2.2.1.2.2.1.length : Int)) = false := by simp; omega
      clear hlt
      rw [i0]
      clear i0
      go_wp2_with fail
      go_meet
      exact Lib.hid (by rw [E.out]; exact H2.out)
  case rest =>
  have H3 := hcut
  clear hcut H2 cc HB HF HZ HP HS HL LL
  obtain ⟨x2, hx2⟩ : ∃ x2, oR x1 = x2 := ⟨_, rfl⟩
  rw [hx2] at H3
  have HX2 := Lib.hid hx2
  clear hx2
  obtain ⟨cs, hb, hr, hz, hf⟩ := H3.out
  rw [HC.out] at hb
  obtain ⟨hl, _, _, _, _, aa, nn, _, _, _, _, _, _, ee, ss, ll, _, _, pp⟩ := op_slices hr
  obtain ⟨x0, _⟩ := box_facts hb
  have cc : wc.cell? ⟨C, 9, none⟩ = some (.slice aa x2.2.2.2.1.2.2.2.1.length nn) := by rw [x0]; simpa using ee
  have HB := Lib.hid hb
  have HF := Lib.hid hf
  have HZ := Lib.hid hz
  have HP := Lib.hid pp
  have HS := Lib.hid ss
  have HL := Lib.hid hl
  have LL := Lib.hid ll
  clear x0 hb hr hz hf pp ee ss hl ll
  go_upto_if 36 with (fail)
  go_cut [3] (fun _ wx => Hid (OpAt S w (oI x2) wx))
  case first =>
    by_cases hlt : 20 < x2.2.2.2.1.2.2.2.1.length
    · have E := Lib.hid (show oI x2 = (x2.1, x2.2.1, x2.2.2.1, (x2.2.2.2.1.1, x2.2.2.2.1.2.1, x2.2.2.2.1.2.2.1, x2.2.2.2.1.2.2.2.1.take 20, x2.2.2.2.1.2.2.2.2), x2.2.2.2.2) by unfold oI; rw [if_pos hlt])
      obtain ⟨B, O, rfl, cap1, cap2, sub⟩ := HS.out.first 20 hlt
      have i0 : (20 : Int) < (x2.2.2.2.1.2.2.2.1.length : Int) := by omega
      have i1 : (20 : Int) ≤ (nn : Int) := by omega
      have i2 : 20 ≤ nn := by omega
      have HQ := Lib.hid (HP.out _ _ sub (by rw [List.length_take]; have := LL.out; omega))
      clear sub hlt HS
      go_wp2_with (refine wpList_store_block rfl 22 _ _ rfl C 9 rfl (.slice (some ⟨B, O, none⟩) 20 nn) rfl _ 67 HB.out ?hfit ?hinf ?hone ?_)
      case hfit => simp [Value.cells, HL.out]
      case hinf => kernel_rfl
      case hone => intro u hu; simp [Value.cells] at hu; subst hu; rfl
      intro wy hbx f3
      replace hbx : wy.heap[C]? = some (.cells (putAt cs 9 [.slice (some ⟨B, O, none⟩) 20 nn]).toArray 67 (0, 0)) := by simpa [Value.cells] using hbx
      have HY := Lib.hid (show OpAt S w (oI x2) wy by rw [E.out]; exact OpAt.put HZ.out HF.out (by rw [HC.out]; exact hbx) (by rw [HC.out]; exact f3) HQ.out)
      clear hbx f3
      go_wp2_with fail
      go_meet
      exact HY
    · have E := Lib.hid (show oI x2 = x2 by unfold oI; rw [if_neg hlt])
      have i0 : decide ((20 : Int) < (x2.2.2.2.1.2.2.2.1.length : Int)) = false := by simp; omega
      clear hlt
      rw [i0]
      clear i0
      go_wp2_with fail
      go_meet
      exact Lib.hid (by rw [E.out]; exact H3.out)
  case rest =>
  have H4 := hcut
  clear hcut H3 cc HB HF HZ HP HS HL LL
  obtain ⟨cs, hb, hr, hz, hf⟩ := H4.out
  rw [HC.out] at hb hz
  have hl : cs.length = 22 := kOp.len hr
  have LD := Lib.hid (run_loadAt_list (P := Try.prog) (w := wc) (t := 67) (b := C) (o := 0) cs _ Try.underlying67 rfl (by rw [hl]; exact size67) (fun j v hv => by rw [cell_of_row wc C _ _ _ _ hb, Nat.zero_add]; simpa using hv))
  have HZ := Lib.hid hz
  have HR := Lib.hid hr
  have HF := Lib.hid hf
  have ON := Lib.hid (kOp.one hr)
  clear hb hr hz hf
  go_wp2_with (first | refine wpList_load_w 67 (.pointer (some ⟨C, 0, none⟩)) _ LD.out _ rfl rfl (by rfl) ?_ | refine wpList_store_block rfl 67 _ _ rfl (C + 1) 0 rfl (.agg cs.toArray) rfl _ 67 HZ.out ?hfit ?hinf ?hone ?_)
  case hfit => simp [Value.cells, hl, opZ]
  case hinf => rw [show (Value.agg cs.toArray).cells.size = 22 by simp [Value.cells, hl]]; exact size67
  case hone => intro u hu; exact ON.out u (by simpa [Value.cells] using hu)
  intro wy hbx f3
  rw [putAt_whole _ _ (by simp [Value.cells, hl, opZ])] at hbx
  replace hbx : wy.heap[C + 1]? = some (.cells cs.toArray 67 (0, 0)) := by simpa [Value.cells] using hbx
  have HBX := Lib.hid hbx
  have F3 := Lib.hid f3
  have HLN := Lib.hid hl
  clear hbx f3 hl
  go_wp2_with fail
  have hsz := HC.out
  refine bodyPost_ret (v := .agg cs.toArray) (results_cell_row Try.results44 _ _ (C + 1) 67 cs.toArray (0, 0) _ rfl HBX.out Try.underlying67 rfl (by rw [List.size_toArray, HLN.out]; exact size67)) rfl ⟨cs, rfl, ?_, HF.out.trans2 F3.out (fun b hb e => by omega)⟩
  rw [oCut, HX1.out, HX2.out]
  exact kOp.frame HR.out F3.out (fun b _ hs e => by omega)
end Go.Proofs.Ytplhcfaonhkegaa

namespace Go.Proofs.Ytplhcfaonhkegaa
open Go.RowKit Go.Maps

/-- Both histories, side by side; what Z names is read alone. -/
def Both (Z : Nat → Prop) (w wi : World) (hb rb : Nat) (s r : MHist) : Prop :=
  ∃ c, HistAt c 1 wi hb s ∧ RefAt c 2 wi rb r ∧ Fr Non w wi ∧ (∀ b, b < w.heap.size → c b = 0) ∧ ∀ b, Z b → c b = 0 ∧ b < wi.heap.size
theorem Both.frame {Z : Nat → Prop} {w wi : World} {hb rb : Nat} {s r : MHist} (h : Both Z w wi hb rb s r) : Fr Non w wi := by obtain ⟨_, _, _, h, _⟩ := h; exact h
theorem Both.fr {Z Z' : Nat → Prop} {w wi wj : World} {hb rb : Nat} {s r : MHist} (h : Both Z w wi hb rb s r) (f : Fr Non wi wj) (hZ : ∀ b, Z' b → (Z b ∨ wi.heap.size ≤ b) ∧ b < wj.heap.size) : Both Z' w wj hb rb s r := by
  obtain ⟨c, h1, h2, h3, h4, h5⟩ := h
  refine ⟨clr wi c, h1.clr f, h2.fr f (fun _ _ h => h.elim) (fun _ hb => clr_old hb), h3.trans f, fun b hb => by rw [clr_old (Nat.lt_of_lt_of_le hb h3.size)]; exact h4 b hb, fun b hb => ⟨?_, (hZ b hb).2⟩⟩
  rcases (hZ b hb).1 with h | h
  · rw [clr_old (h5 b h).2]; exact (h5 b h).1
  · exact clr_new h
theorem Both.endH {Z : Nat → Prop} {w wi : World} {hb rb : Nat} {t : MHist} {x : Int × MHist} {c : Nat → Nat} {e : Ending} {w' : World} (h : CallEnd c 1 wi hb x e w') (h2 : RefAt c 2 wi rb t) (h3 : Fr Non w wi) (h4 : ∀ b, b < w.heap.size → c b = 0) (h5 : ∀ b, Z b → c b = 0 ∧ b < wi.heap.size) :
    e = .returned (.int .i64 x.1) ∧ Both Z w w' hb rb x.2 t ∧ Fr (fun b => ¬ Z b) wi w' := by
  obtain ⟨g1, g2, c', g3, g4⟩ := h
  refine ⟨g1, ⟨c', g3, h2.fr g2 (fun b _ h => ⟨by rw [h]; decide, by rw [h]; decide⟩) g4, h3.trans2 g2 (fun b hb e => by rw [h4 b hb] at e; cases e), fun b hb => by rw [g4 b (Nat.lt_of_lt_of_le hb h3.size)]; exact h4 b hb, fun b hb => ⟨by rw [g4 b (h5 b hb).2]; exact (h5 b hb).1, Nat.lt_of_lt_of_le (h5 b hb).2 g2.size⟩⟩, g2.mono fun b _ e hz => by rw [(h5 b hz).1] at e; cases e⟩
theorem Both.endR {Z : Nat → Prop} {w wi : World} {hb rb : Nat} {s : MHist} {x : Int × MHist} {c : Nat → Nat} {e : Ending} {w' : World} (h : RefEnd c 2 wi rb x e w') (h2 : HistAt c 1 wi hb s) (h3 : Fr Non w wi) (h4 : ∀ b, b < w.heap.size → c b = 0) (h5 : ∀ b, Z b → c b = 0 ∧ b < wi.heap.size) :
    e = .returned (.int .i64 x.1) ∧ Both Z w w' hb rb s x.2 ∧ Fr (fun b => ¬ Z b) wi w' := by
  obtain ⟨g1, g2, c', g3, g4⟩ := h
  refine ⟨g1, ⟨c', h2.fr g2 (fun b _ h => ⟨by rw [h]; decide, by rw [h]; decide⟩) g4, g3, h3.trans2 g2 (fun b hb e => by rw [h4 b hb] at e; cases e), fun b hb => by rw [g4 b (Nat.lt_of_lt_of_le hb h3.size)]; exact h4 b hb, fun b hb => ⟨by rw [g4 b (h5 b hb).2]; exact (h5 b hb).1, Nat.lt_of_lt_of_le (h5 b hb).2 g2.size⟩⟩, g2.mono fun b _ e hz => by rw [(h5 b hz).1] at e; cases e⟩
section
variable {Z : Nat → Prop} {w wi : World} {hb rb : Nat} {s r : MHist}
theorem Both.callH (h : Both Z w wi hb rb s r) (hok : HistOk s) (q : Int) (hid : (Lit.int .i64 q).wf = true) (x : MCall) (va : Option Addr) (vc : Nat) (hx : kCall.rd (fun b => b < w.heap.size) wi [.int .i64 x.1, .int .u64 x.2.1, .int .u64 x.2.2.1, .slice va x.2.2.2.length vc] x) :
    Calls Try.prog 45 #[.pointer (some ⟨hb, 0, none⟩), .int .i64 q, .agg #[.int .i64 x.1, .int .u64 x.2.1, .int .u64 x.2.2.1, .slice va x.2.2.2.length vc]] wi fun e w' => e = .returned (.int .i64 (hCall s q x).1) ∧ Both Z w w' hb rb (hCall s q x).2 r ∧ Fr (fun b => ¬ Z b) wi w' := by
  obtain ⟨c, h1, h2, h3, h4, h5⟩ := h
  exact (hcall_at (by decide) h1 hok q hid x va vc (kCall.mono hx fun b _ hb => h4 b hb)).mono fun e w' h => Both.endH h h2 h3 h4 h5
theorem Both.callR (h : Both Z w wi hb rb s r) (hok : HistOk r) (q : Int) (hid : (Lit.int .i64 q).wf = true) (x : MCall) (va : Option Addr) (vc : Nat) (hx : kCall.rd (fun b => b < w.heap.size) wi [.int .i64 x.1, .int .u64 x.2.1, .int .u64 x.2.2.1, .slice va x.2.2.2.length vc] x) :
    Calls Try.prog 52 #[.pointer (some ⟨rb, 0, none⟩), .int .i64 q, .agg #[.int .i64 x.1, .int .u64 x.2.1, .int .u64 x.2.2.1, .slice va x.2.2.2.length vc]] wi fun e w' => e = .returned (.int .i64 (hCall r q x).1) ∧ Both Z w w' hb rb s (hCall r q x).2 ∧ Fr (fun b => ¬ Z b) wi w' := by
  obtain ⟨c, h1, h2, h3, h4, h5⟩ := h
  exact (rcall_at (by decide) h2 hok q hid x va vc (kCall.mono hx fun b _ hb => h4 b hb)).mono fun e w' h => Both.endR h h1 h3 h4 h5
theorem Both.replyH (h : Both Z w wi hb rb s r) (hok : HistOk s) (q : Int) (hid : (Lit.int .i64 q).wf = true) (x : MRes) (rcs : List Value) (hx : kRes.rd (fun b => b < w.heap.size) wi rcs x) :
    Calls Try.prog 46 #[.pointer (some ⟨hb, 0, none⟩), .int .i64 q, .agg rcs.toArray] wi fun e w' => e = .returned (.int .i64 (hReply s q x).1) ∧ Both Z w w' hb rb (hReply s q x).2 r ∧ Fr (fun b => ¬ Z b) wi w' := by
  obtain ⟨c, h1, h2, h3, h4, h5⟩ := h
  exact (reply_at (by decide) h1 hok q hid x rcs (kRes.mono hx fun b _ hb => h4 b hb)).mono fun e w' h => Both.endH h h2 h3 h4 h5
theorem Both.replyR (h : Both Z w wi hb rb s r) (hok : HistOk r) (q : Int) (x : MRes) (rcs : List Value) (hx : kRes.rd (fun b => b < w.heap.size) wi rcs x) :
    Calls Try.prog 53 #[.pointer (some ⟨rb, 0, none⟩), .int .i64 q, .agg rcs.toArray] wi fun e w' => e = .returned (.int .i64 (hReply r q x).1) ∧ Both Z w w' hb rb s (hReply r q x).2 ∧ Fr (fun b => ¬ Z b) wi w' := by
  obtain ⟨c, h1, h2, h3, h4, h5⟩ := h
  exact (rreply_at (by decide) h2 hok q x rcs (kRes.mono hx fun b _ hb => h4 b hb)).mono fun e w' h => Both.endR h h1 h3 h4 h5
theorem Both.killH (h : Both Z w wi hb rb s r) (hok : HistOk s) (key : Int) (hkey : 0 ≤ key ∧ key ≤ 18446744073709551615) (sure : Bool) :
    Calls Try.prog 51 #[.pointer (some ⟨hb, 0, none⟩), .int .u64 key, .bool sure] wi fun e w' => e = .returned (.int .i64 (hKill s key sure).1) ∧ Both Z w w' hb rb (hKill s key sure).2 r ∧ Fr (fun b => ¬ Z b) wi w' := by
  obtain ⟨c, h1, h2, h3, h4, h5⟩ := h
  exact (kill_at (by decide) h1 hok key hkey sure).mono fun e w' h => Both.endH h h2 h3 h4 h5
theorem Both.killR (h : Both Z w wi hb rb s r) (hok : HistOk r) (key : Int) (hkey : 0 ≤ key ∧ key ≤ 18446744073709551615) (sure : Bool) :
    Calls Try.prog 54 #[.pointer (some ⟨rb, 0, none⟩), .int .u64 key, .bool sure] wi fun e w' => e = .returned (.int .i64 (hKill r key sure).1) ∧ Both Z w w' hb rb s (hKill r key sure).2 ∧ Fr (fun b => ¬ Z b) wi w' := by
  obtain ⟨c, h1, h2, h3, h4, h5⟩ := h
  exact (rkill_at (by decide) h2 hok key hkey sure).mono fun e w' h => Both.endR h h1 h3 h4 h5
theorem Both.allH (h : Both Z w wi hb rb s r) (hok : HistOk s) : Calls Try.prog 47 #[.pointer (some ⟨hb, 0, none⟩)] wi fun e w' => ∃ v, e = .returned v ∧ Sl kHap All w' v (hAll s.2) ∧ Fr Non wi w' := by
  obtain ⟨c, h1, _⟩ := h
  exact (all_at h1 hok).mono fun e w' ⟨v, g1, g2, g3, _⟩ => ⟨v, g1, g2.sl, g3⟩
theorem Both.allR (h : Both Z w wi hb rb s r) (hok : HistOk r) : Calls Try.prog 56 #[.pointer (some ⟨rb, 0, none⟩)] wi fun e w' => ∃ v, e = .returned v ∧ Sl kHap All w' v (hAll r.2) ∧ Fr Non wi w' := by
  obtain ⟨c, _, h1, _⟩ := h
  exact (rall_at h1 hok).mono fun e w' ⟨v, g1, g2, g3⟩ => ⟨v, g1, g2.sl, g3⟩
theorem Both.openH (h : Both Z w wi hb rb s r) (hok : HistOk s) : Calls Try.prog 57 #[.pointer (some ⟨hb, 0, none⟩)] wi fun e w' => ∃ v, e = .returned v ∧ GRow w' 3 1 v (hOpens s.2).length (ints (hOpens s.2)) ∧ Fr Non wi w' := by
  obtain ⟨c, h1, _⟩ := h
  exact open_at h1 hok
theorem Both.openR (h : Both Z w wi hb rb s r) (hok : HistOk r) : Calls Try.prog 58 #[.pointer (some ⟨rb, 0, none⟩)] wi fun e w' => ∃ v, e = .returned v ∧ GRow w' 3 1 v (hOpens r.2).length (ints (hOpens r.2)) ∧ Fr Non wi w' := by
  obtain ⟨c, _, h1, _⟩ := h
  exact ropens_at h1 hok
end
theorem Both.made {w w1 : World} {hb : Nat} (h : AtW w w1 hb (0, [])) : Both Non w (w1.alloc (.cells #[.int .i64 0, .slice none 0 0] 86)) hb w1.heap.size (0, []) (0, []) := by
  obtain ⟨c, h1, h2, h3⟩ := h
  have f : Fr Non w1 (w1.alloc (.cells #[.int .i64 0, .slice none 0 0] 86)) := (Fr.refl _ _).alloc _
  refine ⟨fun b => if b < w1.heap.size then c b else 2, h1.fr f (fun _ _ h => h.elim) (fun b hb => if_pos hb), ⟨.slice none 0 0, [], alloc_at w1 _, GRow.nil _ _ _, rfl, if_neg (by omega), by simp [Value.ownBlock]⟩, h2.trans f, fun b hb => ?_, fun b h => h.elim⟩
  have := h2.size
  simp only [if_pos (show b < w1.heap.size by omega)]
  exact h3 b hb
end Go.Proofs.Ytplhcfaonhkegaa

namespace Go.Proofs.Ytplhcfaonhkegaa
open Go.RowKit Go.Maps

theorem op_rd {S : Nat → Prop} {w : World} {a : Option Addr} {n c : Nat} {l : List MOp} (h : Sl kOp S w (.slice a n c) l) (i : Nat) (hi : i < l.length) :
    ∃ b o cs, a = some ⟨b, o, none⟩ ∧ kOp.rd S w cs l[i] ∧ cs.length = 22 ∧ (Instr.loadAt 67 (.pointer (some ⟨b, o + i * 22, none⟩))).run Try.prog w = .ok (.agg cs.toArray) w := by
  obtain ⟨b, o, cs, rfl, _, _, _, hr, hc⟩ := h.at i hi
  have hl : cs.length = 22 := kOp.len hr
  refine ⟨b, o, cs, rfl, hr, hl, run_loadAt_list _ _ Try.underlying67 rfl (by rw [hl]; exact size67) fun j v hv => ?_⟩
  obtain ⟨hj, rfl⟩ := List.getElem?_eq_some_iff.1 hv
  exact hc j hj
theorem do_of {t : TypeId} {p v : Value} {y : World} (h : (Instr.loadAt t p).run Try.prog y = .ok v y) : (do pure (Next.value (← Instr.loadAt t p)) : Sem Next).run Try.prog y = .ok (.value v) y := by
  simp only [Sem.run_bind, h, Result.andThen_ok]
  rfl
def RunCut (w : World) (hb rb : Nat) (v : Value) (wx : World) : Prop := v = .bool true ∧ ∃ s, HistOk s ∧ Both Non w wx hb rb s s

set_option maxRecDepth 100000 in
set_option maxHeartbeats 4000000 in
theorem hruns_law {w : World} {u : Value} {L : List MOp} (h : Sl kOp All w u L) : Calls Try.prog 11 #[u] w fun e w' => e = .returned (.bool true) ∧ Fr Non w w' := by
  obtain ⟨a, n, rfl, _, hcap, _⟩ := h.frm
  unfold maxLen at hcap
  have HL := Lib.hid h.there
  clear h
  go_enter Try.func11, Try.ntmps11
  go_wp2_with fail
  refine (AtW.new w).mono ?_
  rintro e w1 ⟨hb, rfl, h1⟩
  have H1 := Lib.hid (Both.made h1)
  clear h1
  go_wp2_with fail
  generalize w1.alloc (.cells #[.int .i64 0, .slice none 0 0] 86) = w2 at H1 ⊢
  obtain ⟨rb, hrb⟩ : ∃ rb, w1.heap.size = rb := ⟨_, rfl⟩
  rw [hrb] at H1 ⊢
  clear hrb
  go_loopw [5] (fun i wr => ∃ (j : Nat), j ≤ L.length ∧ i = .int .i64 j ∧ Hid (∃ s, HistOk s ∧ Both Non w wr hb rb s s)) (fun i _ => L.length - (intOf i).toNat)
  case atStart => exact ⟨0, by omega, rfl, _, HistOk.nil, H1.out⟩
  case round =>
    obtain ⟨j, hj, rfl, HI⟩ := hrel
    have j0 : (0 : Int) ≤ (j : Int) := by omega
    obtain ⟨s, hok, hB⟩ := HI.out
    have OK := Lib.hid hok
    have HB := Lib.hid hB
    by_cases hlt : j < L.length ∧ j < 60
    · obtain ⟨hl1, hl2⟩ := hlt
      obtain ⟨B, O, ocs, rfl, hr, hl, ld⟩ := op_rd (HL.out.stay hB.frame) j hl1
      have j1 : (j : Int) < (L.length : Int) := by omega
      have j2 : (j : Int) < 60 := by omega
      have LD := Lib.hid ld
      have HC := Lib.hid (cut_any hr)
      clear hok hB hr hl ld HI
      go_wp2_with (refine wpList_load_v rfl 67 _ rfl (.pointer (some ⟨B, O + j * 22, none⟩)) rfl _ LD.out ?_)
      refine HC.out.mono ?_
      rintro e w3 ⟨cs, rfl, hr3, f3⟩
      obtain ⟨X, hX⟩ : ∃ X, oCut L[j] = X := ⟨_, rfl⟩
      rw [hX] at hr3
      clear hX HC LD
      have hl3 : cs.length = 22 := kOp.len hr3
      have ON := Lib.hid (kOp.one hr3)
      have HR3 := Lib.hid hr3
      clear hr3
      go_wp2_with (refine wpList_store_block rfl 67 _ _ rfl w3.heap.size 0 rfl (.agg cs.toArray) rfl _ 67 (alloc_at w3 _) ?hfit ?hinf ?hone ?_)
      case hfit => simp [Value.cells, hl3]
      case hinf => rw [show (Value.agg cs.toArray).cells.size = 22 by simp [Value.cells, hl3]]; exact size67
      case hone => intro u hu; exact ON.out u (by simpa [Value.cells] using hu)
      intro w4 hbx f4
      rw [putAt_whole _ _ (by simp [Value.cells, hl3])] at hbx
      replace hbx : w4.heap[w3.heap.size]? = some (.cells cs.toArray 67 (0, 0)) := by simpa [Value.cells] using hbx
      have f34 : Fr Non w3 w4 := ((Fr.refl Non w3).alloc _).trans2 f4 (fun b hb e => by omega)
      obtain ⟨D, hD⟩ : ∃ D, w3.heap.size = D := ⟨_, rfl⟩
      rw [hD] at hbx ⊢
      have HB4 : Hid (Both (fun b => b = D) w w4 hb rb s s) := Lib.hid (HB.out.fr (f3.trans f34) (fun b hb => by
        subst hb
        exact ⟨.inr (by have := f3.size; omega), lt_of_block hbx⟩))
      obtain ⟨cc, rc, ecs, h5, h6, h7, h8, _, hid⟩ := op_cells (kOp.stay (kOp.mono HR3.out (S' := fun b => b < w.heap.size) (fun b _ h => h.1)) f34)
      subst ecs
      obtain ⟨vv, hcc, hvv, _, hkey, _⟩ := call_cells h5
      obtain ⟨va, vc, rfl, _⟩ := hvv.frm
      have OB : Hid (∀ y : World, y.heap[D]? = w4.heap[D]? → y.cell? ⟨D, 0, none⟩ = some (.int .i64 X.1) ∧ y.cell? ⟨D, 1, none⟩ = some (.int .i64 X.2.1) ∧ (Instr.loadAt 39 (.pointer (some ⟨D, 2, none⟩))).run Try.prog y = .ok (.agg cc.toArray) y ∧
          (Instr.loadAt 52 (.pointer (some ⟨D, 6, none⟩))).run Try.prog y = .ok (.agg rc.toArray) y ∧ y.cell? ⟨D, 21, none⟩ = some (.bool X.2.2.2.2)) := Lib.hid (fun y hy => op_box (hy.trans hbx) h7 h8)
      have K3 : Hid (∀ y : World, y.heap[D]? = w4.heap[D]? → y.cell? ⟨D, 3, none⟩ = some (.int .u64 X.2.2.1.2.1)) := Lib.hid (fun y hy => by
        rw [cell_of_row y D _ _ _ _ (hy.trans hbx), hcc]; rfl)
      have L39 : Hid (∀ y : World, y.heap[D]? = w4.heap[D]? → (do pure (Next.value (← Instr.loadAt 39 (.pointer (some ⟨D, 2, none⟩)))) : Sem Next).run Try.prog y = .ok (.value (.agg #[.int .i64 X.2.2.1.1, .int .u64 X.2.2.1.2.1, .int .u64 X.2.2.1.2.2.1, .slice va X.2.2.1.2.2.2.length vc])) y) := Lib.hid (fun y hy => by
        have := do_of (op_box (hy.trans hbx) h7 h8).2.2.1
        rw [hcc] at this
        exact this)
      have L52 : Hid (∀ y : World, y.heap[D]? = w4.heap[D]? → (do pure (Next.value (← Instr.loadAt 52 (.pointer (some ⟨D, 6, none⟩)))) : Sem Next).run Try.prog y = .ok (.value (.agg rc.toArray)) y) := Lib.hid (fun y hy => do_of (op_box (hy.trans hbx) h7 h8).2.2.2.1)
      rw [hcc] at h5
      have hDl : D < w4.heap.size := lt_of_block hbx
      have HBX := Lib.hid hbx
      have CC := Lib.hid hcc
      have H5 := Lib.hid h5
      have H6 := Lib.hid h6
      have HID := Lib.hid hid
      have HKEY := Lib.hid hkey
      clear f3 f4 f34 hbx hD h5 h6 h7 h8 hid hvv hcc hkey hl3 ON HR3 HB
      obtain ⟨e0, _⟩ := OB.out w4 rfl
      go_upto_block 2 with (fail)
      go_cut [7] (fun v wx => RunCut w hb rb v wx)
      case first =>
        have HBd : Hid (Both (fun b => b = D) w w4.drew hb rb s s) := Lib.hid (HB4.out.fr ((Fr.refl _ _).drew) (fun b hb => ⟨.inl hb, by subst hb; exact hDl⟩))
        have H5d := Lib.hid (kCall.stay H5.out ((Fr.refl Non w4).drew))
        have H6d := Lib.hid (kRes.stay H6.out ((Fr.refl Non w4).drew))
        have hd : w4.drew.heap[D]? = w4.heap[D]? := rfl
        have hdz : w4.drew.heap.size = w4.heap.size := rfl
        by_cases k1 : X.1 = 1
        · have z1 : (X.1 == 1) = true := by simpa using k1
          clear e0 k1
          go_wp2_with fail
          refine wp_draw [((fun y => y.heap[D]? = w4.heap[D]?), [(.free, 0), (.free, 1), (.held, 2), (.free, 3), (.held, 4), (.free, 6), (.free, 7), (.held, 8), (.free, 9), (.held, 10), (.kept, 5), (.kept, 11), (.free, 12), (.free, 13)])] 14 (by kernel_rfl) (by kernel_rfl) (fun _ _ _ _ _ h => h) ⟨rfl, ?_⟩
          generalize w4.drew = wd at HBd H5d H6d hd hdz ⊢
          repeat (first
            | (refine' wpPlan_free (v := _) rfl (by rfl) ?_ ?_
               rotate_left
               · (intro w'; skip; go_simp; try rfl)
               simp only [List.getElem_toArray, List.getElem_cons_zero, List.getElem_cons_succ, Act.put, List.setIfInBounds_toArray, List.set_cons_zero, List.set_cons_succ])
            | (refine' wpPlan_held (v := _) rfl (by rfl) (fun w' hS => L39.out w' hS) ?_
               simp only [List.getElem_toArray, List.getElem_cons_zero, List.getElem_cons_succ, Act.put, List.setIfInBounds_toArray, List.set_cons_zero, List.set_cons_succ])
            | (refine' wpPlan_held (v := _) rfl (by rfl) (fun w' hS => L52.out w' hS) ?_
               simp only [List.getElem_toArray, List.getElem_cons_zero, List.getElem_cons_succ, Act.put, List.setIfInBounds_toArray, List.set_cons_zero, List.set_cons_succ])
            | (refine' wpPlan_held (v := _) rfl (by rfl) ?_ ?_
               rotate_left
               · (intro w' hS; skip; (obtain ⟨_, q1, _, _, q21⟩ := OB.out w' hS; have q3 := K3.out w' hS; clear hS); go_simp; try rfl)
               simp only [List.getElem_toArray, List.getElem_cons_zero, List.getElem_cons_succ, Act.put, List.setIfInBounds_toArray, List.set_cons_zero, List.set_cons_succ])
            | (refine' wpPlan_skip rfl (by rfl) ?_
               simp only [List.getElem_toArray, List.getElem_cons_zero, List.getElem_cons_succ, Act.put, List.setIfInBounds_toArray, List.set_cons_zero, List.set_cons_succ])
            | (refine' wpPlan_skipHeld rfl (by rfl) ?_
               simp only [List.getElem_toArray, List.getElem_cons_zero, List.getElem_cons_succ, Act.put, List.setIfInBounds_toArray, List.set_cons_zero, List.set_cons_succ]))
          refine' wpPlan_kept rfl ?_
          intro K hK
          go_simp
          refine (HBd.out.callH OK.out X.2.1 HID.out X.2.2.1 va vc H5d.out).mono ?_
          rintro e w5 ⟨rfl, b5, f5⟩
          go_simp
          have hd5 : w5.heap[D]? = w4.heap[D]? := (f5.block D (by rw [hdz]; exact hDl) (fun h => h rfl)).trans hd
          have B5 := Lib.hid b5
          have FB : ∀ b, b < w.heap.size → w5.heap[b]? = wd.heap[b]? := fun b hb1 => (b5.frame.block b hb1 id).trans (HBd.out.frame.block b hb1 id).symm
          have H5e := Lib.hid (kCall.fr H5d.out (fun b _ hs => FB b hs) (fun _ _ h => h) : kCall.rd (fun b => b < w.heap.size) w5 _ _)
          have H6e := Lib.hid (kRes.fr H6d.out (fun b _ hs => FB b hs) (fun _ _ h => h) : kRes.rd (fun b => b < w.heap.size) w5 _ _)
          clear b5 f5 FB
          refine hK _ _ ⟨hd5, ?_⟩
          clear hK K
          repeat (first
            | (refine' wpPlan_free (v := _) rfl (by rfl) ?_ ?_
               rotate_left
               · (intro w'; skip; go_simp; try rfl)
               simp only [List.getElem_toArray, List.getElem_cons_zero, List.getElem_cons_succ, Act.put, List.setIfInBounds_toArray, List.set_cons_zero, List.set_cons_succ])
            | (refine' wpPlan_held (v := _) rfl (by rfl) ?_ ?_
               rotate_left
               · (intro w' hS; skip; skip; go_simp; try rfl)
               simp only [List.getElem_toArray, List.getElem_cons_zero, List.getElem_cons_succ, Act.put, List.setIfInBounds_toArray, List.set_cons_zero, List.set_cons_succ])
            | (refine' wpPlan_skip rfl (by rfl) ?_
               simp only [List.getElem_toArray, List.getElem_cons_zero, List.getElem_cons_succ, Act.put, List.setIfInBounds_toArray, List.set_cons_zero, List.set_cons_succ])
            | (refine' wpPlan_skipHeld rfl (by rfl) ?_
               simp only [List.getElem_toArray, List.getElem_cons_zero, List.getElem_cons_succ, Act.put, List.setIfInBounds_toArray, List.set_cons_zero, List.set_cons_succ]))
          refine' wpPlan_kept rfl ?_
          intro K hK
          go_simp
          refine (B5.out.callR OK.out X.2.1 HID.out X.2.2.1 va vc H5e.out).mono ?_
          rintro e w6 ⟨rfl, b6, f6⟩
          go_simp
          have hd6 : w6.heap[D]? = w4.heap[D]? := (f6.block D (by have := lt_of_block (hd5.trans HBX.out); exact this) (fun h => h rfl)).trans hd5
          have B6 := Lib.hid b6
          clear b6 f6
          refine hK _ _ ⟨hd6, ?_⟩
          clear hK K
          repeat (first
            | (refine' wpPlan_free (v := _) rfl (by rfl) ?_ ?_
               rotate_left
               · (intro w'; skip; go_simp; try rfl)
               simp only [List.getElem_toArray, List.getElem_cons_zero, List.getElem_cons_succ, Act.put, List.setIfInBounds_toArray, List.set_cons_zero, List.set_cons_succ])
            | (refine' wpPlan_held (v := _) rfl (by rfl) ?_ ?_
               rotate_left
               · (intro w' hS; skip; skip; go_simp; try rfl)
               simp only [List.getElem_toArray, List.getElem_cons_zero, List.getElem_cons_succ, Act.put, List.setIfInBounds_toArray, List.set_cons_zero, List.set_cons_succ])
            | (refine' wpPlan_skip rfl (by rfl) ?_
               simp only [List.getElem_toArray, List.getElem_cons_zero, List.getElem_cons_succ, Act.put, List.setIfInBounds_toArray, List.set_cons_zero, List.set_cons_succ])
            | (refine' wpPlan_skipHeld rfl (by rfl) ?_
               simp only [List.getElem_toArray, List.getElem_cons_zero, List.getElem_cons_succ, Act.put, List.setIfInBounds_toArray, List.set_cons_zero, List.set_cons_succ]))
          refine wpPlan_end ?_
          simp only [wpSegs, List.drop_succ_cons, List.drop_zero]
          go_wp2_with fail
          go_meet
          exact ⟨by (first | rfl | simp), _, OK.out.call _ _, B6.out.fr (Fr.refl _ _) (fun b h => h.elim)⟩
        have z1 : (X.1 == 1) = false := by simpa using k1
        by_cases k2 : X.1 = 2
        · have z2 : (X.1 == 2) = true := by simpa using k2
          clear e0 k2 k1
          go_wp2_with fail
          refine wp_draw [((fun y => y.heap[D]? = w4.heap[D]?), [(.free, 0), (.free, 1), (.held, 2), (.free, 3), (.held, 4), (.free, 6), (.free, 7), (.held, 8), (.free, 9), (.held, 10), (.kept, 5), (.kept, 11), (.free, 12), (.free, 13)])] 14 (by kernel_rfl) (by kernel_rfl) (fun _ _ _ _ _ h => h) ⟨rfl, ?_⟩
          generalize w4.drew = wd at HBd H5d H6d hd hdz ⊢
          repeat (first
            | (refine' wpPlan_free (v := _) rfl (by rfl) ?_ ?_
               rotate_left
               · (intro w'; skip; go_simp; try rfl)
               simp only [List.getElem_toArray, List.getElem_cons_zero, List.getElem_cons_succ, Act.put, List.setIfInBounds_toArray, List.set_cons_zero, List.set_cons_succ])
            | (refine' wpPlan_held (v := _) rfl (by rfl) (fun w' hS => L39.out w' hS) ?_
               simp only [List.getElem_toArray, List.getElem_cons_zero, List.getElem_cons_succ, Act.put, List.setIfInBounds_toArray, List.set_cons_zero, List.set_cons_succ])
            | (refine' wpPlan_held (v := _) rfl (by rfl) (fun w' hS => L52.out w' hS) ?_
               simp only [List.getElem_toArray, List.getElem_cons_zero, List.getElem_cons_succ, Act.put, List.setIfInBounds_toArray, List.set_cons_zero, List.set_cons_succ])
            | (refine' wpPlan_held (v := _) rfl (by rfl) ?_ ?_
               rotate_left
               · (intro w' hS; skip; (obtain ⟨_, q1, _, _, q21⟩ := OB.out w' hS; have q3 := K3.out w' hS; clear hS); go_simp; try rfl)
               simp only [List.getElem_toArray, List.getElem_cons_zero, List.getElem_cons_succ, Act.put, List.setIfInBounds_toArray, List.set_cons_zero, List.set_cons_succ])
            | (refine' wpPlan_skip rfl (by rfl) ?_
               simp only [List.getElem_toArray, List.getElem_cons_zero, List.getElem_cons_succ, Act.put, List.setIfInBounds_toArray, List.set_cons_zero, List.set_cons_succ])
            | (refine' wpPlan_skipHeld rfl (by rfl) ?_
               simp only [List.getElem_toArray, List.getElem_cons_zero, List.getElem_cons_succ, Act.put, List.setIfInBounds_toArray, List.set_cons_zero, List.set_cons_succ]))
          refine' wpPlan_kept rfl ?_
          intro K hK
          go_simp
          refine (HBd.out.replyH OK.out X.2.1 HID.out X.2.2.2.1 rc H6d.out).mono ?_
          rintro e w5 ⟨rfl, b5, f5⟩
          go_simp
          have hd5 : w5.heap[D]? = w4.heap[D]? := (f5.block D (by rw [hdz]; exact hDl) (fun h => h rfl)).trans hd
          have B5 := Lib.hid b5
          have FB : ∀ b, b < w.heap.size → w5.heap[b]? = wd.heap[b]? := fun b hb1 => (b5.frame.block b hb1 id).trans (HBd.out.frame.block b hb1 id).symm
          have H5e := Lib.hid (kCall.fr H5d.out (fun b _ hs => FB b hs) (fun _ _ h => h) : kCall.rd (fun b => b < w.heap.size) w5 _ _)
          have H6e := Lib.hid (kRes.fr H6d.out (fun b _ hs => FB b hs) (fun _ _ h => h) : kRes.rd (fun b => b < w.heap.size) w5 _ _)
          clear b5 f5 FB
          refine hK _ _ ⟨hd5, ?_⟩
          clear hK K
          repeat (first
            | (refine' wpPlan_free (v := _) rfl (by rfl) ?_ ?_
               rotate_left
               · (intro w'; skip; go_simp; try rfl)
               simp only [List.getElem_toArray, List.getElem_cons_zero, List.getElem_cons_succ, Act.put, List.setIfInBounds_toArray, List.set_cons_zero, List.set_cons_succ])
            | (refine' wpPlan_held (v := _) rfl (by rfl) ?_ ?_
               rotate_left
               · (intro w' hS; skip; skip; go_simp; try rfl)
               simp only [List.getElem_toArray, List.getElem_cons_zero, List.getElem_cons_succ, Act.put, List.setIfInBounds_toArray, List.set_cons_zero, List.set_cons_succ])
            | (refine' wpPlan_skip rfl (by rfl) ?_
               simp only [List.getElem_toArray, List.getElem_cons_zero, List.getElem_cons_succ, Act.put, List.setIfInBounds_toArray, List.set_cons_zero, List.set_cons_succ])
            | (refine' wpPlan_skipHeld rfl (by rfl) ?_
               simp only [List.getElem_toArray, List.getElem_cons_zero, List.getElem_cons_succ, Act.put, List.setIfInBounds_toArray, List.set_cons_zero, List.set_cons_succ]))
          refine' wpPlan_kept rfl ?_
          intro K hK
          go_simp
          refine (B5.out.replyR OK.out X.2.1 X.2.2.2.1 rc H6e.out).mono ?_
          rintro e w6 ⟨rfl, b6, f6⟩
          go_simp
          have hd6 : w6.heap[D]? = w4.heap[D]? := (f6.block D (by have := lt_of_block (hd5.trans HBX.out); exact this) (fun h => h rfl)).trans hd5
          have B6 := Lib.hid b6
          clear b6 f6
          refine hK _ _ ⟨hd6, ?_⟩
          clear hK K
          repeat (first
            | (refine' wpPlan_free (v := _) rfl (by rfl) ?_ ?_
               rotate_left
               · (intro w'; skip; go_simp; try rfl)
               simp only [List.getElem_toArray, List.getElem_cons_zero, List.getElem_cons_succ, Act.put, List.setIfInBounds_toArray, List.set_cons_zero, List.set_cons_succ])
            | (refine' wpPlan_held (v := _) rfl (by rfl) ?_ ?_
               rotate_left
               · (intro w' hS; skip; skip; go_simp; try rfl)
               simp only [List.getElem_toArray, List.getElem_cons_zero, List.getElem_cons_succ, Act.put, List.setIfInBounds_toArray, List.set_cons_zero, List.set_cons_succ])
            | (refine' wpPlan_skip rfl (by rfl) ?_
               simp only [List.getElem_toArray, List.getElem_cons_zero, List.getElem_cons_succ, Act.put, List.setIfInBounds_toArray, List.set_cons_zero, List.set_cons_succ])
            | (refine' wpPlan_skipHeld rfl (by rfl) ?_
               simp only [List.getElem_toArray, List.getElem_cons_zero, List.getElem_cons_succ, Act.put, List.setIfInBounds_toArray, List.set_cons_zero, List.set_cons_succ]))
          refine wpPlan_end ?_
          simp only [wpSegs, List.drop_succ_cons, List.drop_zero]
          go_wp2_with fail
          go_meet
          exact ⟨by (first | rfl | simp), _, OK.out.reply _ _, B6.out.fr (Fr.refl _ _) (fun b h => h.elim)⟩
        have z2 : (X.1 == 2) = false := by simpa using k2
        by_cases k3 : X.1 = 3
        · have z3 : (X.1 == 3) = true := by simpa using k3
          clear e0 k3 k2 k1
          go_wp2_with fail
          refine wp_draw [((fun y => y.heap[D]? = w4.heap[D]?), [(.free, 0), (.free, 1), (.free, 2), (.held, 3), (.free, 4), (.held, 5), (.free, 7), (.free, 8), (.free, 9), (.held, 10), (.free, 11), (.held, 12), (.kept, 6), (.kept, 13), (.free, 14), (.free, 15)])] 16 (by kernel_rfl) (by kernel_rfl) (fun _ _ _ _ _ h => h) ⟨rfl, ?_⟩
          generalize w4.drew = wd at HBd H5d H6d hd hdz ⊢
          repeat (first
            | (refine' wpPlan_free (v := _) rfl (by rfl) ?_ ?_
               rotate_left
               · (intro w'; skip; go_simp; try rfl)
               simp only [List.getElem_toArray, List.getElem_cons_zero, List.getElem_cons_succ, Act.put, List.setIfInBounds_toArray, List.set_cons_zero, List.set_cons_succ])
            | (refine' wpPlan_held (v := _) rfl (by rfl) (fun w' hS => L39.out w' hS) ?_
               simp only [List.getElem_toArray, List.getElem_cons_zero, List.getElem_cons_succ, Act.put, List.setIfInBounds_toArray, List.set_cons_zero, List.set_cons_succ])
            | (refine' wpPlan_held (v := _) rfl (by rfl) (fun w' hS => L52.out w' hS) ?_
               simp only [List.getElem_toArray, List.getElem_cons_zero, List.getElem_cons_succ, Act.put, List.setIfInBounds_toArray, List.set_cons_zero, List.set_cons_succ])
            | (refine' wpPlan_held (v := _) rfl (by rfl) ?_ ?_
               rotate_left
               · (intro w' hS; skip; (obtain ⟨_, q1, _, _, q21⟩ := OB.out w' hS; have q3 := K3.out w' hS; clear hS); go_simp; try rfl)
               simp only [List.getElem_toArray, List.getElem_cons_zero, List.getElem_cons_succ, Act.put, List.setIfInBounds_toArray, List.set_cons_zero, List.set_cons_succ])
            | (refine' wpPlan_skip rfl (by rfl) ?_
               simp only [List.getElem_toArray, List.getElem_cons_zero, List.getElem_cons_succ, Act.put, List.setIfInBounds_toArray, List.set_cons_zero, List.set_cons_succ])
            | (refine' wpPlan_skipHeld rfl (by rfl) ?_
               simp only [List.getElem_toArray, List.getElem_cons_zero, List.getElem_cons_succ, Act.put, List.setIfInBounds_toArray, List.set_cons_zero, List.set_cons_succ]))
          refine' wpPlan_kept rfl ?_
          intro K hK
          go_simp
          refine (HBd.out.killH OK.out X.2.2.1.2.1 HKEY.out X.2.2.2.2).mono ?_
          rintro e w5 ⟨rfl, b5, f5⟩
          go_simp
          have hd5 : w5.heap[D]? = w4.heap[D]? := (f5.block D (by rw [hdz]; exact hDl) (fun h => h rfl)).trans hd
          have B5 := Lib.hid b5
          have FB : ∀ b, b < w.heap.size → w5.heap[b]? = wd.heap[b]? := fun b hb1 => (b5.frame.block b hb1 id).trans (HBd.out.frame.block b hb1 id).symm
          have H5e := Lib.hid (kCall.fr H5d.out (fun b _ hs => FB b hs) (fun _ _ h => h) : kCall.rd (fun b => b < w.heap.size) w5 _ _)
          have H6e := Lib.hid (kRes.fr H6d.out (fun b _ hs => FB b hs) (fun _ _ h => h) : kRes.rd (fun b => b < w.heap.size) w5 _ _)
          clear b5 f5 FB
          refine hK _ _ ⟨hd5, ?_⟩
          clear hK K
          repeat (first
            | (refine' wpPlan_free (v := _) rfl (by rfl) ?_ ?_
               rotate_left
               · (intro w'; skip; go_simp; try rfl)
               simp only [List.getElem_toArray, List.getElem_cons_zero, List.getElem_cons_succ, Act.put, List.setIfInBounds_toArray, List.set_cons_zero, List.set_cons_succ])
            | (refine' wpPlan_held (v := _) rfl (by rfl) ?_ ?_
               rotate_left
               · (intro w' hS; skip; skip; go_simp; try rfl)
               simp only [List.getElem_toArray, List.getElem_cons_zero, List.getElem_cons_succ, Act.put, List.setIfInBounds_toArray, List.set_cons_zero, List.set_cons_succ])
            | (refine' wpPlan_skip rfl (by rfl) ?_
               simp only [List.getElem_toArray, List.getElem_cons_zero, List.getElem_cons_succ, Act.put, List.setIfInBounds_toArray, List.set_cons_zero, List.set_cons_succ])
            | (refine' wpPlan_skipHeld rfl (by rfl) ?_
               simp only [List.getElem_toArray, List.getElem_cons_zero, List.getElem_cons_succ, Act.put, List.setIfInBounds_toArray, List.set_cons_zero, List.set_cons_succ]))
          refine' wpPlan_kept rfl ?_
          intro K hK
          go_simp
          refine (B5.out.killR OK.out X.2.2.1.2.1 HKEY.out X.2.2.2.2).mono ?_
          rintro e w6 ⟨rfl, b6, f6⟩
          go_simp
          have hd6 : w6.heap[D]? = w4.heap[D]? := (f6.block D (by have := lt_of_block (hd5.trans HBX.out); exact this) (fun h => h rfl)).trans hd5
          have B6 := Lib.hid b6
          clear b6 f6
          refine hK _ _ ⟨hd6, ?_⟩
          clear hK K
          repeat (first
            | (refine' wpPlan_free (v := _) rfl (by rfl) ?_ ?_
               rotate_left
               · (intro w'; skip; go_simp; try rfl)
               simp only [List.getElem_toArray, List.getElem_cons_zero, List.getElem_cons_succ, Act.put, List.setIfInBounds_toArray, List.set_cons_zero, List.set_cons_succ])
            | (refine' wpPlan_held (v := _) rfl (by rfl) ?_ ?_
               rotate_left
               · (intro w' hS; skip; skip; go_simp; try rfl)
               simp only [List.getElem_toArray, List.getElem_cons_zero, List.getElem_cons_succ, Act.put, List.setIfInBounds_toArray, List.set_cons_zero, List.set_cons_succ])
            | (refine' wpPlan_skip rfl (by rfl) ?_
               simp only [List.getElem_toArray, List.getElem_cons_zero, List.getElem_cons_succ, Act.put, List.setIfInBounds_toArray, List.set_cons_zero, List.set_cons_succ])
            | (refine' wpPlan_skipHeld rfl (by rfl) ?_
               simp only [List.getElem_toArray, List.getElem_cons_zero, List.getElem_cons_succ, Act.put, List.setIfInBounds_toArray, List.set_cons_zero, List.set_cons_succ]))
          refine wpPlan_end ?_
          simp only [wpSegs, List.drop_succ_cons, List.drop_zero]
          go_wp2_with fail
          go_meet
          exact ⟨by (first | rfl | simp), _, OK.out.kill _ _, B6.out.fr (Fr.refl _ _) (fun b h => h.elim)⟩
        have z3 : (X.1 == 3) = false := by simpa using k3
        clear k1 k2 k3 hd hdz
        go_wp2_with fail
        go_meet
        exact ⟨rfl, _, OK.out, HB4.out.fr (Fr.refl _ _) (fun b h => h.elim)⟩
      case rest =>
      obtain ⟨rfl, s2, ok2, b2⟩ := hcut
      have OK2 := Lib.hid ok2
      have HB2 := Lib.hid b2
      clear ok2 b2 OB K3 L39 L52 HBX HB4 OK H5 H6 HKEY HID CC
      go_wp2_with fail
      refine (HB2.out.allH OK2.out).mono ?_
      rintro e wa ⟨va1, rfl, la, fa⟩
      have Ba := Lib.hid (HB2.out.fr fa (Z' := Non) (fun b h => h.elim))
      have LA := Lib.hid la
      clear la fa
      go_wp2_with fail
      refine (Ba.out.allR OK2.out).mono ?_
      rintro e wb ⟨vb1, rfl, lb, fb⟩
      have Bb := Lib.hid (Ba.out.fr fb (Z' := Non) (fun b h => h.elim))
      have HSM := Lib.hid (hsame_any (LA.out.stay fb) lb (by have := OK2.out.len; have := OK2.out.most; simp [hAll]; omega))
      clear lb fb Ba LA
      go_wp2_with fail
      refine HSM.out.mono ?_
      rintro e wc2 ⟨rfl, fc⟩
      have Bc := Lib.hid (Bb.out.fr fc (Z' := Non) (fun b h => h.elim))
      clear fc Bb HSM
      go_wp2_with fail
      refine (Bc.out.openH OK2.out).mono ?_
      rintro e wd ⟨vd, rfl, ld, fd⟩
      have Bd := Lib.hid (Bc.out.fr fd (Z' := Non) (fun b h => h.elim))
      have LDD := Lib.hid ld
      clear ld fd Bc
      go_wp2_with fail
      refine (Bd.out.openR OK2.out).mono ?_
      rintro e we ⟨ve, rfl, le, fe⟩
      have Be := Lib.hid (Bd.out.fr fe (Z' := Non) (fun b h => h.elim))
      have HSI := Lib.hid (sameInts_any (LDD.out.keep fun b hb => fe.block b (LDD.out.lt b hb) id) le (by have := hOpen_len OK2.out; omega))
      clear le fe Bd LDD
      go_wp2_with fail
      refine HSI.out.mono ?_
      rintro e wf ⟨rfl, ff⟩
      have Bf := Lib.hid (Be.out.fr ff (Z' := Non) (fun b h => h.elim))
      clear ff Be HSI
      go_wp2_with fail
      go_roundw
      case rel => exact ⟨j + 1, by omega, by go_num, _, OK2.out, Bf.out⟩
      case measure => simp [intOf]; omega
    · have HF := Lib.hid hB.frame
      clear hok hB HI
      have hdec : (decide ((j : Int) < (L.length : Int)) && decide ((j : Int) < 60)) = false := by
        by_cases h1 : j < L.length
        · have : ¬ j < 60 := fun h => hlt ⟨h1, h⟩
          simp; omega
        · simp; omega
      by_cases h1 : j < L.length
      · have n1 : (j : Int) < (L.length : Int) := by omega
        have n2 : decide ((j : Int) < 60) = false := by simp; omega
        clear hlt hdec OK HB
        go_wp2_with fail
        refine (alive_any wr).mono ?_
        rintro e w7 ⟨rfl, f7⟩
        go_wp2_with fail
        go_ret
        exact ⟨by trivial, HF.out.trans f7⟩
      · obtain rfl : j = L.length := by omega
        clear hlt hdec OK HB
        go_wp2_with fail
        refine (alive_any wr).mono ?_
        rintro e w7 ⟨rfl, f7⟩
        go_wp2_with fail
        go_ret
        exact ⟨by trivial, HF.out.trans f7⟩
end Go.Proofs.Ytplhcfaonhkegaa
