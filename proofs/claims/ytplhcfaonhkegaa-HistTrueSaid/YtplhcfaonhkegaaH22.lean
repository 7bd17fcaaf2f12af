/-
  HistNobody: a history that nobody made refuses all.
-/
import Derived.Test.YtplhcfaonhkegaaH20
namespace Go.Proofs.Ytplhcfaonhkegaa
open Go.RowKit Go.Maps

/-- What is noted by a law: kind, number, call, result, sure. -/
abbrev MOp := Int × (Int × (MCall × (MRes × Bool)))
def kOp : Kd MOp := kPair kI (kPair kI (kPair kCall (kPair kRes kBool)))
theorem op_cells {S : Nat → Prop} {w : World} {cs : List Value} {x : MOp} (h : kOp.rd S w cs x) : ∃ cc rc, cs = [.int .i64 x.1, .int .i64 x.2.1] ++ (cc ++ (rc ++ [.bool x.2.2.2.2])) ∧ kCall.rd S w cc x.2.2.1 ∧ kRes.rd S w rc x.2.2.2.1 ∧ cc.length = 4 ∧ rc.length = 15 ∧ (Lit.int .i64 x.1).wf = true ∧ (Lit.int .i64 x.2.1).wf = true := by
  obtain ⟨_, _, rfl, ⟨rfl, h1⟩, _, _, rfl, ⟨rfl, h2⟩, cc, _, rfl, h3, rc, _, rfl, h4, rfl⟩ := h
  exact ⟨cc, rc, rfl, h3, h4, kCall.len h3, kRes.len h4, h1, h2⟩
theorem size39 : (Try.prog.info? 39).map (·.size) = some 4 := by kernel_rfl
theorem size67 : (Try.prog.info? 67).map (·.size) = some 22 := by kernel_rfl
/-- A variable that holds one, as the walks read it. -/
theorem op_box {w : World} {b : Nat} {x : MOp} {cc rc : List Value} (h : w.heap[b]? = some (.cells ([Value.int .i64 x.1, .int .i64 x.2.1] ++ (cc ++ (rc ++ [Value.bool x.2.2.2.2]))).toArray 67 (0, 0))) (h1 : cc.length = 4) (h2 : rc.length = 15) :
    w.cell? ⟨b, 0, none⟩ = some (.int .i64 x.1) ∧ w.cell? ⟨b, 1, none⟩ = some (.int .i64 x.2.1) ∧ (Instr.loadAt 39 (.pointer (some ⟨b, 2, none⟩))).run Try.prog w = .ok (.agg cc.toArray) w ∧
    (Instr.loadAt 52 (.pointer (some ⟨b, 6, none⟩))).run Try.prog w = .ok (.agg rc.toArray) w ∧ w.cell? ⟨b, 21, none⟩ = some (.bool x.2.2.2.2) := by
  have hc : ∀ j v, ([Value.int .i64 x.1, .int .i64 x.2.1] ++ (cc ++ (rc ++ [.bool x.2.2.2.2])))[j]? = some v → w.cell? ⟨b, j, none⟩ = some v := fun j v hv => by
    rw [cell_of_row w b j _ _ _ h]; simpa using hv
  have hl := fun j => List.getElem?_append_right (l₁ := [Value.int .i64 x.1, .int .i64 x.2.1]) (l₂ := cc ++ (rc ++ [.bool x.2.2.2.2])) (i := 2 + j) (by simp)
  refine ⟨hc 0 _ rfl, hc 1 _ rfl, run_loadAt_list _ _ Try.underlying39 rfl (by rw [h1]; exact size39) (fun j v hv => hc (2 + j) v ?_), run_loadAt_list _ _ Try.underlying52 rfl (by rw [h2]; exact size52) (fun j v hv => hc (6 + j) v ?_), hc 21 _ ?_⟩
  · rw [hl j]
    simp only [List.length_cons, List.length_nil, Nat.add_sub_cancel_left]
    rw [List.getElem?_append_left (by rcases Nat.lt_or_ge j cc.length with h | h; exact h; rw [List.getElem?_eq_none h] at hv; cases hv)]
    exact hv
  · rw [show 6 + j = 2 + (4 + j) by omega, hl]
    simp only [List.length_cons, List.length_nil, Nat.add_sub_cancel_left]
    rw [List.getElem?_append_right (by omega), h1, Nat.add_sub_cancel_left, List.getElem?_append_left (by rcases Nat.lt_or_ge j rc.length with h | h; exact h; rw [List.getElem?_eq_none h] at hv; cases hv)]
    exact hv
  · rw [show 21 = 2 + 19 by omega, hl]
    simp only [List.length_cons, List.length_nil, Nat.add_sub_cancel_left]
    rw [List.getElem?_append_right (by omega), h1, List.getElem?_append_right (by omega), h2]
    rfl

/-- A history that nobody made. -/
def NobH (w : World) (v : Value) : Prop := v = .pointer none ∨ ∃ b, v = .pointer (some ⟨b, 0, none⟩) ∧ w.cell? ⟨b, 2, none⟩ = some (.map none)
theorem NobH.fr {w w' : World} {v : Value} (h : NobH w v) (f : Fr Non w w') : NobH w' v := by
  rcases h with h | ⟨b, h, hc⟩
  · exact .inl h
  · exact .inr ⟨b, h, f.cell hc id⟩
theorem nob_made {w : World} {v : Value} (h : NobH w v) : Calls Try.prog 80 #[v] w fun e w' => e = .returned (.bool false) ∧ w = w' := by
  rcases h with rfl | ⟨b, rfl, hc⟩
  · go_enter Try.func80, Try.ntmps80
    go_wp2_with fail
    go_ret
    exact ⟨by trivial, rfl⟩
  · have hm := fun (w : World) => run_neq93 w none
    go_enter Try.func80, Try.ntmps80
    go_wp2_with fail
    go_ret
    exact ⟨by trivial, rfl⟩
theorem nob_call {w : World} {v : Value} (h : NobH w v) (q : Int) (cc : List Value) : Calls Try.prog 45 #[v, .int .i64 q, .agg cc.toArray] w fun e w' => e = .returned (.int .i64 4) ∧ Fr Non w w' := by
  have H := Lib.hid h
  have f0 : Fr Non w (w.alloc (.cells cc.toArray 39)) := (Fr.refl _ _).alloc _
  clear h
  go_enter Try.func45, Try.ntmps45
  go_wp2_with fail
  refine (nob_made (H.out.fr f0)).mono ?_
  rintro e w' ⟨rfl, rfl⟩
  go_wp2_with fail
  go_ret
  exact ⟨by trivial, f0⟩
theorem nob_reply {w : World} {v : Value} (h : NobH w v) (q : Int) (rc : List Value) : Calls Try.prog 46 #[v, .int .i64 q, .agg rc.toArray] w fun e w' => e = .returned (.int .i64 4) ∧ Fr Non w w' := by
  have H := Lib.hid h
  have f0 : Fr Non w ((w.alloc (.cells #[.int .i64 q] 3)).alloc (.cells rc.toArray 52)) := ((Fr.refl _ _).alloc _).alloc _
  clear h
  go_enter Try.func46, Try.ntmps46
  go_wp2_with fail
  refine (nob_made (H.out.fr f0)).mono ?_
  rintro e w' ⟨rfl, rfl⟩
  go_wp2_with fail
  go_ret
  exact ⟨by trivial, f0⟩
theorem nob_kill {w : World} {v : Value} (h : NobH w v) (key : Int) (b : Bool) : Calls Try.prog 51 #[v, .int .u64 key, .bool b] w fun e w' => e = .returned (.int .i64 4) ∧ Fr Non w w' := by
  have H := Lib.hid h
  clear h
  go_enter Try.func51, Try.ntmps51
  go_wp2_with fail
  refine (nob_made H.out).mono ?_
  rintro e w' ⟨rfl, rfl⟩
  go_wp2_with fail
  go_ret
  exact ⟨by trivial, Fr.refl _ _⟩
theorem nob_all {w : World} {v : Value} (h : NobH w v) : Calls Try.prog 47 #[v] w fun e w' => e = .returned (.slice none 0 0) ∧ Fr Non w w' := by
  have H := Lib.hid h
  clear h
  go_enter Try.func47, Try.ntmps47
  go_wp2_with fail
  refine (nob_made H.out).mono ?_
  rintro e w' ⟨rfl, rfl⟩
  go_wp2_with fail
  go_ret
  exact ⟨by trivial, Fr.refl _ _⟩
theorem nob_open {w : World} {v : Value} (h : NobH w v) : Calls Try.prog 57 #[v] w fun e w' => e = .returned (.slice none 0 0) ∧ Fr Non w w' := by
  have H := Lib.hid h
  clear h
  go_enter Try.func57, Try.ntmps57
  go_wp2_with fail
  refine (nob_made H.out).mono ?_
  rintro e w' ⟨rfl, rfl⟩
  go_wp2_with fail
  go_ret
  exact ⟨by trivial, Fr.refl _ _⟩

set_option maxRecDepth 100000 in
set_option maxHeartbeats 4000000 in
theorem hnobody_law {w : World} {cs : List Value} {x : MOp} (h : kOp.rd All w cs x) : Calls Try.prog 13 #[.agg cs.toArray] w fun e w' => e = .returned (.bool true) ∧ Fr Non w w' := by
  obtain ⟨cc, rc, rfl, h1, h2, h3, h4, _⟩ := op_cells h
  obtain ⟨ocs, ho⟩ : ∃ ocs, [Value.int .i64 x.1, .int .i64 x.2.1] ++ (cc ++ (rc ++ [.bool x.2.2.2.2])) = ocs := ⟨_, rfl⟩
  rw [ho]
  have HO := Lib.hid ho
  have H3 := Lib.hid h3
  have H4 := Lib.hid h4
  clear h h1 h2 h3 h4 ho
  obtain ⟨C, hC⟩ : ∃ C, w.heap.size = C := ⟨_, rfl⟩
  obtain ⟨w0, hw0⟩ : ∃ w0, (((w.alloc (.cells ocs.toArray 67)).alloc (.cells #[.slice none 0 0, .int .i64 0, .map none, .slice none 0 0] 95)).alloc (.cells #[.pointer none, .pointer (some ⟨C + 1, 0, none⟩)] 64)) = w0 := ⟨_, rfl⟩
  have f0 : Fr Non w w0 := by rw [← hw0]; exact (((Fr.refl _ _).alloc _).alloc _).alloc _
  have b0 : w0.heap[C]? = some (.cells ocs.toArray 67 (0, 0)) := by
    rw [← hw0, Below.heap_alloc _ _ _ (by simp; omega), ← hC]; exact alloc_at2 w _ _
  have b1 : w0.heap[C + 1]? = some (.cells #[.slice none 0 0, .int .i64 0, .map none, .slice none 0 0] 95 (0, 0)) := by
    rw [← hw0, Below.heap_alloc _ _ _ (by simp; omega), ← hC]; exact alloc_at2' w _ _
  have b2 : w0.heap[C + 2]? = some (.cells #[.pointer none, .pointer (some ⟨C + 1, 0, none⟩)] 64 (0, 0)) := by
    have := alloc_at ((w.alloc (.cells ocs.toArray 67)).alloc (.cells #[.slice none 0 0, .int .i64 0, .map none, .slice none 0 0] 95)) (.cells #[.pointer none, .pointer (some ⟨C + 1, 0, none⟩)] 64)
    rw [hw0] at this
    simpa [hC] using this
  have B0 := Lib.hid b0
  have B1 := Lib.hid b1
  have B2 := Lib.hid b2
  clear b0 b1 b2
  go_enter Try.func13, Try.ntmps13
  go_wp2_with fail
  go_loopw [11] (fun i wr => ∃ (j : Nat), j ≤ 2 ∧ i = .int .i64 j ∧ Hid (Fr Non w0 wr)) (fun i _ => 2 - (intOf i).toNat)
  case atStart => exact ⟨0, by omega, rfl, Fr.refl _ _⟩
  case round =>
    obtain ⟨j, hj, rfl, HI⟩ := hrel
    have j0 : (0 : Int) ≤ (j : Int) := by omega
    by_cases hlt : j < 2
    · obtain ⟨vv, nb, hc⟩ : ∃ vv, NobH wr vv ∧ wr.cell? ⟨C + 1 + 1, j, none⟩ = some vv := by
        have c2 := box_facts (HI.out.heap B2.out id)
        rcases (show j = 0 ∨ j = 1 by omega) with rfl | rfl
        · exact ⟨_, .inl rfl, by rw [c2.1]; rfl⟩
        · exact ⟨_, .inr ⟨_, rfl, by rw [(box_facts (HI.out.heap B1.out id)).1]; rfl⟩, by rw [c2.1]; rfl⟩
      have NB := Lib.hid nb
      have j1 : (j : Int) < 2 := by omega
      clear nb
      have b3 : ∀ y : World, Fr Non wr y → _ := fun y f => op_box (by rw [HO.out]; exact (HI.out.trans f).heap B0.out id) H3.out H4.out
      have B3 := Lib.hid b3
      clear b3
      obtain ⟨_, e1, l2, _, _⟩ := B3.out wr (Fr.refl _ _)
      have L2 := Lib.hid l2
      clear l2
      go_wp2_with (refine wpList_load_w 39 (.pointer (some ⟨C, 2, none⟩)) _ L2.out _ rfl rfl (by rfl) ?_)
      refine (nob_call NB.out x.2.1 cc).mono ?_
      rintro e w1 ⟨rfl, f1⟩
      clear e1 L2 hc
      obtain ⟨_, e1, _, l2, _⟩ := B3.out w1 f1
      have L2 := Lib.hid l2
      clear l2
      go_wp2_with (refine wpList_load_w 52 (.pointer (some ⟨C, 6, none⟩)) _ L2.out _ rfl rfl (by rfl) ?_)
      refine (nob_reply (NB.out.fr f1) x.2.1 rc).mono ?_
      rintro e w2 ⟨rfl, f2⟩
      have f12 := f1.trans f2
      clear e1 L2
      obtain ⟨_, _, _, _, e21⟩ := B3.out w2 f12
      go_wp2_with fail
      refine (nob_kill (NB.out.fr f12) 1 _).mono ?_
      rintro e w3 ⟨rfl, f3⟩
      have f13 := f12.trans f3
      clear e21
      go_wp2_with fail
      refine (nob_all (NB.out.fr f13)).mono ?_
      rintro e w4 ⟨rfl, f4⟩
      have f14 := f13.trans f4
      go_wp2_with fail
      refine (nob_open (NB.out.fr f14)).mono ?_
      rintro e w5 ⟨rfl, f5⟩
      have f15 := f14.trans f5
      go_wp2_with fail
      go_roundw
      case rel => exact ⟨j + 1, by omega, by go_num, HI.out.trans f15⟩
      case measure => simp [intOf]; omega
    · obtain rfl : j = 2 := by omega
      have HF := Lib.hid (f0.trans HI.out)
      go_wp2_with fail
      refine (alive_any wr).mono ?_
      rintro e w1 ⟨rfl, f1⟩
      go_wp2_with fail
      go_ret
      exact ⟨by trivial, HF.out.trans f1⟩
end Go.Proofs.Ytplhcfaonhkegaa
