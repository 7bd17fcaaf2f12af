/-
  Net: the last parcel is on its way no more.
-/
import Derived.Test.YtkmpmibjenodlaaN6
namespace Go.Proofs.Ytkmpmibjenodlaa
open Go.RowKit Go.Maps

theorem bytes_at {w : World} {bn bm : Nat} {lv : Value} {vs : List Value} {k : Nat} {st : NetSt} (h : NetAt w bn bm lv vs k st) (i : Nat) (hi : i < st.l.length) : i < vs.length := h.bytes.len ▸ hi

set_option maxRecDepth 100000 in
set_option maxHeartbeats 2000000 in
theorem gone_last {w : World} {bn bm : Nat} {lv : Value} {vs : List Value} {k : Nat} {st : NetSt} (h : NetAt w bn bm lv vs k st) (i : Nat) (hi0 : i < st.l.length) (hi : st.l.length = i + 1) :
    Calls Try.prog 28 #[.pointer (some ⟨bn, 0, none⟩), .int .i64 i] w fun e w' =>
      e = .returned (.agg (pcs st.l[i] (vs[i]'(h.bytes.len ▸ hi0))).toArray) ∧ GonePost w bn bm lv vs i k { st with l := st.l.eraseIdx i } w' := by
  obtain ⟨a, c, rfl⟩ := h.row.form
  obtain ⟨g, rfl, hl, hm, e0, e1, e2, e3, e4⟩ := h.parcel i hi0
  obtain ⟨q1, q2⟩ := h.box
  have hfull := h.full
  unfold maxLen at hm
  have hbn := lt_of_block h.cell
  have hg := World.block_lt_of_cell? w _ e0
  obtain ⟨va, vc, hv⟩ : ∃ a c, vs[i]'(h.bytes.len ▸ hi0) = .slice a st.l[i].b.length c := (h.bytes.form i hi0 (h.bytes.len ▸ hi0)).form
  rw [hv] at e4 ⊢
  have HV := Lib.hid hv
  have HI := Lib.hid hi
  have hrow := h.row
  obtain ⟨x, hx⟩ : ∃ x, st.l[i] = x := ⟨_, rfl⟩
  have HX := Lib.hid hx
  rw [hx] at e0 e1 e2 e3 e4 ⊢
  have i0 : (0 : Int) ≤ (i : Int) := by omega
  have i1 : (i : Int) < (st.l.length : Int) := by omega
  have i2 : (i : Int) ≤ (c : Int) := by omega
  have i3 : (i : Int) + 1 ≤ (st.l.length : Int) := by omega
  have i4 : (i : Int) + 1 ≤ (c : Int) := by omega
  have W1 := Lib.hid (show IntKind.i64.wrap ((i : Int) + 1) = (i : Int) + 1 from IntWalk.i64_in _ (by omega))
  have W2 := Lib.hid (show ((i : Int) + 1).toNat = i + 1 from by omega)
  have W5 := Lib.hid (show st.l.length - (i + 1) = 0 from by omega)
  have hgb : g ≠ bn := by
    have := (nodup_fp.1 h.nd).2.1
    intro e; exact this (by simp [Value.ownBlock, e])
  have hne : bn ≠ w.heap.size := by omega
  have hne2 : bn ≠ w.heap.size + 1 := by omega
  clear hi hx hv
  go_enter Try.func28, Try.ntmps28
  go_wp2_with fail
  refine wp_draw [((fun w' => w'.cell? ⟨bn, 0, none⟩ = some (.slice (some ⟨g, 0, none⟩) st.l.length c)), [(.free, 0), (.free, 1), (.free, 2), (.free, 3), (.held, 4), (.free, 5), (.free, 6), (.free, 7), (.free, 8), (.free, 9), (.free, 10), (.held, 11), (.free, 12), (.free, 13), (.free, 14), (.kept, 15), (.free, 16), (.free, 17)])] 18 (by kernel_rfl) (by kernel_rfl) (fun _ _ _ _ _ h => h) ⟨?_, ?_⟩
  · exact (((((Fr.refl Non w).alloc _).alloc _).drew).cell (q1 0) id : _)
  repeat (first
    | (refine' wpPlan_free (v := _) rfl (by rfl) ?_ ?_
       rotate_left
       · (intro w'; have w1 := W1.out; have w2 := W2.out; have w5 := W5.out; go_simp; try rfl)
       simp only [List.getElem_toArray, List.getElem_cons_zero, List.getElem_cons_succ, Act.put, List.setIfInBounds_toArray, List.set_cons_zero, List.set_cons_succ])
    | (refine' wpPlan_held (v := _) rfl (by rfl) ?_ ?_
       rotate_left
       · (intro w' hS; have w1 := W1.out; have w2 := W2.out; have w5 := W5.out; (try dsimp only at hS); go_simp; try rfl)
       simp only [List.getElem_toArray, List.getElem_cons_zero, List.getElem_cons_succ, Act.put, List.setIfInBounds_toArray, List.set_cons_zero, List.set_cons_succ])
    | (refine' wpPlan_skip rfl (by rfl) ?_
       simp only [List.getElem_toArray, List.getElem_cons_zero, List.getElem_cons_succ, Act.put, List.setIfInBounds_toArray, List.set_cons_zero, List.set_cons_succ])
    | (refine' wpPlan_skipHeld rfl (by rfl) ?_
       simp only [List.getElem_toArray, List.getElem_cons_zero, List.getElem_cons_succ, Act.put, List.setIfInBounds_toArray, List.set_cons_zero, List.set_cons_succ]))
  refine' wpPlan_kept rfl ?_
  intro K hK
  refine step_append_z rfl _ _ eI30 rfl (some ⟨g, 0, none⟩) i i rfl (Nat.le_refl _) _ rfl ⟨rfl, by simp, .inr ?_⟩ ?_
  · split <;> exact ⟨_, _, rfl, by simp⟩
  refine hK _ _ ⟨(((((Fr.refl Non w).alloc _).alloc _).drew).cell (q1 0) id : _), ?_⟩
  clear hK K
  repeat (first
    | (refine' wpPlan_free (v := _) rfl (by rfl) ?_ ?_
       rotate_left
       · (intro w'; go_simp; try rfl)
       simp only [List.getElem_toArray, List.getElem_cons_zero, List.getElem_cons_succ, Act.put, List.setIfInBounds_toArray, List.set_cons_zero, List.set_cons_succ])
    | (refine' wpPlan_held (v := _) rfl (by rfl) ?_ ?_
       rotate_left
       · (intro w' hS; go_simp; try rfl)
       simp only [List.getElem_toArray, List.getElem_cons_zero, List.getElem_cons_succ, Act.put, List.setIfInBounds_toArray, List.set_cons_zero, List.set_cons_succ])
    | (refine' wpPlan_skip rfl (by rfl) ?_
       simp only [List.getElem_toArray, List.getElem_cons_zero, List.getElem_cons_succ, Act.put, List.setIfInBounds_toArray, List.set_cons_zero, List.set_cons_succ])
    | (refine' wpPlan_skipHeld rfl (by rfl) ?_
       simp only [List.getElem_toArray, List.getElem_cons_zero, List.getElem_cons_succ, Act.put, List.setIfInBounds_toArray, List.set_cons_zero, List.set_cons_succ]))
  refine wpPlan_end ?_
  simp only [wpSegs, List.drop_succ_cons, List.drop_zero]
  have h0 := h
  go_wp2_with fail
  all_goals
    have hi := HI.out
    have hx := HX.out
    have hlen := h0.bytes.len
    have s1 := h0.sub (u := w) (lv' := .slice (some ⟨g, 0, none⟩) i i) (Fr.refl _ w) (l' := st.l.eraseIdx i) (vs' := vs.eraseIdx i) (N := w.heap.size) (Nat.le_refl _) (.inl rfl)
      (by
        rw [← rowOf_erase i hlen hi0, show (st.l.eraseIdx i).length = i from by rw [List.length_eraseIdx_of_lt hi0]; omega, List.drop_of_length_le (by rw [rowOf_len hlen]; omega), List.append_nil]
        rcases hrow.2 with ⟨he, _⟩ | ⟨g', cap, cur, he, r1, r2, r3, r4, r5⟩
        · cases he
        · simp only [Value.slice.injEq, Option.some.injEq, Addr.mk.injEq, true_and, and_true] at he
          obtain ⟨rfl, rfl⟩ := he
          refine ⟨by rw [List.length_take, rowOf_len hlen]; omega, .inr ⟨g, i, cur, rfl, r1, Nat.le_refl _, by unfold maxLen; omega, by omega, ?_⟩⟩
          rw [← r5, List.take_take, Nat.min_eq_left (by omega)])
      (h0.bytes.erase i) (fun b hb => by
        obtain ⟨x, hx, hxb⟩ := List.mem_filterMap.1 hb
        exact List.mem_filterMap.2 ⟨x, List.mem_of_mem_eraseIdx hx, hxb⟩)
      (((List.eraseIdx_sublist vs i).filterMap _).nodup (nodup_fp.1 h0.nd).2.2.2.2.2.2) (by rw [List.length_eraseIdx_of_lt hi0]; omega)
    refine bodyPost_ret (v := .agg (pcs x (.slice va x.b.length vc)).toArray) (by simp [results, Try.results28, go_sem, pcs]) rfl ⟨rfl, ?_, _, (s1.1.fr (T := Non) ((((Fr.refl _ _).alloc _).alloc _).drew) (fun _ _ => id)), fun b hb => .inl hb⟩
    exact (((Fr.setCell (T := fun b => b = bn) (p := ⟨bn, 0, none⟩) (Fr.refl _ w) (.inl rfl) _).alloc _).alloc _).drew
end Go.Proofs.Ytkmpmibjenodlaa
