/-
  Net: At, Swap.
-/
import Derived.Test.YtkmpmibjenodlaaN9
import Derived.Test.YtkmpmibjenodlaaS
namespace Go.Proofs.Ytkmpmibjenodlaa
open Go.RowKit Go.Maps

set_option maxRecDepth 100000 in
set_option maxHeartbeats 1000000 in
theorem at_ok {w : World} {bn bm : Nat} {lv : Value} {vs : List Value} {k : Nat} {st : NetSt} (h : NetAt w bn bm lv vs k st) (i : Nat) (hi : i < st.l.length) (hb : st.l[i].b.length ≤ 262144) :
    Calls Try.prog 23 #[.pointer (some ⟨bn, 0, none⟩), .int .i64 i] w fun e w' =>
      ∃ a c, e = .returned (.tuple #[.agg (pcs st.l[i] (.slice a st.l[i].b.length c)).toArray, .int .i64 0]) ∧ GRow w' 5 1 (.slice a st.l[i].b.length c) st.l[i].b.length (bcs st.l[i].b) ∧ (∀ b, a = some b → w.heap.size ≤ b.block) ∧ Fr Non w w' := by
  obtain ⟨a, c, rfl⟩ := h.row.form
  obtain ⟨p, hp⟩ : ∃ p, st.l[i] = p := ⟨_, rfl⟩
  have HP := Lib.hid hp
  rw [hp] at hb ⊢
  clear hp
  go_enter Try.func23, Try.ntmps23
  go_wp2_with fail
  have f0 : Fr Non w ((w.alloc (.cells #[.bool false, .int .i64 0, .bool false, .int .i64 0, .slice none 0 0] 30)).alloc (.cells #[.int .i64 i] 3)) := ((Fr.refl Non w).alloc _).alloc _
  have h1 := h.fr f0 (fun _ _ => id)
  refine (place_ok h1 [(i : Int)] _ 1 (fun j hj => by simpa using one_int (w := w.alloc (.cells #[.bool false, .int .i64 0, .bool false, .int .i64 0, .slice none 0 0] 30)) i 3 j hj) (by simp) (by simpa using hi)).mono ?_
  rintro e w' ⟨rfl, rfl⟩
  obtain ⟨q1, q2⟩ := h1.box
  obtain ⟨g, rfl, hl, hm, e0, e1, e2, e3, e4⟩ := h1.parcel i hi
  have hfull := h.full
  unfold maxLen at hm
  have i0 : (0 : Int) ≤ (i : Int) := by omega
  have i1 : (i : Int) < (st.l.length : Int) := by omega
  obtain ⟨va, vc, hv⟩ : ∃ a c, vs[i]'(h.bytes.len ▸ hi) = .slice a st.l[i].b.length c := (h.bytes.form i hi (h.bytes.len ▸ hi)).form
  have hby := h1.bytes.form i hi (h.bytes.len ▸ hi)
  simp only [hv] at e4 hby
  clear hv
  simp only [HP.out] at e0 e1 e2 e3 e4 hby
  go_wp2_with fail
  refine (own_any _ _ _ _ _ p.b _ (hby.src (bcs_one _)) (by omega)).mono ?_
  rintro e w4 ⟨a4, c4, rfl, r1, r2, r3⟩
  have g3 := r2.heap (alloc_at2 w _ _) id
  obtain ⟨b4, z4⟩ := box_facts g3
  clear e0 e1 e2 e3 e4 q1 q2
  go_wp2_with fail
  refine bodyPost_ret (v := .tuple #[.agg (pcs p (.slice a4 p.b.length c4)).toArray, .int .i64 0]) (by simp [results, Try.results23, go_sem, b4, pcs]) rfl ⟨a4, c4, rfl, ?_, ?_, ?_⟩
  · refine r1.keep fun b hb => (set5_fr w4 w.heap.size p (.slice a4 p.b.length c4)).block b (r1.lt b hb) ?_
    cases a4 with
    | none => simp [Value.ownBlock] at hb
    | some ad =>
      simp [Value.ownBlock] at hb; subst hb
      have := r3 ad rfl; simp at this; omega
  · intro b hb
    have := r3 b hb; simp at this; omega
  · exact (f0.trans r2).trans2 (set5_fr w4 w.heap.size p (.slice a4 p.b.length c4)) (fun b hb e => by omega)

theorem rowOf_set : ∀ {l : List Parcel} {vs : List Value} (i : Nat) (p : Parcel) (v : Value), l.length = vs.length → i < l.length → putAt (rowOf l vs) (i * 5) (pcs p v) = rowOf (l.set i p) (vs.set i v)
  | [], [], i, _, _, _, hi => by simp at hi
  | q :: l, u :: vs, 0, p, v, _, _ => by simp [putAt, rowOf, pcs]
  | q :: l, u :: vs, i + 1, p, v, h, hi => by
    have ih := rowOf_set (l := l) (vs := vs) i p v (by simpa using h) (by simpa using hi)
    have e : (i + 1) * 5 = (pcs q u).length + i * 5 := by simp [pcs]; omega
    simp only [List.set_cons_succ, rowOf, ← ih]
    unfold putAt
    rw [e, List.take_length_add_append, Nat.add_assoc, List.drop_length_add_append]
    simp

theorem putAt_take {cs : List Value} {n o : Nat} {vs : List Value} (h : o + vs.length ≤ n) (hn : n ≤ cs.length) : (putAt cs o vs).take n = putAt (cs.take n) o vs := by
  unfold putAt
  have h1 : (cs.take o).length = o := by simp; omega
  rw [List.take_append, List.take_append, List.take_take, List.take_take, List.take_of_length_le (l := vs) (by simp; omega)]
  have h2 : (List.take o cs ++ vs).length = o + vs.length := by simp; omega
  rw [h2, List.drop_take, Nat.min_eq_right (by omega), Nat.min_eq_left (by omega)]

theorem Bytes.set {w : World} : ∀ {l : List Parcel} {vs : List Value} (i : Nat) (p : Parcel) (v : Value), Bytes w l vs → GRow w 5 1 v p.b.length (bcs p.b) → Bytes w (l.set i p) (vs.set i v)
  | [], [], _, _, _, h, _ => h
  | _ :: _, _ :: _, 0, _, _, h, g => ⟨g, h.2⟩
  | _ :: _, _ :: _, i + 1, p, v, h, g => ⟨h.1, Bytes.set i p v h.2 g⟩

set_option maxRecDepth 100000 in
set_option maxHeartbeats 2000000 in
theorem swap_ok {w : World} {bn bm : Nat} {lv : Value} {vs : List Value} {k : Nat} {st : NetSt} (h : NetAt w bn bm lv vs k st) (i j : Nat) (hi : i < st.l.length) (hj : j < st.l.length) :
    Calls Try.prog 14 #[.pointer (some ⟨bn, 0, none⟩), .int .i64 i, .int .i64 j] w fun e w' =>
      e = .returned (.int .i64 0) ∧ NetPost w bn bm lv vs k { st with l := (st.l.set i st.l[j]).set j st.l[i] } w' := by
  obtain ⟨a, c, rfl⟩ := h.row.form
  go_enter Try.func14, Try.ntmps14
  go_wp2_with fail
  have f0 : Fr Non w (w.alloc (.cells #[.int .i64 i, .int .i64 j] 3)) := (Fr.refl Non w).alloc _
  have h1 := h.fr f0 (fun _ _ => id)
  refine (place_ok h1 [(i : Int), (j : Int)] _ 2 (fun m hm => by simpa using two_int (w := w) i j 3 m hm) (by simp) (by simp; omega)).mono ?_
  rintro e w' ⟨rfl, rfl⟩
  obtain ⟨q1, q2⟩ := h1.box
  obtain ⟨g, rfl, hl, hm, e0, e1, e2, e3, e4⟩ := h1.parcel i hi
  obtain ⟨g', hgg, _, _, d0, d1, d2, d3, d4⟩ := h1.parcel j hj
  simp only [Option.some.injEq, Addr.mk.injEq, and_true] at hgg
  subst hgg
  have hfull := h.full
  unfold maxLen at hm
  have i0 : (0 : Int) ≤ (i : Int) := by omega
  have i1 : (i : Int) < (st.l.length : Int) := by omega
  have j0 : (0 : Int) ≤ (j : Int) := by omega
  have j1 : (j : Int) < (st.l.length : Int) := by omega
  obtain ⟨p, hp⟩ : ∃ p, st.l[i] = p := ⟨_, rfl⟩
  obtain ⟨q, hq⟩ : ∃ q, st.l[j] = q := ⟨_, rfl⟩
  obtain ⟨va, vc, hv⟩ : ∃ a c, vs[i]'(h.bytes.len ▸ hi) = .slice a st.l[i].b.length c := (h.bytes.form i hi (h.bytes.len ▸ hi)).form
  obtain ⟨ua, uc, hu⟩ : ∃ a c, vs[j]'(h.bytes.len ▸ hj) = .slice a st.l[j].b.length c := (h.bytes.form j hj (h.bytes.len ▸ hj)).form
  rw [hp] at e0 e1 e2 e3 hv
  rw [hq] at d0 d1 d2 d3 hu
  rw [hv] at e4
  rw [hu] at d4
  have HP := Lib.hid hp
  have HQ := Lib.hid hq
  have HV := Lib.hid hv
  have HU := Lib.hid hu
  clear hp hq hv hu
  go_wp2_with fail
  refine wp_draw [((fun w' => w' = (w.alloc (.cells #[.int .i64 i, .int .i64 j] 3)).drew), [(.free, 0), (.free, 1), (.free, 2), (.held, 3), (.free, 4), (.free, 5), (.free, 6), (.free, 7), (.held, 8), (.free, 9), (.free, 10), (.free, 11), (.free, 12), (.held, 13), (.free, 14), (.free, 15), (.held, 16), (.free, 17), (.free, 18), (.free, 19), (.held, 20), (.free, 21), (.free, 22), (.held, 23), (.free, 24)])] 25 (by kernel_rfl) (by kernel_rfl) (fun _ _ _ _ _ h => h) ⟨rfl, ?_⟩
  repeat (first
    | (refine' wpPlan_free (v := _) rfl (by rfl) ?_ ?_
       rotate_left
       · (intro w'; go_simp; try rfl)
       simp only [List.getElem_toArray, List.getElem_cons_zero, List.getElem_cons_succ, Act.put, List.setIfInBounds_toArray, List.set_cons_zero, List.set_cons_succ])
    | (refine' wpPlan_held (v := _) rfl (by rfl) ?_ ?_
       rotate_left
       · (intro w' hS; subst hS; go_simp; try rfl)
       simp only [List.getElem_toArray, List.getElem_cons_zero, List.getElem_cons_succ, Act.put, List.setIfInBounds_toArray, List.set_cons_zero, List.set_cons_succ])
    | (refine' wpPlan_skip rfl (by rfl) ?_
       simp only [List.getElem_toArray, List.getElem_cons_zero, List.getElem_cons_succ, Act.put, List.setIfInBounds_toArray, List.set_cons_zero, List.set_cons_succ])
    | (refine' wpPlan_skipHeld rfl (by rfl) ?_
       simp only [List.getElem_toArray, List.getElem_cons_zero, List.getElem_cons_succ, Act.put, List.setIfInBounds_toArray, List.set_cons_zero, List.set_cons_succ]))
  repeat (first
    | (refine' wpPlan_free (v := _) rfl (by rfl) ?_ ?_
       rotate_left
       · (intro w'; go_simp; try rfl)
       simp only [List.getElem_toArray, List.getElem_cons_zero, List.getElem_cons_succ, Act.put, List.setIfInBounds_toArray, List.set_cons_zero, List.set_cons_succ])
    | (refine' wpPlan_held (v := _) rfl (by rfl) ?_ ?_
       rotate_left
       · (intro w' hS; go_simp; try rfl)
       simp only [List.getElem_toArray, List.getElem_cons_zero, List.getElem_cons_succ, Act.put, List.setIfInBounds_toArray, List.set_cons_zero, List.set_cons_succ])
    | (refine' wpPlan_skip rfl (by rfl) ?_
       simp only [List.getElem_toArray, List.getElem_cons_zero, List.getElem_cons_succ, Act.put, List.setIfInBounds_toArray, List.set_cons_zero, List.set_cons_succ])
    | (refine' wpPlan_skipHeld rfl (by rfl) ?_
       simp only [List.getElem_toArray, List.getElem_cons_zero, List.getElem_cons_succ, Act.put, List.setIfInBounds_toArray, List.set_cons_zero, List.set_cons_succ]))
  refine wpPlan_end ?_
  simp only [wpSegs, List.drop_succ_cons, List.drop_zero]
  have hrow : ∃ cur, w.heap[g]? = some (.cells cur 30 (0, 0)) ∧ c * 5 ≤ cur.size ∧ cur.toList.take (st.l.length * 5) = rowOf st.l vs := by
    rcases h.row.2 with ⟨he, _⟩ | ⟨g', cap, cur, he, r1, r2, r3, r4, r5⟩
    · cases he
    · simp only [Value.slice.injEq, Option.some.injEq, Addr.mk.injEq, true_and, and_true] at he
      obtain ⟨rfl, rfl⟩ := he
      exact ⟨cur, r1, r4, r5⟩
  obtain ⟨cur, r1, r4, r5⟩ := hrow
  have R1 := f0.heap r1 id
  have R5 := Lib.hid r5
  clear r5 e0 e1 e2 e3 e4 d0 d1 d2 d3 d4
  have hs1 : i * 5 + 5 ≤ cur.size := by omega
  have hs2 : j * 5 + 5 ≤ cur.size := by omega
  refine wpList_store_block rfl 30 _ _ rfl g (i * 5) rfl (.agg (pcs q (.slice ua q.b.length uc)).toArray) rfl cur 30 R1 hs1 (by kernel_rfl) (by simp [Value.cells, pcs, Value.oneCell']) ?_
  intro w2 t1 t2
  refine wpList_plain rfl (fun K hK => ?_)
  go_simp
  refine hK _ _ ?_
  clear hK K
  have hs3 : j * 5 + 5 ≤ (putAt cur.toList (i * 5) (pcs q (.slice ua q.b.length uc))).toArray.size := by
    rw [List.size_toArray, putAt_len (by simpa [pcs] using hs1)]; simpa using hs2
  refine wpList_store_block rfl 30 _ _ rfl g (j * 5) rfl (.agg (pcs p (.slice va p.b.length vc)).toArray) rfl _ 30 t1 hs3 (by kernel_rfl) (by simp [Value.cells, pcs, Value.oneCell']) ?_
  intro w3 t3 t4
  go_wp2_with fail
  go_ret
  have hlen := h.bytes.len
  have hby := h.bytes
  have hrowlen := rowOf_len hlen
  obtain ⟨n1, n2, n3, n4, n5, n6, n7⟩ := nodup_fp.1 h.nd
  have e1 : (putAt (putAt cur.toList (i * 5) (pcs q (.slice ua q.b.length uc))) (j * 5) (pcs p (.slice va p.b.length vc))).take (st.l.length * 5) = rowOf ((st.l.set i q).set j p) ((vs.set i (.slice ua q.b.length uc)).set j (.slice va p.b.length vc)) := by
    rw [putAt_take (by simp [pcs]; omega) (by rw [putAt_len (by simp [pcs]; omega)]; simp; omega), putAt_take (by simp [pcs]; omega) (by simp; omega), R5.out, rowOf_set i q _ hlen hi, rowOf_set j p _ (by simp [hlen]) (by simpa using hj)]
  have hperm : (((vs.set i (.slice ua q.b.length uc)).set j (.slice va p.b.length vc)).filterMap Value.ownBlock).Perm (vs.filterMap Value.ownBlock) := by
    rw [← HU.out, ← HV.out]
    exact (List.set_set_perm (hlen ▸ hi) (hlen ▸ hj)).filterMap _
  have gi := hby.form i hi (hlen ▸ hi)
  have gj := hby.form j hj (hlen ▸ hj)
  simp only [HP.out, HQ.out, HV.out, HU.out] at gi gj
  have hbyt : Bytes w ((st.l.set i q).set j p) ((vs.set i (.slice ua q.b.length uc)).set j (.slice va p.b.length vc)) := (hby.set i q _ gj).set j p _ gi
  have fg : Fr (fun b => (Value.slice (some ⟨g, 0, none⟩) st.l.length c).ownBlock = some b) w w3 :=
    ((f0.drew.mono (fun _ _ => False.elim)).trans2 t2 (fun b _ (hb : b = g) => by subst hb; rfl)).trans2 t4 (fun b _ (hb : b = g) => by subst hb; rfl)
  have hl3 : st.l.length * 5 ≤ (putAt (putAt cur.toList (i * 5) (pcs q (.slice ua q.b.length uc))) (j * 5) (pcs p (.slice va p.b.length vc))).length := by
    rw [putAt_len (by rw [putAt_len (by simp [pcs]; omega)]; simp [pcs]; omega), putAt_len (by simp [pcs]; omega)]; simp; omega
  have hrow' : GRow w3 30 5 (.slice (some ⟨g, 0, none⟩) st.l.length c) ((st.l.set i q).set j p).length (rowOf ((st.l.set i q).set j p) ((vs.set i (.slice ua q.b.length uc)).set j (.slice va p.b.length vc))) := by
    rw [← e1]
    simp only [List.length_set]
    refine ⟨by rw [List.length_take]; omega, .inr ⟨g, c, _, rfl, t3, hl, by unfold maxLen; omega, ?_, rfl⟩⟩
    rw [List.size_toArray]
    show c * 5 ≤ (putAt (putAt cur.toList (i * 5) (pcs q (.slice ua q.b.length uc))) (j * 5) (pcs p (.slice va p.b.length vc))).length
    rw [putAt_len (by rw [putAt_len (by simpa [pcs] using hs1)]; simpa [pcs] using hs2), putAt_len (by simpa [pcs] using hs1)]; simpa using r4
  rw [HP.out, HQ.out]
  refine ⟨rfl, fg.mono (fun b _ hb => mem_row hb), _, _, ⟨fg.heap h.cell (fun e => n2 e), h.map.keep (fg.block bm h.map.lt n3), ?_, hbyt.keep fun b hb => ?_, ?_, h.small, by simpa using h.full, h.cb⟩, fun b hb => .inl ?_⟩
  · exact hrow'
  · have hb' := hperm.mem_iff.1 hb
    exact fg.block b (hby.lt b hb') (fun e => n6 b e hb')
  · rw [nodup_fp]
    exact ⟨n1, n2, n3, fun e => n4 (hperm.mem_iff.1 e), fun e => n5 (hperm.mem_iff.1 e), fun b hb e => n6 b hb (hperm.mem_iff.1 e), hperm.nodup_iff.2 n7⟩
  · simp only [netFp, List.mem_cons] at hb ⊢
    rcases hb with hb | hb | hb
    · exact .inl hb
    · exact .inr (.inl hb)
    · refine .inr (.inr ?_)
      obtain ⟨x, hx, hxb⟩ := List.mem_filterMap.1 hb
      rcases List.mem_cons.1 hx with rfl | hx
      · exact List.mem_filterMap.2 ⟨.slice (some ⟨g, 0, none⟩) st.l.length c, by simp, hxb⟩
      · obtain ⟨y, hy, hyb⟩ := List.mem_filterMap.1 (hperm.mem_iff.1 (List.mem_filterMap.2 ⟨x, hx, hxb⟩))
        exact List.mem_filterMap.2 ⟨y, by simp [hy], hyb⟩
end Go.Proofs.Ytkmpmibjenodlaa
