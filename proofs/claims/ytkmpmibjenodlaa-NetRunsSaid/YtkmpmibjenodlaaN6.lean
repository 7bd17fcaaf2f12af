/-
  Net: a parcel is on its way no more.
-/
import Derived.Test.YtkmpmibjenodlaaN5
namespace Go.Proofs.Ytkmpmibjenodlaa
open Go.RowKit Go.Maps

theorem rowOf_get : ∀ {l : List Parcel} {vs : List Value} (h : l.length = vs.length) (j : Nat) (hj : j < l.length) (m : Nat) (hm : m < 5),
    (rowOf l vs)[j * 5 + m]? = (pcs l[j] (vs[j]'(h ▸ hj)))[m]?
  | [], [], _, _, hj, _, _ => by simp at hj
  | p :: l, v :: vs, h, 0, _, m, hm => by
    show (pcs p v ++ rowOf l vs)[0 * 5 + m]? = (pcs p v)[m]?
    rw [Nat.zero_mul, Nat.zero_add, List.getElem?_append_left (by simp [pcs]; omega)]
  | p :: l, v :: vs, h, j + 1, hj, m, hm => by
    have e : (j + 1) * 5 + m = (pcs p v).length + (j * 5 + m) := by simp [pcs]; omega
    rw [rowOf, e, List.getElem?_append_right (by omega), Nat.add_sub_cancel_left]
    simpa using rowOf_get (l := l) (vs := vs) (by simpa using h) j (by simpa using hj) m hm

/-- The cells of a parcel. -/
theorem NetAt.parcel {w : World} {bn bm : Nat} {a : Option Addr} {c : Nat} {vs : List Value} {k : Nat} {st : NetSt} (h : NetAt w bn bm (.slice a st.l.length c) vs k st) (j : Nat) (hj : j < st.l.length) :
    ∃ g, a = some ⟨g, 0, none⟩ ∧ st.l.length ≤ c ∧ c ≤ maxLen ∧ w.cell? ⟨g, j * 5, none⟩ = some (.bool st.l[j].fa) ∧ w.cell? ⟨g, j * 5 + 1, none⟩ = some (.int .i64 st.l[j].fn) ∧
      w.cell? ⟨g, j * 5 + 2, none⟩ = some (.bool st.l[j].ta) ∧ w.cell? ⟨g, j * 5 + 3, none⟩ = some (.int .i64 st.l[j].tn) ∧ w.cell? ⟨g, j * 5 + 4, none⟩ = some (vs[j]'(h.bytes.len ▸ hj)) := by
  have hg := rowOf_get h.bytes.len j hj
  have hc := fun g => GRow.cells h.row (g := g)
  rcases h.row.2 with ⟨he, h0⟩ | ⟨g, cap, cur, he, hgg, hl, hm, _⟩
  · omega
  · simp only [Value.slice.injEq, true_and] at he
    obtain ⟨rfl, rfl⟩ := he
    refine ⟨g, rfl, hl, hm, hc g rfl _ _ (hg 0 (by omega)), hc g rfl _ _ (hg 1 (by omega)), hc g rfl _ _ (hg 2 (by omega)), hc g rfl _ _ (hg 3 (by omega)), hc g rfl _ _ (hg 4 (by omega))⟩

/-- The network behind a store of another row of some of its parcels. -/
theorem NetAt.sub {w u : World} {bn bm : Nat} {lv lv' : Value} {vs vs' : List Value} {k : Nat} {st : NetSt} {l' : List Parcel} (h : NetAt w bn bm lv vs k st)
    (f : Fr (fun b => lv.ownBlock = some b) w u) {N : Nat} (hN : w.heap.size ≤ N) (hb : lv'.ownBlock = lv.ownBlock ∨ lv'.ownBlock = none ∨ ∃ b, lv'.ownBlock = some b ∧ N ≤ b)
    (hr : GRow u 30 5 lv' l'.length (rowOf l' vs')) (hby : Bytes w l' vs') (hsub : ∀ b ∈ vs'.filterMap Value.ownBlock, b ∈ vs.filterMap Value.ownBlock) (hnd : (vs'.filterMap Value.ownBlock).Nodup) (hl : l'.length ≤ 4096) :
    NetAt (u.setCell ⟨bn, 0, none⟩ lv') bn bm lv' vs' k { st with l := l' } ∧ ∀ b ∈ netFp bn bm lv' vs', b ∈ netFp bn bm lv vs ∨ N ≤ b := by
  obtain ⟨n1, n2, n3, n4, n5, n6, n7⟩ := nodup_fp.1 h.nd
  have hlt := h.lt
  have hnew : ∀ b, lv'.ownBlock = some b → b ∉ vs.filterMap Value.ownBlock ∧ b ≠ bn ∧ b ≠ bm := by
    intro b hb'
    rcases hb with hb | hb | ⟨b', hb, hge⟩
    · rw [hb'] at hb
      exact ⟨n6 b hb.symm, fun e => n2 (e ▸ hb.symm), fun e => n3 (e ▸ hb.symm)⟩
    · rw [hb'] at hb; cases hb
    · rw [hb'] at hb; cases hb
      refine ⟨fun hm => ?_, fun e => ?_, fun e => ?_⟩
      · have := h.bytes.lt b hm; omega
      · have := hlt bn (by simp [netFp]); omega
      · have := hlt bm (by simp [netFp]); omega
  have cellu := f.heap h.cell (by rintro e; exact n2 e)
  have keep : ∀ b, b < w.heap.size → lv.ownBlock ≠ some b → b ≠ bn → (u.setCell ⟨bn, 0, none⟩ lv').heap[b]? = w.heap[b]? := by
    intro b h1 h2 h3
    rw [heap_setCell_other _ _ _ _ (by simpa using h3), f.block b h1 h2]
  refine ⟨⟨?_, ?_, ?_, ?_, ?_, h.small, hl, h.cb⟩, fun b hb' => ?_⟩
  · rw [heap_setCell_same _ _ _ _ _ _ cellu]
    rfl
  · exact h.map.keep (keep bm h.map.lt n3 (Ne.symm n1))
  · refine GRow.keep hr fun b hb' => ?_
    rw [heap_setCell_other _ _ _ _ (by simpa using (hnew b hb').2.1)]
  · refine hby.keep fun b hb' => ?_
    have h1 := hsub b hb'
    exact keep b (h.bytes.lt b h1) (fun e => n6 b e h1) (fun e => n4 (e ▸ h1))
  · rw [nodup_fp]
    exact ⟨n1, fun e => (hnew bn e).2.1 rfl, fun e => (hnew bm e).2.2 rfl, fun e => n4 (hsub _ e), fun e => n5 (hsub _ e), fun b hb' e => (hnew b hb').1 (hsub _ e), hnd⟩
  · simp only [netFp, List.mem_cons] at hb' ⊢
    rcases hb' with hb' | hb' | hb'
    · exact .inl (.inl hb')
    · exact .inl (.inr (.inl hb'))
    · obtain ⟨x, hx, hxb⟩ := List.mem_filterMap.1 hb'
      rcases List.mem_cons.1 hx with rfl | hx
      · rcases hb with hb | hb | ⟨b', hb, hge⟩
        · rw [hb] at hxb
          exact .inl (.inr (.inr (List.mem_filterMap.2 ⟨_, by simp, hxb⟩)))
        · rw [hb] at hxb; cases hxb
        · rw [hb] at hxb; cases hxb; exact .inr hge
      · obtain ⟨y, hy, hyb⟩ := List.mem_filterMap.1 (hsub b (List.mem_filterMap.2 ⟨x, hx, hxb⟩))
        exact .inl (.inr (.inr (List.mem_filterMap.2 ⟨y, by simp [hy], hyb⟩)))

theorem rowOf_len : ∀ {l : List Parcel} {vs : List Value}, l.length = vs.length → (rowOf l vs).length = l.length * 5
  | [], [], _ => rfl
  | p :: l, v :: vs, h => by rw [rowOf, List.length_append, rowOf_len (l := l) (by simpa using h)]; simp [pcs]; omega
theorem rowOf_take : ∀ {l : List Parcel} {vs : List Value} (i : Nat), l.length = vs.length → (rowOf l vs).take (i * 5) = rowOf (l.take i) (vs.take i)
  | [], [], i, _ => by simp [rowOf]
  | p :: l, v :: vs, 0, _ => by simp [rowOf]
  | p :: l, v :: vs, i + 1, h => by
    have e : (i + 1) * 5 = (pcs p v).length + i * 5 := by simp [pcs]; omega
    rw [rowOf, e, List.take_length_add_append, rowOf_take i (by simpa using h)]; rfl
theorem rowOf_drop : ∀ {l : List Parcel} {vs : List Value} (i : Nat), l.length = vs.length → (rowOf l vs).drop (i * 5) = rowOf (l.drop i) (vs.drop i)
  | [], [], i, _ => by simp [rowOf]
  | p :: l, v :: vs, 0, _ => by simp
  | p :: l, v :: vs, i + 1, h => by
    have e : (i + 1) * 5 = (pcs p v).length + i * 5 := by simp [pcs]; omega
    rw [rowOf, e, List.drop_length_add_append, rowOf_drop i (by simpa using h)]; rfl
theorem rowOf_erase {l : List Parcel} {vs : List Value} (i : Nat) (h : l.length = vs.length) (_hi : i < l.length) :
    (rowOf l vs).take (i * 5) ++ (rowOf l vs).drop ((i + 1) * 5) = rowOf (l.eraseIdx i) (vs.eraseIdx i) := by
  rw [rowOf_take i h, rowOf_drop (i + 1) h, List.eraseIdx_eq_take_drop_succ, List.eraseIdx_eq_take_drop_succ, rowOf_append _ _ (by simp [h])]
theorem rowOf_one : ∀ {l : List Parcel} {vs : List Value}, l.length = vs.length → (∀ v ∈ vs, ∃ a n c, v = .slice a n c) → ∀ u ∈ rowOf l vs, u.oneCell' = true
  | [], [], _, _, u, hu => by simp [rowOf] at hu
  | p :: l, v :: vs, h, hv, u, hu => by
    rw [rowOf, List.mem_append] at hu
    rcases hu with hu | hu
    · obtain ⟨a, n, c, rfl⟩ := hv v (by simp)
      simp [pcs] at hu; rcases hu with rfl | rfl | rfl | rfl | rfl <;> rfl
    · exact rowOf_one (by simpa using h) (fun v hv' => hv v (List.mem_cons_of_mem _ hv')) u hu
theorem Bytes.form {w : World} : ∀ {l : List Parcel} {vs : List Value}, Bytes w l vs → ∀ i (h1 : i < l.length) (h2 : i < vs.length), GRow w 5 1 vs[i] l[i].b.length (bcs l[i].b)
  | [], [], _, i, h1, _ => by simp at h1
  | p :: l, v :: vs, h, 0, _, _ => h.1
  | p :: l, v :: vs, h, i + 1, h1, h2 => Bytes.form h.2 i (by simpa using h1) (by simpa using h2)
theorem Bytes.slices {w : World} {l : List Parcel} {vs : List Value} (h : Bytes w l vs) : ∀ v ∈ vs, ∃ a n c, v = .slice a n c := by
  intro v hv
  obtain ⟨i, hi, rfl⟩ := List.getElem_of_mem hv
  obtain ⟨a, c, e⟩ := (h.form i (by rw [h.len]; exact hi) hi).form
  exact ⟨a, _, c, e⟩
theorem Bytes.erase {w : World} : ∀ {l : List Parcel} {vs : List Value} (i : Nat), Bytes w l vs → Bytes w (l.eraseIdx i) (vs.eraseIdx i)
  | [], [], _, h => h
  | p :: l, v :: vs, 0, h => h.2
  | p :: l, v :: vs, i + 1, h => ⟨h.1, Bytes.erase i h.2⟩

/-- A parcel is taken out: all else stands. -/
def GonePost (w : World) (bn bm : Nat) (lv : Value) (vs : List Value) (i : Nat) (k : Nat) (st' : NetSt) (w' : World) : Prop :=
  Fr (fun b => b = bn) w w' ∧ ∃ lv', NetAt w' bn bm lv' (vs.eraseIdx i) k st' ∧ ∀ b, lv'.ownBlock = some b → lv.ownBlock = some b ∨ w.heap.size ≤ b

theorem GonePost.sub {w w' : World} {bn bm : Nat} {lv lv' : Value} {vs : List Value} {i : Nat} (hl : ∀ b, lv'.ownBlock = some b → lv.ownBlock = some b ∨ w.heap.size ≤ b) :
    ∀ b ∈ netFp bn bm lv' (vs.eraseIdx i), b ∈ netFp bn bm lv vs ∨ w.heap.size ≤ b := by
  intro b hb
  simp only [netFp, List.mem_cons, List.filterMap_cons] at hb ⊢
  have hv : b ∈ (vs.eraseIdx i).filterMap Value.ownBlock → b ∈ vs.filterMap Value.ownBlock := fun hb => by
    obtain ⟨x, hx, hxb⟩ := List.mem_filterMap.1 hb
    exact List.mem_filterMap.2 ⟨x, List.mem_of_mem_eraseIdx hx, hxb⟩
  rcases hb with h | h | h
  · exact .inl (.inl h)
  · exact .inl (.inr (.inl h))
  · cases ho : lv'.ownBlock with
    | none =>
      rw [ho] at h
      refine .inl (.inr (.inr ?_))
      cases lv.ownBlock with
      | none => exact hv h
      | some x => exact List.mem_cons_of_mem _ (hv h)
    | some c =>
      rw [ho] at h
      rcases List.mem_cons.1 h with h | h
      · subst h
        rcases hl b ho with h1 | h1
        · rw [h1]; exact .inl (.inr (.inr (List.mem_cons_self ..)))
        · exact .inr h1
      · refine .inl (.inr (.inr ?_))
        cases lv.ownBlock with
        | none => exact hv h
        | some x => exact List.mem_cons_of_mem _ (hv h)

set_option maxRecDepth 100000 in
set_option maxHeartbeats 2000000 in
theorem gone_mid {w : World} {bn bm : Nat} {lv : Value} {vs : List Value} {k : Nat} {st : NetSt} (h : NetAt w bn bm lv vs k st) (i : Nat) (hi : i + 1 < st.l.length) :
    Calls Try.prog 28 #[.pointer (some ⟨bn, 0, none⟩), .int .i64 i] w fun e w' =>
      e = .returned (.agg (pcs (st.l[i]'(by omega)) (vs[i]'(h.bytes.len ▸ (by omega)))).toArray) ∧ GonePost w bn bm lv vs i k { st with l := st.l.eraseIdx i } w' := by
  obtain ⟨a, c, rfl⟩ := h.row.form
  obtain ⟨g, rfl, hl, hm, e0, e1, e2, e3, e4⟩ := h.parcel i (by omega)
  obtain ⟨q1, q2⟩ := h.box
  have hfull := h.full
  unfold maxLen at hm
  have hbn := lt_of_block h.cell
  have hg := World.block_lt_of_cell? w _ e0
  obtain ⟨va, vc, hv⟩ : ∃ a c, vs[i]'(h.bytes.len ▸ (by omega)) = .slice a (st.l[i]'(by omega)).b.length c := (h.bytes.form i (by omega) (h.bytes.len ▸ (by omega))).form
  rw [hv] at e4 ⊢
  have i0 : (0 : Int) ≤ (i : Int) := by omega
  have i1 : (i : Int) < (st.l.length : Int) := by omega
  have i2 : (i : Int) ≤ (c : Int) := by omega
  have i3 : (i : Int) + 1 ≤ (st.l.length : Int) := by omega
  have i4 : (i : Int) + 1 ≤ (c : Int) := by omega
  have W1 := Lib.hid (show IntKind.i64.wrap ((i : Int) + 1) = (i : Int) + 1 from IntWalk.i64_in _ (by omega))
  have W2 := Lib.hid (show ((i : Int) + 1).toNat = i + 1 from by omega)
  have w3 : ¬ c = i + 1 := by omega
  go_enter Try.func28, Try.ntmps28
  go_wp2_with fail
  refine wp_draw [((Fr Non w), [(.free, 0), (.free, 1), (.free, 2), (.free, 3), (.held, 4), (.free, 5), (.free, 6), (.free, 7), (.free, 8), (.free, 9), (.free, 10), (.held, 11), (.free, 12), (.free, 13), (.free, 14), (.kept, 15), (.free, 16), (.free, 17)])] 18 (by kernel_rfl) (by kernel_rfl) (fun _ _ _ _ _ h => h) ⟨(((Fr.refl _ _).alloc _).alloc _).drew, ?_⟩
  repeat (first
    | (refine' wpPlan_free (v := _) rfl (by rfl) ?_ ?_
       rotate_left
       · (intro w'; have w1 := W1.out; have w2 := W2.out; go_simp; try rfl)
       simp only [List.getElem_toArray, List.getElem_cons_zero, List.getElem_cons_succ, Act.put, List.setIfInBounds_toArray, List.set_cons_zero, List.set_cons_succ])
    | (refine' wpPlan_held (v := _) rfl (by rfl) ?_ ?_
       rotate_left
       · (intro w' hS; have w1 := W1.out; have w2 := W2.out; obtain ⟨q1, _⟩ := hS.box h.cell id; clear hS; go_simp; try rfl)
       simp only [List.getElem_toArray, List.getElem_cons_zero, List.getElem_cons_succ, Act.put, List.setIfInBounds_toArray, List.set_cons_zero, List.set_cons_succ])
    | (refine' wpPlan_skip rfl (by rfl) ?_
       simp only [List.getElem_toArray, List.getElem_cons_zero, List.getElem_cons_succ, Act.put, List.setIfInBounds_toArray, List.set_cons_zero, List.set_cons_succ])
    | (refine' wpPlan_skipHeld rfl (by rfl) ?_
       simp only [List.getElem_toArray, List.getElem_cons_zero, List.getElem_cons_succ, Act.put, List.setIfInBounds_toArray, List.set_cons_zero, List.set_cons_succ]))
  refine' wpPlan_kept rfl ?_
  intro K hK
  have hlen := h.bytes.len
  have W3 : ∀ j u, (rowOf st.l vs)[j]? = some u → w.cell? ⟨g, j, none⟩ = some u := h.row.cells rfl
  have W4 : ∀ {x : World}, Fr Non w x → ∀ j u, (rowOf st.l vs)[j]? = some u → x.cell? ⟨g, j, none⟩ = some u := fun f j u hu => f.cell (W3 j u hu) id
  have fw : Fr Non w ((w.alloc (.cells #[Value.bool false, Value.int IntKind.i64 0, Value.bool false, Value.int IntKind.i64 0, Value.slice none 0 0] 30)).alloc (.cells (pcs st.l[i] (.slice va st.l[i].b.length vc)).toArray 30)).drew := (((Fr.refl _ _).alloc _).alloc _).drew
  refine step_append_f rfl _ _ eI30 rfl ⟨g, 0, none⟩ i i ((rowOf st.l vs).take (i * 5)) rfl (by rw [List.length_take, rowOf_len hlen]; omega) ?_ _ (st.l.length - (i + 1)) ((rowOf st.l vs).drop ((i + 1) * 5)) rfl ⟨by rw [List.length_drop, rowOf_len hlen, Nat.sub_mul], ?_, .inr ⟨_, _, rfl, ?_⟩⟩ (by omega) (Nat.le_refl _) (by unfold maxLen; omega) (by omega) ?_
  · intro j u hu
    rw [addr_add]
    refine W4 fw j u ?_
    rw [List.getElem?_take] at hu
    split at hu
    · exact hu
    · cases hu
  · intro u hu
    exact rowOf_one hlen h.bytes.slices u (List.mem_of_mem_drop hu)
  · intro j u hu
    rw [addr_add']
    refine W4 fw _ u ?_
    rw [List.getElem?_drop] at hu; exact hu
  intro lv' w1 r1 r2 r3 r4
  have f1 := fw.trans r2
  obtain ⟨a4, c4, rfl⟩ := r1.form
  refine hK _ _ ⟨f1, ?_⟩
  clear hK K
  repeat (first
    | (refine' wpPlan_free (v := _) rfl (by rfl) ?_ ?_
       rotate_left
       · (intro w'; go_simp; try rfl)
       simp only [List.getElem_toArray, List.getElem_cons_zero, List.getElem_cons_succ, Act.put, List.setIfInBounds_toArray, List.set_cons_zero, List.set_cons_succ])
    | (refine' wpPlan_held (v := _) rfl (by rfl) ?_ ?_
       rotate_left
       · (intro w' hS; go_simp; try rfl)
       simp only [List.getElem_toArray, List.getElem_cons_zero, List.getElem_cons_succ, Act.put, List.setIfInBounds_toArray, List.set_cons_zero, List.set_cons_succ])
    | (refine' wpPlan_skip rfl (by rfl) ?_
       simp only [List.getElem_toArray, List.getElem_cons_zero, List.getElem_cons_succ, Act.put, List.setIfInBounds_toArray, List.set_cons_zero, List.set_cons_succ])
    | (refine' wpPlan_skipHeld rfl (by rfl) ?_
       simp only [List.getElem_toArray, List.getElem_cons_zero, List.getElem_cons_succ, Act.put, List.setIfInBounds_toArray, List.set_cons_zero, List.set_cons_succ]))
  refine wpPlan_end ?_
  simp only [wpSegs, List.drop_succ_cons, List.drop_zero]
  obtain ⟨b1, z1⟩ := f1.box h.cell id
  obtain ⟨b2, z2⟩ := r2.of_drew.box (alloc_at2 w _ _) id
  obtain ⟨b3, z3⟩ := r2.of_drew.box (alloc_at2' w _ _) id
  have hne : bn ≠ w.heap.size := by omega
  have hne2 : bn ≠ w.heap.size + 1 := by omega
  have HL := Lib.hid hlen
  clear W1 W2 q1 q2 W4 W3 fw hlen
  go_wp2_with fail
  have hlen := HL.out
  have s1 := h.sub (f1.mono (T' := fun b => (Value.slice (some ⟨g, 0, none⟩) st.l.length c).ownBlock = some b) (fun _ _ => False.elim)) (l' := st.l.eraseIdx i) (vs' := vs.eraseIdx i) (N := w.heap.size + 2) (by omega)
    (.inr (.inr ⟨_, r3, by simp only [World.size_drew, World.size_alloc]; omega⟩))
    (by rw [← rowOf_erase i hlen (by omega), show (st.l.eraseIdx i).length = i + (st.l.length - (i + 1)) from by rw [List.length_eraseIdx_of_lt (by omega)]; omega]; exact r1)
    (h.bytes.erase i) (fun b hb => by
      obtain ⟨x, hx, hxb⟩ := List.mem_filterMap.1 hb
      exact List.mem_filterMap.2 ⟨x, List.mem_of_mem_eraseIdx hx, hxb⟩)
    (((List.eraseIdx_sublist vs i).filterMap _).nodup (nodup_fp.1 h.nd).2.2.2.2.2.2) (by rw [List.length_eraseIdx_of_lt (by omega)]; omega)
  refine bodyPost_ret (v := .agg (pcs st.l[i] (.slice va st.l[i].b.length vc)).toArray) (by simp [results, Try.results28, go_sem, b2, pcs]) rfl ⟨rfl, ?_, _, s1.1.keep fun b hb => ?_, fun b hb => .inr (by rw [r3] at hb; cases hb; simp only [World.size_drew, World.size_alloc]; omega)⟩
  · have q0 : Fr (fun b => b = bn) w w1 := f1.mono (fun _ _ => False.elim)
    have q1 := q0.setCell (p := ⟨bn, 0, none⟩) (.inl rfl) (.slice a4 (i + (st.l.length - (i + 1))) c4)
    iterate 5 refine Fr.setCell ?_ (.inr (by simp)) _
    exact q1
  · have hb' := s1.1.lt b hb
    have hne3 : b ≠ w.heap.size := by
      rcases s1.2 b hb with h1 | h1
      · have := h.lt b h1; omega
      · omega
    simp only [heap_setCell_other, hne3, ne_eq, not_false_eq_true]
end Go.Proofs.Ytkmpmibjenodlaa
