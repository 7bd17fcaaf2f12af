/-
  Net: Put, a parcel goes on its way.
-/
import Derived.Test.YtkmpmibjenodlaaN3
import Derived.Deep.RegionHeld3
import Derived.Test.YtkmpmibjenodlaaD
namespace Go.Proofs.Ytkmpmibjenodlaa
open Go.RowKit Go.Maps

theorem nodup_fp {bn bm : Nat} {lv : Value} {vs : List Value} : (netFp bn bm lv vs).Nodup ↔
    bn ≠ bm ∧ lv.ownBlock ≠ some bn ∧ lv.ownBlock ≠ some bm ∧ bn ∉ vs.filterMap Value.ownBlock ∧ bm ∉ vs.filterMap Value.ownBlock ∧ (∀ b, lv.ownBlock = some b → b ∉ vs.filterMap Value.ownBlock) ∧ (vs.filterMap Value.ownBlock).Nodup := by
  simp only [netFp, List.nodup_cons, List.mem_cons, not_or]
  cases hb : lv.ownBlock with
  | none =>
    rw [List.filterMap_cons_none hb]
    simp only [ne_eq, reduceCtorEq, not_false_eq_true, true_and]
    constructor
    · rintro ⟨⟨a, b⟩, c, d⟩; exact ⟨a, b, c, by simp, d⟩
    · rintro ⟨a, b, c, _, d⟩; exact ⟨⟨a, b⟩, c, d⟩
  | some x =>
    rw [List.filterMap_cons_some hb]
    simp only [List.nodup_cons, List.mem_cons, not_or, ne_eq, Option.some.injEq]
    constructor
    · rintro ⟨⟨a, b, c⟩, ⟨d, e⟩, f, g⟩; exact ⟨a, fun h => b h.symm, fun h => d h.symm, c, e, fun y hy => hy ▸ f, g⟩
    · rintro ⟨a, b, d, c, e, f, g⟩; exact ⟨⟨a, fun h => b h.symm, c⟩, ⟨fun h => d h.symm, e⟩, f x rfl, g⟩

theorem mem_row {bn bm : Nat} {lv : Value} {vs : List Value} {b : Nat} (h : lv.ownBlock = some b) : b ∈ netFp bn bm lv vs := by
  simp only [netFp, List.mem_cons]; exact .inr (.inr (List.mem_filterMap.2 ⟨lv, by simp, h⟩))

/-- A parcel more: the network behind the append, the store and the count. -/
theorem NetAt.more {w u y : World} {bn bm : Nat} {lv lv' v' : Value} {vs : List Value} {k : Nat} {st : NetSt} {p : Parcel} (h : NetAt w bn bm lv vs k st) (hk : k < 1000000) (hf : st.l.length < 4096)
    (f : Fr (fun b => lv.ownBlock = some b) w u) (hr : GRow u 30 5 lv' (st.l.length + 1) (rowOf st.l vs ++ pcs p v')) (hb : lv'.ownBlock = lv.ownBlock ∨ ∃ b, lv'.ownBlock = some b ∧ w.heap.size ≤ b)
    (g : GRow w 5 1 v' p.b.length (bcs p.b)) (hv : ∀ b, v'.ownBlock = some b → b ∉ netFp bn bm lv vs)
    (hm : MapI Try.prog 64 3 y bm (k + 1) (upd st.c 0 (st.c 0 + 1))) (hy : Fr (fun i => i = bm) (u.setCell ⟨bn, 0, none⟩ lv') y) :
    NetAt y bn bm lv' (vs ++ [v']) (k + 1) { l := st.l ++ [p], c := upd st.c 0 (st.c 0 + 1) } := by
  obtain ⟨n1, n2, n3, n4, n5, n6, n7⟩ := nodup_fp.1 h.nd
  have hlt := h.lt
  have hnew : ∀ b, lv'.ownBlock = some b → b ∉ vs.filterMap Value.ownBlock ∧ b ≠ bn ∧ b ≠ bm := by
    intro b hb'
    rcases hb with hb | ⟨b', hb, hge⟩
    · rw [hb'] at hb
      exact ⟨n6 b hb.symm, fun e => n2 (e ▸ hb.symm), fun e => n3 (e ▸ hb.symm)⟩
    · rw [hb'] at hb; cases hb
      refine ⟨fun hm => ?_, fun e => ?_, fun e => ?_⟩
      · have := h.bytes.lt b hm; omega
      · have := hlt bn (by simp [netFp]); omega
      · have := hlt bm (by simp [netFp]); omega
  have hvb : ∀ b, v'.ownBlock = some b → b ≠ bn ∧ b ≠ bm ∧ lv.ownBlock ≠ some b ∧ b ∉ vs.filterMap Value.ownBlock ∧ b < w.heap.size := by
    intro b hb'
    have h1 := hv b hb'
    refine ⟨fun e => h1 (by simp [netFp, e]), fun e => h1 (by simp [netFp, e]), fun e => h1 ?_, fun e => h1 ?_, g.lt b hb'⟩
    · simp only [netFp, List.mem_cons]; exact .inr (.inr (List.mem_filterMap.2 ⟨lv, by simp, e⟩))
    · simp only [netFp, List.mem_cons]
      obtain ⟨x, hx, hxb⟩ := List.mem_filterMap.1 e
      exact .inr (.inr (List.mem_filterMap.2 ⟨x, by simp [hx], hxb⟩))
  have cellu := f.heap h.cell (by rintro e; exact n2 e)
  have bl := lt_of_block h.cell
  have keep : ∀ b, b < w.heap.size → lv.ownBlock ≠ some b → b ≠ bn → b ≠ bm → y.heap[b]? = w.heap[b]? := by
    intro b h1 h2 h3 h4
    have h5 : b < u.heap.size := Nat.lt_of_lt_of_le h1 f.size
    rw [hy.block b (by simpa using h5) h4, heap_setCell_other _ _ _ _ (by simpa using h3), f.block b h1 h2]
  refine ⟨?_, hm, ?_, ?_, ?_, by omega, by simp; omega, fun i => ?_⟩
  · refine hy.heap ?_ (by simpa using n1)
    rw [heap_setCell_same _ _ _ _ _ _ cellu]
    rfl
  · rw [show (st.l ++ [p]).length = st.l.length + 1 from by simp]
    rw [rowOf_append _ _ h.bytes.len]
    refine GRow.keep hr fun b hb' => ?_
    rw [hy.block b (by simpa using hr.lt b hb') (hnew b hb').2.2, heap_setCell_other _ _ _ _ (by simpa using (hnew b hb').2.1)]
  · refine Bytes.append (h.bytes.keep fun b hb' => ?_) ⟨g.keep fun b hb' => ?_, trivial⟩
    · exact keep b (h.bytes.lt b hb') (fun e => n6 b e hb') (fun e => n4 (e ▸ hb')) (fun e => n5 (e ▸ hb'))
    · obtain ⟨g1, g2, g3, g4, g5⟩ := hvb b hb'
      exact keep b g5 g3 g1 g2
  · rw [nodup_fp]
    have hap : (vs ++ [v']).filterMap Value.ownBlock = vs.filterMap Value.ownBlock ++ v'.ownBlock.toList := by
      rw [List.filterMap_append]; cases hx : v'.ownBlock <;> simp [hx]
    rw [hap]
    have hno : ∀ x, x ∈ v'.ownBlock.toList ↔ v'.ownBlock = some x := by intro x; cases v'.ownBlock <;> simp [eq_comm]
    refine ⟨n1, fun e => (hnew bn e).2.1 rfl, fun e => (hnew bm e).2.2 rfl, ?_, ?_, fun b hb' => ?_, ?_⟩
    · simp only [List.mem_append, not_or, hno]; exact ⟨n4, fun e => (hvb bn e).1 rfl⟩
    · simp only [List.mem_append, not_or, hno]; exact ⟨n5, fun e => (hvb bm e).2.1 rfl⟩
    · simp only [List.mem_append, not_or, hno]
      refine ⟨(hnew b hb').1, fun e => ?_⟩
      have h6 := hvb b e
      rcases hb with hb | ⟨b', hb, hge⟩
      · rw [hb'] at hb; exact h6.2.2.1 hb.symm
      · rw [hb'] at hb; cases hb; omega
    · rw [List.nodup_append]
      refine ⟨n7, by cases v'.ownBlock <;> simp, fun x hx y hy e => ?_⟩
      subst e
      exact (hvb x ((hno x).1 hy)).2.2.2.1 hx
  · have h1 := h.cb i
    have h2 := h.cb 0
    show 0 ≤ upd st.c 0 (st.c 0 + 1) i ∧ upd st.c 0 (st.c 0 + 1) i ≤ 5000 * ((k + 1 : Nat) : Int)
    unfold upd
    split <;> omega

set_option maxRecDepth 100000 in
set_option maxHeartbeats 2000000 in
theorem put_ok {w : World} {bn bm : Nat} {lv : Value} {vs : List Value} {k : Nat} {st : NetSt} (h : NetAt w bn bm lv vs k st) (hk : k < 1000000) (p : Parcel) (v : Value) (hp : Src w 1 v p.b.length (bcs p.b))
    (h1 : 0 ≤ p.fn ∧ p.fn < 1024) (h2 : 0 ≤ p.tn ∧ p.tn < 1024) (h3 : p.b.length ≤ 262144) (hf : st.l.length < 4096) :
    Calls Try.prog 10 #[.pointer (some ⟨bn, 0, none⟩), .agg #[.bool p.fa, .int .i64 p.fn, .bool p.ta, .int .i64 p.tn, v]] w fun e w' =>
      e = .returned (.int .i64 0) ∧ NetPost w bn bm lv vs (k + 1) { l := st.l ++ [p], c := upd st.c 0 (st.c 0 + 1) } w' := by
  obtain ⟨a, c, rfl⟩ := h.row.form
  obtain ⟨va, vc, rfl⟩ : ∃ a c, v = .slice a p.b.length c := by
    rcases hp.2.2 with ⟨rfl, h0⟩ | ⟨ad, c, rfl, _⟩
    · exact ⟨_, _, by rw [h0]⟩
    · exact ⟨_, _, rfl⟩
  obtain ⟨h1a, h1b⟩ := h1
  obtain ⟨h2a, h2b⟩ := h2
  have hbn := lt_of_block h.cell
  go_enter Try.func10, Try.ntmps10
  go_wp2_with fail
  refine (made_yes _ bm _ ?_).mono ?_
  · rw [World.cell?_alloc_past _ _ _ hbn]; exact h.box.1 1
  rintro e w' ⟨rfl, rfl⟩
  go_wp2_with fail
  refine (check_ok _ _ _ h1a h1b).mono ?_
  rintro e w1 ⟨rfl, f1⟩
  obtain ⟨b1, z1⟩ := f1.box (alloc_at _ _) id
  go_wp2_with fail
  refine (check_ok _ _ _ h2a h2b).mono ?_
  rintro e w2 ⟨rfl, f2⟩
  have f3 := f1.trans f2
  obtain ⟨b2, z2⟩ := f3.box (alloc_at _ _) id
  have h4 := (h.fr ((Fr.refl Non w).alloc _) (fun _ _ => id)).fr f3 (fun _ _ => id)
  obtain ⟨b3, z3⟩ := h4.box
  clear b1 z1 f1 f2
  go_wp2_with fail
  have hp2 := ((hp.alloc _).keep (w' := w2) fun _ _ _ hb => f3.block _ hb id : Src w2 1 (.slice va p.b.length vc) p.b.length (bcs p.b))
  have hbox := f3.heap (alloc_at w _) id
  have hnd := h4.nd
  simp only [netFp, List.nodup_cons, List.mem_cons, not_or, List.filterMap_cons] at hnd
  have hnb : (Value.slice a st.l.length c).ownBlock ≠ some bn := by
    intro he; rw [he] at hnd; simp at hnd
  have hnm : (Value.slice a st.l.length c).ownBlock ≠ some bm := by
    intro he; rw [he] at hnd; simp at hnd
  have hnx : (Value.slice a st.l.length c).ownBlock ≠ some w.heap.size := by
    intro he; exact absurd (h.row.lt _ he) (by omega)
  refine wp_draw [((Fr (fun b => (Value.slice a st.l.length c).ownBlock = some b) w2), [(.free, 0), (.free, 1), (.free, 2), (.free, 3), (.held, 4), (.held, 5), (.kept, 6), (.kept, 7), (.kept, 8), (.free, 9), (.free, 10)])] 11 (by kernel_rfl) (by kernel_rfl) (fun _ _ _ _ _ h => h) ⟨(Fr.drew (Fr.refl _ _)), ?_⟩
  repeat (first
    | (refine' wpPlan_free (v := _) rfl (by rfl) ?_ ?_
       rotate_left
       · (intro w'; go_simp; try rfl)
       simp only [List.getElem_toArray, List.getElem_cons_zero, List.getElem_cons_succ, Act.put, List.setIfInBounds_toArray, List.set_cons_zero, List.set_cons_succ])
    | (refine' wpPlan_held (v := _) rfl (by rfl) ?_ ?_
       rotate_left
       · (intro w' hS; obtain ⟨q1, _⟩ := hS.box h4.cell hnb; obtain ⟨q2, _⟩ := hS.box hbox hnx; clear hS; go_simp; try rfl)
       simp only [List.getElem_toArray, List.getElem_cons_zero, List.getElem_cons_succ, Act.put, List.setIfInBounds_toArray, List.set_cons_zero, List.set_cons_succ])
    | (refine' wpPlan_skip rfl (by rfl) ?_
       simp only [List.getElem_toArray, List.getElem_cons_zero, List.getElem_cons_succ, Act.put, List.setIfInBounds_toArray, List.set_cons_zero, List.set_cons_succ])
    | (refine' wpPlan_skipHeld rfl (by rfl) ?_
       simp only [List.getElem_toArray, List.getElem_cons_zero, List.getElem_cons_succ, Act.put, List.setIfInBounds_toArray, List.set_cons_zero, List.set_cons_succ]))
  refine' wpPlan_kept rfl ?_
  intro K hK
  go_wp2_with fail
  refine (own_any _ _ _ _ _ p.b _ hp2.drew (by omega)).mono ?_
  rintro e w3 ⟨a3, c3, rfl, g1, g2, g3⟩
  go_wp2_with fail
  have f4 := (Fr.drew (Fr.refl Non w2)).trans g2
  have h5 := h4.fr f4 (fun _ _ => id)
  have s3 := f4.mono (T' := fun b => (Value.slice a st.l.length c).ownBlock = some b) (fun _ _ => False.elim)
  refine ⟨s3, ?_⟩
  refine' wpPlan_kept rfl ?_
  intro K hK
  go_simp
  refine hK _ _ ⟨s3.alloc _, ?_⟩
  clear hK K
  refine' wpPlan_kept rfl ?_
  intro K hK
  refine step_append_g rfl _ _ eI30 rfl (.slice a st.l.length c) st.l.length (rowOf st.l vs) rfl (h5.row.keep fun b hb => ?_) _ 1 (pcs p (.slice a3 p.b.length c3)) rfl (Src.block (m := 1) (alloc_at w3 _) rfl ?_) ?_ ?_ ?_
  · exact Below.heap_alloc _ _ _ (h5.row.lt b hb)
  · simp [Value.oneCell']
  · unfold maxLen; omega
  · omega
  intro lv' w4 r1 r2 r3 r4
  obtain ⟨a4, c4, rfl⟩ := r1.form
  have f6 := (s3.alloc _).trans r2
  refine hK _ _ ⟨f6, ?_⟩
  clear hK K
  obtain ⟨q1, q2⟩ := f6.box h4.cell hnb
  repeat (first
    | (refine' wpPlan_free (v := _) rfl (by rfl) ?_ ?_
       rotate_left
       · (intro w'; go_simp; try rfl)
       simp only [List.getElem_toArray, List.getElem_cons_zero, List.getElem_cons_succ, Act.put, List.setIfInBounds_toArray, List.set_cons_zero, List.set_cons_succ])
    | (refine' wpPlan_held (v := _) rfl (by rfl) ?_ ?_
       rotate_left
       · (intro w' hS; go_simp; try rfl)
       simp only [List.getElem_toArray, List.getElem_cons_zero, List.getElem_cons_succ, Act.put, List.setIfInBounds_toArray, List.set_cons_zero, List.set_cons_succ])
    | (refine' wpPlan_skip rfl (by rfl) ?_
       simp only [List.getElem_toArray, List.getElem_cons_zero, List.getElem_cons_succ, Act.put, List.setIfInBounds_toArray, List.set_cons_zero, List.set_cons_succ])
    | (refine' wpPlan_skipHeld rfl (by rfl) ?_
       simp only [List.getElem_toArray, List.getElem_cons_zero, List.getElem_cons_succ, Act.put, List.setIfInBounds_toArray, List.set_cons_zero, List.set_cons_succ]))
  refine wpPlan_end ?_
  simp only [wpSegs, List.drop_succ_cons, List.drop_zero]
  obtain ⟨n1, n2, n3, n4, n5, n6, n7⟩ := nodup_fp.1 h5.nd
  have f7 : Fr (fun b => (Value.slice a st.l.length c).ownBlock = some b) w3 w4 := ((Fr.refl _ w3).alloc _).trans r2
  have m6 : MapI Try.prog 64 3 (w4.setCell ⟨bn, 0, none⟩ (.slice a4 (st.l.length + 1) c4)) bm k st.c :=
    h5.map.keep (by rw [heap_setCell_other _ _ _ _ (fun e => n1 e.symm), f7.block bm h5.map.lt n3])
  have hlk := m6.look (t := 56) Try.underlying56 Try.underlying64 Try.underlying3 zeroE3 0 (by decide)
  obtain ⟨hc0, hc1⟩ := h4.cb 0
  have hs := h4.small
  go_wp2_with (at_mapUpdate; refine wpList_updateI 56 rfl _ _ _ rfl Try.underlying56 Try.underlying64 Try.underlying3 rfl m6 ?hn 0 rfl (by decide) (st.c 0 + 1) rfl (WalkArith.wf_i64 (by omega)) ?_)
  case hn => unfold maxLen; omega
  intro w5 t1 t2
  go_wp2
  go_ret
  refine ⟨rfl, ?_, _, _, h5.more hk hf f7 r1 ?_ g1 (fun b hb hm => ?_) t1 t2, fun b hb => ?_⟩
  · have q0 : Fr (fun b => b ∈ netFp bn bm (.slice a st.l.length c) vs) w w4 := ((((Fr.refl Non w).alloc _).trans f3).mono (fun _ _ => False.elim)).trans2 f6 (fun b _ hb => mem_row hb)
    exact (q0.setCell (.inl (by simp [netFp])) _).trans2 t2 (fun b _ hb => mem_bm b hb)
  · rcases r3 with r3 | ⟨r3, r5⟩
    · exact .inl r3
    · exact .inr ⟨_, r3, by simp⟩
  · obtain ⟨ad, rfl, hab⟩ : ∃ ad, a3 = some ad ∧ b = ad.block := by
      cases a3 with
      | none => simp [Value.ownBlock] at hb
      | some ad => simp [Value.ownBlock] at hb; exact ⟨ad, rfl, hb.symm⟩
    have h8 := g3 ad rfl
    have h9 := h4.lt b hm
    simp only [World.size_drew] at h8
    omega
  · simp only [netFp, List.mem_cons] at hb ⊢
    rcases hb with hb | hb | hb
    · exact .inl (.inl hb)
    · exact .inl (.inr (.inl hb))
    · obtain ⟨x, hx, hxb⟩ := List.mem_filterMap.1 hb
      rcases List.mem_cons.1 hx with rfl | hx
      · rcases r3 with r3 | ⟨r3, r5⟩
        · rw [r3] at hxb
          exact .inl (.inr (.inr (List.mem_filterMap.2 ⟨_, by simp, hxb⟩)))
        · rw [r3] at hxb; cases hxb
          have := g2.size; have := f3.size
          simp at *; omega
      · rcases List.mem_append.1 hx with hx | hx
        · exact .inl (.inr (.inr (List.mem_filterMap.2 ⟨x, by simp [hx], hxb⟩)))
        · simp only [List.mem_singleton] at hx; subst hx
          obtain ⟨ad, rfl, hab⟩ : ∃ ad, a3 = some ad ∧ b = ad.block := by
            cases a3 with
            | none => simp [Value.ownBlock] at hxb
            | some ad => simp [Value.ownBlock] at hxb; exact ⟨ad, rfl, hxb.symm⟩
          have h8 := g3 ad rfl
          have := f3.size
          simp only [World.size_drew, World.size_alloc] at h8 this
          omega
end Go.Proofs.Ytkmpmibjenodlaa
