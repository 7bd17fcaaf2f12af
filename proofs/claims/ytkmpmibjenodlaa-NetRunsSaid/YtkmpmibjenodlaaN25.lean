/-
  Net: the reference's Put.
-/
import Derived.Test.YtkmpmibjenodlaaN24
namespace Go.Proofs.Ytkmpmibjenodlaa
open Go.RowKit Go.Maps

set_option maxRecDepth 100000 in
set_option maxHeartbeats 4000000 in
theorem ref_put {w : World} {rb : Nat} {lv : Value} {us : List Value} {k : Nat} {st : NetSt} (h : RefAt w rb lv us k st) (hk : k < 1000000) (p : Parcel) (v : Value) (hp : Src w 1 v p.b.length (bcs p.b)) :
    Calls Try.prog 30 #[.pointer (some ⟨rb, 0, none⟩), .agg #[.bool p.fa, .int .i64 p.fn, .bool p.ta, .int .i64 p.tn, v]] w fun e w' =>
      e = .returned (.int .i64 (nPut st p).1) ∧ RefPost w rb lv us (k + 1) (nPut st p).2 w' := by
  obtain ⟨a, c, rfl⟩ := h.row.form
  obtain ⟨va, vc, rfl⟩ := src_form hp
  have hrb := lt_of_block h.cell
  have hfull := h.full
  have f0 : Fr Non w (w.alloc (.cells #[.bool p.fa, .int .i64 p.fn, .bool p.ta, .int .i64 p.tn, .slice va p.b.length vc] 30)) := (Fr.refl Non w).alloc _
  have HB := Lib.hid (show ∀ (x : World), Fr Non (w.alloc (.cells #[.bool p.fa, .int .i64 p.fn, .bool p.ta, .int .i64 p.tn, .slice va p.b.length vc] 30)) x → ∀ j, x.cell? ⟨w.heap.size, j, none⟩ = (#[.bool p.fa, .int .i64 p.fn, .bool p.ta, .int .i64 p.tn, .slice va p.b.length vc] : Array Value)[j]? from fun x f => (f.box (alloc_at w _) id).1)
  unfold nPut
  by_cases h1 : okA p.fn
  rotate_left
  · rw [if_pos h1]
    have hd := decide_eq_false h1
    go_enter Try.func30, Try.ntmps30
    go_wp2_with fail
    refine (isaddr_any _ _ _).mono ?_
    rintro e w1 ⟨rfl, f1⟩
    rw [hd]
    go_wp2_with fail
    go_ret
    exact ⟨rfl, .quiet h hk (f0.trans f1)⟩
  rw [if_neg (fun x => x h1)]
  have d1 := Lib.hid (decide_eq_true h1)
  by_cases h2 : okA p.tn
  rotate_left
  · rw [if_pos h2]
    have d2 := Lib.hid (decide_eq_false h2)
    go_enter Try.func30, Try.ntmps30
    go_wp2_with fail
    refine (isaddr_any _ _ _).mono ?_
    rintro e w1 ⟨rfl, f1⟩
    rw [d1.out]
    have b1 := HB.out _ f1
    go_wp2_with fail
    refine (isaddr_any _ _ _).mono ?_
    rintro e w2 ⟨rfl, f2⟩
    rw [d2.out]
    clear b1
    go_wp2_with fail
    go_ret
    exact ⟨rfl, .quiet h hk ((f0.trans f1).trans f2)⟩
  rw [if_neg (fun x => x h2)]
  have d2 := Lib.hid (decide_eq_true h2)
  by_cases h3 : 262144 < p.b.length
  · rw [if_pos h3]
    have l0 : (262144 : Int) < (p.b.length : Int) := by omega
    go_enter Try.func30, Try.ntmps30
    go_wp2_with fail
    refine (isaddr_any _ _ _).mono ?_
    rintro e w1 ⟨rfl, f1⟩
    rw [d1.out]
    have b1 := HB.out _ f1
    go_wp2_with fail
    refine (isaddr_any _ _ _).mono ?_
    rintro e w2 ⟨rfl, f2⟩
    rw [d2.out]
    clear b1
    have b2 := HB.out _ (f1.trans f2)
    go_wp2_with fail
    go_ret
    exact ⟨rfl, .quiet h hk ((f0.trans f1).trans f2)⟩
  rw [if_neg h3]
  have l0 : ¬ (262144 : Int) < (p.b.length : Int) := by omega
  by_cases h4 : st.l.length = 4096
  · rw [if_pos h4]
    have l1 : ¬ (st.l.length : Int) < 4096 := by omega
    have l2 : (4096 : Int) ≤ (st.l.length : Int) := by omega
    obtain ⟨c0, c1⟩ := h.cb 3
    have hs := h.small
    have W1 : IntKind.i64.wrap (st.c 3 + 1) = st.c 3 + 1 := IntWalk.i64_in _ (by omega)
    go_enter Try.func30, Try.ntmps30
    go_wp2_with fail
    refine (isaddr_any _ _ _).mono ?_
    rintro e w1 ⟨rfl, f1⟩
    rw [d1.out]
    have b1 := HB.out _ f1
    go_wp2_with fail
    refine (isaddr_any _ _ _).mono ?_
    rintro e w2 ⟨rfl, f2⟩
    rw [d2.out]
    clear b1
    have b2 := HB.out _ (f1.trans f2)
    have f3 : Fr Non w w2 := (f0.trans f1).trans f2
    have h5 := h.fr f3 (fun _ _ => id)
    obtain ⟨q1, q2⟩ := h5.box
    go_wp2_with fail
    go_ret
    exact ⟨rfl, (f3.mono (fun _ _ => False.elim) : Fr (fun b => b ∈ refFp rb (.slice a st.l.length c) us) w w2).setCell (.inl (refFp_mem.2 (.inl rfl))) _, _, _, h5.count hk 3 3 1 rfl (by omega) (by omega), fun b hb => .inl hb⟩
  rw [if_neg h4]
  have l1 : (st.l.length : Int) < 4096 := by omega
  have l2 : ¬ (4096 : Int) ≤ (st.l.length : Int) := by omega
  obtain ⟨c0, c1⟩ := h.cb 0
  have hs := h.small
  have W1 : IntKind.i64.wrap (st.c 0 + 1) = st.c 0 + 1 := IntWalk.i64_in _ (by omega)
  go_enter Try.func30, Try.ntmps30
  go_wp2_with fail
  refine (isaddr_any _ _ _).mono ?_
  rintro e w1 ⟨rfl, f1⟩
  rw [d1.out]
  have b1 := HB.out _ f1
  go_wp2_with fail
  refine (isaddr_any _ _ _).mono ?_
  rintro e w2 ⟨rfl, f2⟩
  rw [d2.out]
  clear b1
  have f3 : Fr Non w w2 := (f0.trans f1).trans f2
  have B2 := (f1.trans f2).heap (alloc_at w _) id
  obtain ⟨b2, z2⟩ := box_facts B2
  obtain ⟨b3, z3⟩ := ((Fr.refl Non w2).alloc (.cells #[] 5)).box B2 id
  have h5 := h.fr f3 (fun _ _ => id)
  obtain ⟨q1, q2⟩ := h5.box
  have hz2 := (f1.trans f2).size
  simp only [World.size_alloc] at hz2
  have hp2 := (hp.keep (w' := w2) fun _ _ _ hb => f3.block _ hb id : Src w2 1 (.slice va p.b.length vc) p.b.length (bcs p.b))
  go_wp2_with (at_builtin; refine wpList_append_g rfl _ _ eI5 rfl _ 0 [] rfl ?hg _ p.b.length (bcs p.b) rfl (hp2.alloc _) ?h1 ?h2 ?_)
  case hg => exact ⟨by simp, .inr ⟨_, _, _, rfl, heap_alloc_new _ _, Nat.le_refl _, by decide, by simp, by simp⟩⟩
  case h1 => unfold maxLen; omega
  case h2 => omega
  intro v' w3 g1 g2 g3 g4
  obtain ⟨a3, c3, rfl⟩ := g1.form
  clear b2 z2 b3 z3 q1 q2
  have f4 : Fr Non w2 w3 := ((Fr.refl Non w2).alloc _).trans2 g2 (fun b hb e => by have e1 : w2.heap.size = b := Option.some.inj e; omega)
  have B3 := f4.heap B2 id
  obtain ⟨b4, z4⟩ := box_facts B3
  have hn3 : ∀ b, (Value.slice a3 p.b.length c3).ownBlock = some b → w2.heap.size ≤ b := fun b hb => by
    rcases g3 with g3 | ⟨g3, _⟩
    · have e1 : w2.heap.size = b := Option.some.inj (g3.symm.trans hb)
      omega
    · have e1 := Option.some.inj (g3.symm.trans hb)
      (try simp only [World.size_alloc] at e1)
      omega
  go_wp2_with fail
  have B4 := block_set B3 4 (.slice a3 p.b.length c3)
  simp only [List.setIfInBounds_toArray, List.set_cons_succ, List.set_cons_zero] at B4
  have f5 : Fr (fun b => b = w.heap.size) w3 (w3.setCell ⟨w.heap.size, 4, none⟩ (.slice a3 p.b.length c3)) := (Fr.refl (fun b => b = w.heap.size) _).setCell (.inl rfl) _
  have h6 := (h5.fr f4 (fun _ _ => id)).fr f5 (fun b hb e => by have := h.lt b hb; omega)
  have g5 : GRow _ 5 1 (.slice a3 p.b.length c3) p.b.length (bcs p.b) := (by simpa using g1 : GRow w3 5 1 (.slice a3 p.b.length c3) p.b.length (bcs p.b)).keep fun b hb => f5.block b (g1.lt b hb) (fun e => by have := hn3 b hb; omega)
  have f6 : Fr Non w (w3.setCell ⟨w.heap.size, 4, none⟩ (.slice a3 p.b.length c3)) := (f3.trans f4).trans2 f5 (fun b hb e => by omega)
  clear b4 z4 g1 g2 f5
  generalize w3.setCell ⟨w.heap.size, 4, none⟩ (.slice a3 p.b.length c3) = w4 at B4 h6 g5 f6 ⊢
  have hnx : (Value.slice a st.l.length c).ownBlock ≠ some w.heap.size := by
    intro he; exact absurd (h.row.lt _ he) (by omega)
  have hz4 := lt_of_block B4
  refine wp_draw [((Fr (fun b => (Value.slice a st.l.length c).ownBlock = some b) w4), [(.free, 0), (.free, 1), (.free, 2), (.free, 3), (.held, 4), (.held, 5), (.kept, 6), (.kept, 7), (.free, 8), (.free, 9)])] 10 (by kernel_rfl) (by kernel_rfl) (fun _ _ _ _ _ h => h) ⟨(Fr.drew (Fr.refl _ _)), ?_⟩
  repeat (first
    | (refine' wpPlan_free (v := _) rfl (by rfl) ?_ ?_
       rotate_left
       · (intro w'; go_simp; try rfl)
       simp only [List.getElem_toArray, List.getElem_cons_zero, List.getElem_cons_succ, Act.put, List.setIfInBounds_toArray, List.set_cons_zero, List.set_cons_succ])
    | (refine' wpPlan_held (v := _) rfl (by rfl) ?_ ?_
       rotate_left
       · (intro w' hS; obtain ⟨q1, _⟩ := hS.box h6.cell h6.ne1; obtain ⟨q2, _⟩ := hS.box B4 hnx; clear hS; go_simp; try rfl)
       simp only [List.getElem_toArray, List.getElem_cons_zero, List.getElem_cons_succ, Act.put, List.setIfInBounds_toArray, List.set_cons_zero, List.set_cons_succ])
    | (refine' wpPlan_skip rfl (by rfl) ?_
       simp only [List.getElem_toArray, List.getElem_cons_zero, List.getElem_cons_succ, Act.put, List.setIfInBounds_toArray, List.set_cons_zero, List.set_cons_succ])
    | (refine' wpPlan_skipHeld rfl (by rfl) ?_
       simp only [List.getElem_toArray, List.getElem_cons_zero, List.getElem_cons_succ, Act.put, List.setIfInBounds_toArray, List.set_cons_zero, List.set_cons_succ]))
  have fd : Fr (fun b => (Value.slice a st.l.length c).ownBlock = some b) w4 w4.drew := (Fr.refl _ _).drew
  have HD := Lib.hid (show w4.drew.heap.size = w4.heap.size from rfl)
  have HF := Lib.hid (show w4.drew.heap = w4.heap from rfl)
  generalize w4.drew = wd at fd HD HF ⊢
  refine' wpPlan_kept rfl ?_
  intro K hK
  go_simp
  refine hK _ _ ⟨fd.alloc _, ?_⟩
  clear hK K
  repeat (first
    | (refine' wpPlan_free (v := _) rfl (by rfl) ?_ ?_
       rotate_left
       · (intro w'; go_simp; try rfl)
       simp only [List.getElem_toArray, List.getElem_cons_zero, List.getElem_cons_succ, Act.put, List.setIfInBounds_toArray, List.set_cons_zero, List.set_cons_succ])
    | (refine' wpPlan_held (v := _) rfl (by rfl) ?_ ?_
       rotate_left
       · (intro w' hS; go_simp; try rfl)
       simp only [List.getElem_toArray, List.getElem_cons_zero, List.getElem_cons_succ, Act.put, List.setIfInBounds_toArray, List.set_cons_zero, List.set_cons_succ])
    | (refine' wpPlan_skip rfl (by rfl) ?_
       simp only [List.getElem_toArray, List.getElem_cons_zero, List.getElem_cons_succ, Act.put, List.setIfInBounds_toArray, List.set_cons_zero, List.set_cons_succ])
    | (refine' wpPlan_skipHeld rfl (by rfl) ?_
       simp only [List.getElem_toArray, List.getElem_cons_zero, List.getElem_cons_succ, Act.put, List.setIfInBounds_toArray, List.set_cons_zero, List.set_cons_succ]))
  refine' wpPlan_kept rfl ?_
  intro K hK
  refine step_append_g rfl _ _ eI30 rfl (.slice a st.l.length c) st.l.length (rowOf st.l us) rfl (h6.row.keep fun b hb => ?_) _ 1 (pcs p (.slice a3 p.b.length c3)) rfl (Src.block (m := 1) (alloc_at wd _) rfl ?_) ?_ ?_ ?_
  · have := h6.row.lt b hb
    have hz := HD.out
    rw [Below.heap_alloc _ _ _ (by omega)]
    exact HF.out ▸ rfl
  · simp [Value.oneCell']
  · unfold maxLen; omega
  · omega
  intro lv' w5 r1 r2 r3 r4
  obtain ⟨a5, c5, rfl⟩ := r1.form
  have f7 := (fd.alloc _).trans r2
  refine hK _ _ ⟨f7, ?_⟩
  clear hK K
  obtain ⟨q1, q2⟩ := f7.box h6.cell h6.ne1
  repeat (first
    | (refine' wpPlan_free (v := _) rfl (by rfl) ?_ ?_
       rotate_left
       · (intro w'; go_simp; try rfl)
       simp only [List.getElem_toArray, List.getElem_cons_zero, List.getElem_cons_succ, Act.put, List.setIfInBounds_toArray, List.set_cons_zero, List.set_cons_succ])
    | (refine' wpPlan_held (v := _) rfl (by rfl) ?_ ?_
       rotate_left
       · (intro w' hS; go_simp; try rfl)
       simp only [List.getElem_toArray, List.getElem_cons_zero, List.getElem_cons_succ, Act.put, List.setIfInBounds_toArray, List.set_cons_zero, List.set_cons_succ])
    | (refine' wpPlan_skip rfl (by rfl) ?_
       simp only [List.getElem_toArray, List.getElem_cons_zero, List.getElem_cons_succ, Act.put, List.setIfInBounds_toArray, List.set_cons_zero, List.set_cons_succ])
    | (refine' wpPlan_skipHeld rfl (by rfl) ?_
       simp only [List.getElem_toArray, List.getElem_cons_zero, List.getElem_cons_succ, Act.put, List.setIfInBounds_toArray, List.set_cons_zero, List.set_cons_succ]))
  refine wpPlan_end ?_
  simp only [wpSegs, List.drop_succ_cons, List.drop_zero]
  go_wp2_with fail
  go_ret
  have hsz := fd.size
  have hsz6 := f6.size
  have HDo := HD.out
  have hlen := h.bytes.len
  have hfr : ∀ b, (Value.slice a5 (st.l.length + 1) c5).ownBlock = some b → (Value.slice a st.l.length c).ownBlock = some b ∨ w4.heap.size ≤ b := fun b hb => by
    rcases r3 with r3 | ⟨r3, _⟩
    · exact .inl (r3 ▸ hb)
    · have e1 := Option.some.inj (r3.symm.trans hb)
      (try simp only [World.size_alloc] at e1)
      omega
  have hus : ∀ b, b ∈ (us ++ [Value.slice a3 p.b.length c3]).filterMap Value.ownBlock → b ∈ us.filterMap Value.ownBlock ∨ (w2.heap.size ≤ b ∧ b < w4.heap.size) := fun b hb => by
    rw [List.filterMap_append, List.mem_append] at hb
    rcases hb with hb | hb
    · exact .inl hb
    · obtain ⟨x, hx, hxb⟩ := List.mem_filterMap.1 hb
      rw [List.mem_singleton] at hx
      subst hx
      exact .inr ⟨hn3 b hxb, g5.lt b hxb⟩
  have hown : ∀ b, (Value.slice a3 p.b.length c3).ownBlock = some b → ¬ (Value.slice a st.l.length c).ownBlock = some b := fun b hb hx => by
    have := hn3 b hb
    have := h.row.lt b hx
    omega
  have h8 := h6.list (u := w5) (us' := us ++ [.slice a3 p.b.length c3]) (l' := st.l ++ [p]) (f7.block rb (lt_of_block h6.cell) h6.ne1)
    (by rw [rowOf_append _ _ hlen, List.length_append]; simpa [rowOf] using r1)
    ((h6.bytes.keep fun b hb => f7.block b (h6.bytes.lt b hb) (fun e => h6.ne3 b e hb)).append ⟨g5.keep fun b hb => f7.block b (g5.lt b hb) (hown b hb), trivial⟩)
    (by simp; omega)
    (fun e => by rcases hfr rb e with e | e
                 · exact h.ne1 e
                 · omega)
    (fun e => by rcases hus rb e with e | e
                 · exact h.ne2 e
                 · omega)
    (fun b hb e => by
      rcases hfr b hb with hb | hb <;> rcases hus b e with e | e
      · exact h.ne3 b hb e
      · have := h.row.lt b hb; omega
      · have := h6.bytes.lt b e; omega
      · omega)
  have f8 : Fr (fun b => b ∈ refFp rb (.slice a st.l.length c) us) w w5 := (f6.mono (fun _ _ => False.elim)).trans2 f7 (fun b _ hb => refFp_mem.2 (.inr (.inl hb)))
  refine ⟨by trivial, (f8.setCell (.inl (refFp_mem.2 (.inl rfl))) _).setCell (.inl (refFp_mem.2 (.inl rfl))) _, _, _, h8.count hk 0 0 1 rfl (by omega) (by omega), fun b hb => ?_⟩
  rcases refFp_mem.1 hb with rfl | hb | hb
  · exact .inl (refFp_mem.2 (.inl rfl))
  · rcases hfr b hb with hb | hb
    · exact .inl (refFp_mem.2 (.inr (.inl hb)))
    · exact .inr (by omega)
  · rcases hus b hb with hb | hb
    · exact .inl (refFp_mem.2 (.inr (.inr hb)))
    · exact .inr (by omega)
end Go.Proofs.Ytkmpmibjenodlaa
