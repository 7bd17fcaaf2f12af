/-
  Net: the reference's Swap.
-/
import Derived.Test.YtkmpmibjenodlaaN25
namespace Go.Proofs.Ytkmpmibjenodlaa
open Go.RowKit Go.Maps

set_option maxRecDepth 100000 in
set_option maxHeartbeats 4000000 in
theorem ref_swap {w : World} {rb : Nat} {lv : Value} {us : List Value} {k : Nat} {st : NetSt} (h : RefAt w rb lv us k st) (hk : k < 1000000) (x y : Int) :
    Calls Try.prog 34 #[.pointer (some ⟨rb, 0, none⟩), .int .i64 x, .int .i64 y] w fun e w' => e = .returned (.int .i64 (cSwap st x y)) ∧ RefPost w rb lv us (k + 1) (nSwap st x y) w' := by
  unfold cSwap nSwap
  by_cases h1 : isI st x
  rotate_left
  · rw [if_neg (fun e => h1 e.1), if_neg (fun e => h1 e.1)]
    have hd := decide_eq_false h1
    go_enter Try.func34, Try.ntmps34
    go_wp2_with fail
    refine (is_any h x).mono ?_
    rintro e w' ⟨rfl, hw'⟩
    obtain rfl := hw'.symm
    rw [hd]
    clear hd
    go_wp2_with fail
    go_ret
    exact ⟨rfl, .quiet h hk (Fr.refl _ _)⟩
  have d1 := Lib.hid (decide_eq_true h1)
  by_cases h2 : isI st y
  rotate_left
  · rw [if_neg (fun e => h2 e.2), if_neg (fun e => h2 e.2)]
    have hd := Lib.hid (decide_eq_false h2)
    go_enter Try.func34, Try.ntmps34
    go_wp2_with fail
    refine (is_any h x).mono ?_
    rintro e w' ⟨rfl, hw'⟩
    obtain rfl := hw'.symm
    rw [d1.out]
    go_wp2_with fail
    refine (is_any h y).mono ?_
    rintro e w' ⟨rfl, hw'⟩
    obtain rfl := hw'.symm
    rw [hd.out]
    go_wp2_with fail
    go_ret
    exact ⟨rfl, .quiet h hk (Fr.refl _ _)⟩
  have d2 := Lib.hid (decide_eq_true h2)
  rw [if_pos ⟨h1, h2⟩, if_pos ⟨h1, h2⟩]
  have p1 : pAt st x = st.l.getD x.toNat zp := if_pos h1
  have p2 : pAt st y = st.l.getD y.toNat zp := if_pos h2
  rw [p1, p2]
  obtain ⟨i, rfl, hi⟩ := isI_nat h1
  obtain ⟨j, rfl, hj⟩ := isI_nat h2
  simp only [Int.toNat_natCast, List.getD, List.getElem?_eq_getElem hi, List.getElem?_eq_getElem hj, Option.getD_some]
  obtain ⟨a, c, rfl⟩ := h.row.form
  have hfull := h.full
  have hrb := lt_of_block h.cell
  have fa : Fr Non w (w.alloc (.cells #[] 30)) := (Fr.refl _ _).alloc _
  obtain ⟨q1, q2⟩ := h.box
  obtain ⟨q3, q4⟩ := (h.fr fa (fun _ _ => id)).box
  have hsrc : Src w 5 (.slice a st.l.length c) st.l.length (rowOf st.l us) := h.row.src (rowOf_one h.bytes.len h.bytes.slices)
  go_enter Try.func34, Try.ntmps34
  go_wp2_with fail
  refine (is_any h i).mono ?_
  rintro e w' ⟨rfl, hw'⟩
  obtain rfl := hw'.symm
  rw [d1.out]
  go_wp2_with fail
  refine (is_any h j).mono ?_
  rintro e w' ⟨rfl, hw'⟩
  obtain rfl := hw'.symm
  rw [d2.out]
  go_wp2_with (at_builtin; refine wpList_append_g rfl _ _ eI30 rfl _ 0 [] rfl ?hg _ st.l.length (rowOf st.l us) rfl (hsrc.alloc _) ?h1 ?h2 ?_)
  case hg => exact ⟨by simp, .inr ⟨_, _, _, rfl, heap_alloc_new _ _, Nat.le_refl _, by decide, by simp, by simp⟩⟩
  case h1 => unfold maxLen; omega
  case h2 => omega
  intro v' w1 g1 g2 g3 g4
  (try simp only [Nat.zero_add, List.nil_append] at g1)
  clear q1 q2 q3 q4
  have f1 : Fr Non w w1 := fa.trans2 g2 (fun b hb e => by have e1 : w.heap.size = b := Option.some.inj e; omega)
  have hnew : ∀ b, v'.ownBlock = some b → w.heap.size ≤ b := fun b hb => by
    rcases g3 with g3 | ⟨g3, _⟩
    · have e1 : w.heap.size = b := Option.some.inj (g3.symm.trans hb)
      omega
    · have e1 := Option.some.inj (g3.symm.trans hb)
      (try simp only [World.size_alloc] at e1)
      omega
  obtain ⟨G, cap, cur, rfl, t0, hl, hm, t4, t5⟩ : ∃ G cap cur, v' = .slice (some ⟨G, 0, none⟩) st.l.length cap ∧ w1.heap[G]? = some (.cells cur 30 (0, 0)) ∧ st.l.length ≤ cap ∧ cap ≤ maxLen ∧ cap * 5 ≤ cur.size ∧ cur.toList.take (st.l.length * 5) = rowOf st.l us := by
    rcases g1.2 with ⟨_, h0⟩ | hx
    · omega
    · exact hx
  unfold maxLen at hm
  have hG := hnew G rfl
  obtain ⟨G', hGG, e0, e1, e2, e3, e4⟩ := all_at g1 h.bytes.len i hi
  cases hGG
  obtain ⟨G', hGG, z0, z1, z2, z3, z4⟩ := all_at g1 h.bytes.len j hj
  cases hGG
  have i0 : (0 : Int) ≤ (i : Int) := by omega
  have i1 : (i : Int) < (st.l.length : Int) := by omega
  have j0 : (0 : Int) ≤ (j : Int) := by omega
  have j1 : (j : Int) < (st.l.length : Int) := by omega
  obtain ⟨p, hp⟩ : ∃ p, st.l[i] = p := ⟨_, rfl⟩
  obtain ⟨q, hq⟩ : ∃ q, st.l[j] = q := ⟨_, rfl⟩
  have gi := h.bytes.form i hi (h.bytes.len ▸ hi)
  have gj := h.bytes.form j hj (h.bytes.len ▸ hj)
  obtain ⟨va, vc, hv⟩ : ∃ a c, us[i]'(h.bytes.len ▸ hi) = .slice a st.l[i].b.length c := gi.form
  obtain ⟨ua, uc, hu⟩ : ∃ a c, us[j]'(h.bytes.len ▸ hj) = .slice a st.l[j].b.length c := gj.form
  rw [hp] at e0 e1 e2 e3 hv gi
  rw [hq] at z0 z1 z2 z3 hu gj
  rw [hv] at e4 gi
  rw [hu] at z4 gj
  have HV := Lib.hid hv
  have HU := Lib.hid hu
  have HT := Lib.hid t5
  have HP := Lib.hid hp
  have HQ := Lib.hid hq
  clear hp hq hv hu t5
  go_wp2_with fail
  refine wp_draw [((fun w' => w' = w1.drew), [(.free, 0), (.free, 1), (.free, 2), (.free, 3), (.free, 4), (.free, 5), (.free, 6), (.held, 7), (.free, 8), (.free, 9), (.free, 10), (.held, 11), (.free, 12)])] 13 (by kernel_rfl) (by kernel_rfl) (fun _ _ _ _ _ h => h) ⟨rfl, ?_⟩
  repeat (first
    | (refine' wpPlan_free (v := _) rfl (by rfl) ?_ ?_
       rotate_left
       · (intro w'; go_simp; try rfl)
       simp only [List.getElem_toArray, List.getElem_cons_zero, List.getElem_cons_succ, Act.put, List.setIfInBounds_toArray, List.set_cons_zero, List.set_cons_succ])
    | (refine' wpPlan_held (v := _) rfl (by rfl) ?_ ?_
       rotate_left
       · (intro w' hS; subst hS; go_simp; try rfl)
       simp only [List.getElem_toArray, List.getElem_cons_zero, List.getElem_cons_succ, Act.put, List.setIfInBounds_toArray, List.set_cons_zero, List.set_cons_succ])
    | (refine' wpPlan_skip rfl (by rfl) ?_
       simp only [List.getElem_toArray, List.getElem_cons_zero, List.getElem_cons_succ, Act.put, List.setIfInBounds_toArray, List.set_cons_zero, List.set_cons_succ])
    | (refine' wpPlan_skipHeld rfl (by rfl) ?_
       simp only [List.getElem_toArray, List.getElem_cons_zero, List.getElem_cons_succ, Act.put, List.setIfInBounds_toArray, List.set_cons_zero, List.set_cons_succ]))
  repeat (first
    | (refine' wpPlan_free (v := _) rfl (by rfl) ?_ ?_
       rotate_left
       · (intro w'; go_simp; try rfl)
       simp only [List.getElem_toArray, List.getElem_cons_zero, List.getElem_cons_succ, Act.put, List.setIfInBounds_toArray, List.set_cons_zero, List.set_cons_succ])
    | (refine' wpPlan_held (v := _) rfl (by rfl) ?_ ?_
       rotate_left
       · (intro w' hS; go_simp; try rfl)
       simp only [List.getElem_toArray, List.getElem_cons_zero, List.getElem_cons_succ, Act.put, List.setIfInBounds_toArray, List.set_cons_zero, List.set_cons_succ])
    | (refine' wpPlan_skip rfl (by rfl) ?_
       simp only [List.getElem_toArray, List.getElem_cons_zero, List.getElem_cons_succ, Act.put, List.setIfInBounds_toArray, List.set_cons_zero, List.set_cons_succ])
    | (refine' wpPlan_skipHeld rfl (by rfl) ?_
       simp only [List.getElem_toArray, List.getElem_cons_zero, List.getElem_cons_succ, Act.put, List.setIfInBounds_toArray, List.set_cons_zero, List.set_cons_succ]))
  refine wpPlan_end ?_
  simp only [wpSegs, List.drop_succ_cons, List.drop_zero]
  have T0 : w1.drew.heap[G]? = some (.cells cur 30 (0, 0)) := t0
  have fd : Fr Non w w1.drew := f1.drew
  clear e0 e1 e2 e3 e4 z0 z1 z2 z3 z4 t0
  generalize w1.drew = wd at T0 fd ⊢
  have hs1 : i * 5 + 5 ≤ cur.size := by omega
  have hs2 : j * 5 + 5 ≤ cur.size := by omega
  refine wpList_store_block rfl 30 _ _ rfl G (i * 5) rfl (.agg (pcs q (.slice ua q.b.length uc)).toArray) rfl cur 30 T0 hs1 (by kernel_rfl) (by simp [Value.cells, pcs, Value.oneCell']) ?_
  intro w2 s1 s2
  refine wpList_plain rfl (fun K hK => ?_)
  go_simp
  refine hK _ _ ?_
  clear hK K
  have hs3 : j * 5 + 5 ≤ (putAt cur.toList (i * 5) (pcs q (.slice ua q.b.length uc))).toArray.size := by
    rw [List.size_toArray, putAt_len (by simpa [pcs] using hs1)]; simpa using hs2
  refine wpList_store_block rfl 30 _ _ rfl G (j * 5) rfl (.agg (pcs p (.slice va p.b.length vc)).toArray) rfl _ 30 s1 hs3 (by kernel_rfl) (by simp [Value.cells, pcs, Value.oneCell']) ?_
  intro w3 s3 s4
  have f3 : Fr Non w w3 := (fd.trans2 s2 (fun b hb e => by have : b = G := e; omega)).trans2 s4 (fun b hb e => by have : b = G := e; omega)
  have hrowlen := rowOf_len h.bytes.len
  have e1 : (putAt (putAt cur.toList (i * 5) (pcs q (.slice ua q.b.length uc))) (j * 5) (pcs p (.slice va p.b.length vc))).take (st.l.length * 5) = rowOf ((st.l.set i q).set j p) ((us.set i (.slice ua q.b.length uc)).set j (.slice va p.b.length vc)) := by
    rw [putAt_take (by simp [pcs]; omega) (by rw [putAt_len (by simp [pcs]; omega)]; simp; omega), putAt_take (by simp [pcs]; omega) (by simp; omega), HT.out, rowOf_set i q _ h.bytes.len hi, rowOf_set j p _ (by simp [h.bytes.len]) (by simpa using hj)]
  have hl3 : st.l.length * 5 ≤ (putAt (putAt cur.toList (i * 5) (pcs q (.slice ua q.b.length uc))) (j * 5) (pcs p (.slice va p.b.length vc))).length := by
    rw [putAt_len (by rw [putAt_len (by simp [pcs]; omega)]; simp [pcs]; omega), putAt_len (by simp [pcs]; omega)]; simp; omega
  have hrow' : GRow w3 30 5 (.slice (some ⟨G, 0, none⟩) st.l.length cap) ((st.l.set i q).set j p).length (rowOf ((st.l.set i q).set j p) ((us.set i (.slice ua q.b.length uc)).set j (.slice va p.b.length vc))) := by
    rw [← e1]
    simp only [List.length_set]
    refine ⟨by rw [List.length_take]; omega, .inr ⟨G, cap, _, rfl, s3, hl, by unfold maxLen; omega, ?_, rfl⟩⟩
    rw [List.size_toArray]
    show cap * 5 ≤ (putAt (putAt cur.toList (i * 5) (pcs q (.slice ua q.b.length uc))) (j * 5) (pcs p (.slice va p.b.length vc))).length
    rw [putAt_len (by rw [putAt_len (by simpa [pcs] using hs1)]; simpa [pcs] using hs2), putAt_len (by simpa [pcs] using hs1)]; simpa using t4
  have hperm : (((us.set i (.slice ua q.b.length uc)).set j (.slice va p.b.length vc)).filterMap Value.ownBlock).Perm (us.filterMap Value.ownBlock) := by
    rw [← HU.out, ← HV.out]
    exact (List.set_set_perm (h.bytes.len ▸ hi) (h.bytes.len ▸ hj)).filterMap _
  have hbyt : Bytes w ((st.l.set i q).set j p) ((us.set i (.slice ua q.b.length uc)).set j (.slice va p.b.length vc)) := (h.bytes.set i q _ gj).set j p _ gi
  have h3 := (h.fr f3 (fun _ _ => id)).list rfl hrow' (hbyt.keep fun b hb => f3.block b (h.bytes.lt b (hperm.mem_iff.1 hb)) id) (by simpa using hfull) (by intro e; have := hnew _ e; omega)
    (fun e => h.ne2 (hperm.mem_iff.1 e)) (fun b hb e => by have := hnew _ hb; have := h.bytes.lt b (hperm.mem_iff.1 e); omega)
  obtain ⟨q1, q2⟩ := (h.fr f3 (fun _ _ => id)).box
  have HPM := Lib.hid hperm
  clear e1 hl3 hrow' hperm hbyt hrowlen
  go_wp2_with fail
  go_ret
  (try rw [HP.out, HQ.out])
  refine ⟨by trivial, (f3.mono (fun _ _ => False.elim) : Fr (fun b => b ∈ refFp rb (.slice a st.l.length c) us) w w3).setCell (.inl (refFp_mem.2 (.inl rfl))) _, _, _, h3.mono (Nat.le_succ k) hk, fun b hb => ?_⟩
  rcases refFp_mem.1 hb with rfl | hb | hb
  · exact .inl (refFp_mem.2 (.inl rfl))
  · exact .inr (hnew b hb)
  · exact .inl (refFp_mem.2 (.inr (.inr (HPM.out.mem_iff.1 hb))))
end Go.Proofs.Ytkmpmibjenodlaa
