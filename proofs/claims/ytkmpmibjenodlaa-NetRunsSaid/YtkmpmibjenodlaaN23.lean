/-
  Net: the reference's off.
-/
import Derived.Test.YtkmpmibjenodlaaN22
namespace Go.Proofs.Ytkmpmibjenodlaa
open Go.RowKit Go.Maps

def RefPost (w : World) (rb : Nat) (lv : Value) (us : List Value) (k : Nat) (st' : NetSt) (w' : World) : Prop :=
  Fr (fun b => b ∈ refFp rb lv us) w w' ∧ ∃ lv' us', RefAt w' rb lv' us' k st' ∧ ∀ b ∈ refFp rb lv' us', b ∈ refFp rb lv us ∨ w.heap.size ≤ b

theorem RefAt.src {w : World} {rb : Nat} {g c : Nat} {us : List Value} {k : Nat} {st : NetSt} (h : RefAt w rb (.slice (some ⟨g, 0, none⟩) st.l.length c) us k st) :
    ∀ j u, (rowOf st.l us)[j]? = some u → w.cell? ⟨g, j, none⟩ = some u := h.row.cells rfl
theorem RefAt.mono {w : World} {rb : Nat} {lv : Value} {us : List Value} {k k' : Nat} {st : NetSt} (h : RefAt w rb lv us k st) (hk : k ≤ k') (hs : k' ≤ 1000000) : RefAt w rb lv us k' st :=
  { h with small := hs, cb := fun j => by have := h.cb j; omega }
theorem RefPost.quiet {w w' : World} {rb : Nat} {lv : Value} {us : List Value} {k : Nat} {st : NetSt} (h : RefAt w rb lv us k st) (hk : k < 1000000) (f : Fr Non w w') : RefPost w rb lv us (k + 1) st w' :=
  ⟨f.mono (fun _ _ => False.elim), lv, us, (h.fr f (fun _ _ => id)).mono (Nat.le_succ k) hk, fun _ hb => .inl hb⟩

/-- A count goes up. -/
theorem RefAt.count {w : World} {rb : Nat} {lv : Value} {us : List Value} {k : Nat} {st : NetSt} (h : RefAt w rb lv us k st) (hk : k < 1000000) (j : Nat) (x d : Int) (hx : x = j) (hj : j < 4) (hd : 0 ≤ d ∧ d ≤ 5000) :
    RefAt (w.setCell ⟨rb, j + 1, none⟩ (.int .i64 (st.c x + d))) rb lv us (k + 1) { st with c := upd st.c x (st.c x + d) } := by
  subst hx
  have f : Fr (fun b => b = rb) w (w.setCell ⟨rb, j + 1, none⟩ (.int .i64 (st.c j + d))) := (Fr.refl (fun b => b = rb) _).setCell (.inl rfl) _
  refine ⟨?_, h.row.keep fun b hb => f.block b (h.row.lt b hb) (fun e => h.ne1 (e ▸ hb)), h.bytes.keep fun b hb => f.block b (h.bytes.lt b hb) (fun e => h.ne2 (e ▸ hb)), h.ne1, h.ne2, h.ne3, h.full, hk, fun i => ?_⟩
  · rw [block_set h.cell]
    rcases j with _ | _ | _ | _ | j
    · simp [upd]
    · simp [upd]
    · simp [upd]
    · simp [upd]
    · omega
  · have := h.cb i
    have := h.cb j
    unfold upd
    simp only
    split <;> omega
/-- Another list. -/
theorem RefAt.list {w u : World} {rb : Nat} {lv lv' : Value} {us us' : List Value} {k : Nat} {st : NetSt} {l' : List Parcel} (h : RefAt w rb lv us k st) (hb : u.heap[rb]? = w.heap[rb]?)
    (g : GRow u 30 5 lv' l'.length (rowOf l' us')) (hB : Bytes u l' us') (hl : l'.length ≤ 4096) (n1 : lv'.ownBlock ≠ some rb) (n2 : rb ∉ us'.filterMap Value.ownBlock)
    (n3 : ∀ b, lv'.ownBlock = some b → b ∉ us'.filterMap Value.ownBlock) : RefAt (u.setCell ⟨rb, 0, none⟩ lv') rb lv' us' k { st with l := l' } := by
  have f : Fr (fun b => b = rb) u (u.setCell ⟨rb, 0, none⟩ lv') := (Fr.refl (fun b => b = rb) _).setCell (.inl rfl) _
  refine ⟨?_, g.keep fun b hx => f.block b (g.lt b hx) (fun e => n1 (e ▸ hx)), hB.keep fun b hx => f.block b (hB.lt b hx) (fun e => n2 (e ▸ hx)), n1, n2, n3, hl, h.small, h.cb⟩
  rw [block_set (hb.trans h.cell)]
  simp

set_option maxRecDepth 100000 in
set_option maxHeartbeats 4000000 in
theorem off_any {w : World} {rb : Nat} {lv : Value} {us : List Value} {k : Nat} {st : NetSt} (h : RefAt w rb lv us k st) (i : Nat) (hi : i < st.l.length) :
    Calls Try.prog 41 #[.pointer (some ⟨rb, 0, none⟩), .int .i64 i] w fun e w' => e = .returned (.tuple #[]) ∧ Fr (fun b => b = rb) w w' ∧
      ∃ lv', RefAt w' rb lv' (us.eraseIdx i) k { st with l := st.l.eraseIdx i } ∧ ∀ b, lv'.ownBlock = some b → w.heap.size ≤ b := by
  have hlen := h.bytes.len
  obtain ⟨g, c, rfl, hl, hm⟩ : ∃ g c, lv = .slice (some ⟨g, 0, none⟩) st.l.length c ∧ st.l.length ≤ c ∧ c ≤ maxLen := by
    rcases h.row.2 with ⟨_, h0⟩ | ⟨g, cap, cur, rfl, _, h1, h2, _⟩
    · omega
    · exact ⟨g, cap, rfl, h1, h2⟩
  have hsrc := h.src
  have hfull := h.full
  unfold maxLen at hm
  have hrb := lt_of_block h.cell
  have hgl : g < w.heap.size := h.row.lt g rfl
  have i0 : (0 : Int) ≤ (i : Int) := by omega
  have i1 : (i : Int) < (st.l.length : Int) := by omega
  have i2 : (i : Int) ≤ (c : Int) := by omega
  have i3 : (i : Int) + 1 ≤ (st.l.length : Int) := by omega
  have i4 : (i : Int) + 1 ≤ (c : Int) := by omega
  have W1 := Lib.hid (show IntKind.i64.wrap ((i : Int) + 1) = (i : Int) + 1 from IntWalk.i64_in _ (by omega))
  have W2 := Lib.hid (show ((i : Int) + 1).toNat = i + 1 from by omega)
  have HS := Lib.hid hsrc
  have HLen := Lib.hid hlen
  have HB := Lib.hid (show ∀ (x : World), Fr Non w x → ∀ j, x.cell? ⟨rb, j, none⟩ = (#[.slice (some ⟨g, 0, none⟩) st.l.length c, .int .i64 (st.c 0), .int .i64 (st.c 1), .int .i64 (st.c 2), .int .i64 (st.c 3)] : Array Value)[j]? from fun x f => (f.box h.cell id).1)
  clear hsrc hlen
  obtain ⟨A, hA⟩ : ∃ A, (if c = i + 1 then (some ⟨g, 0, none⟩ : Option Addr) else some ⟨g, (i + 1) * 5, none⟩) = some A := by split <;> exact ⟨_, rfl⟩
  have W3 := Lib.hid hA
  clear hA
  go_enter Try.func41, Try.ntmps41
  go_wp2_with fail
  refine wp_draw [((Fr Non w), [(.free, 0), (.free, 2), (.free, 3), (.free, 4), (.held, 5), (.free, 6), (.free, 7), (.free, 9), (.free, 10), (.free, 11), (.held, 12), (.free, 13), (.free, 14), (.free, 15), (.kept, 1), (.kept, 8), (.kept, 16), (.free, 17), (.free, 18)])] 19 (by kernel_rfl) (by kernel_rfl) (fun _ _ _ _ _ h => h) ⟨(Fr.refl _ _).drew, ?_⟩
  repeat (first
    | (refine' wpPlan_free (v := _) rfl (by rfl) ?_ ?_
       rotate_left
       · (intro w'; have w1 := W1.out; have w2 := W2.out; have w3 := W3.out; go_simp; try rfl)
       simp only [List.getElem_toArray, List.getElem_cons_zero, List.getElem_cons_succ, Act.put, List.setIfInBounds_toArray, List.set_cons_zero, List.set_cons_succ])
    | (refine' wpPlan_held (v := _) rfl (by rfl) ?_ ?_
       rotate_left
       · (intro w' hS; have w1 := W1.out; have w2 := W2.out; have w3 := W3.out; have q1 := HB.out _ hS; clear hS; go_simp; try rfl)
       simp only [List.getElem_toArray, List.getElem_cons_zero, List.getElem_cons_succ, Act.put, List.setIfInBounds_toArray, List.set_cons_zero, List.set_cons_succ])
    | (refine' wpPlan_skip rfl (by rfl) ?_
       simp only [List.getElem_toArray, List.getElem_cons_zero, List.getElem_cons_succ, Act.put, List.setIfInBounds_toArray, List.set_cons_zero, List.set_cons_succ])
    | (refine' wpPlan_skipHeld rfl (by rfl) ?_
       simp only [List.getElem_toArray, List.getElem_cons_zero, List.getElem_cons_succ, Act.put, List.setIfInBounds_toArray, List.set_cons_zero, List.set_cons_succ]))
  have fd : Fr Non w w.drew := (Fr.refl _ _).drew
  have hd : w.drew.heap.size = w.heap.size := rfl
  generalize w.drew = wd at fd hd ⊢
  have HD := Lib.hid hd
  clear hd
  refine' wpPlan_kept rfl ?_
  intro K hK
  go_simp
  have fa : Fr Non w (wd.alloc (.cells #[] 30)) := fd.alloc _
  refine hK _ _ ⟨fa, ?_⟩
  clear hK K
  repeat (first
    | (refine' wpPlan_free (v := _) rfl (by rfl) ?_ ?_
       rotate_left
       · (intro w'; go_simp; try rfl)
       simp only [List.getElem_toArray, List.getElem_cons_zero, List.getElem_cons_succ, Act.put, List.setIfInBounds_toArray, List.set_cons_zero, List.set_cons_succ])
    | (refine' wpPlan_held (v := _) rfl (by rfl) ?_ ?_
       rotate_left
       · (intro w' hS; go_simp; try rfl)
       simp only [List.getElem_toArray, List.getElem_cons_zero, List.getElem_cons_succ, Act.put, List.setIfInBounds_toArray, List.set_cons_zero, List.set_cons_succ])
    | (refine' wpPlan_skip rfl (by rfl) ?_
       simp only [List.getElem_toArray, List.getElem_cons_zero, List.getElem_cons_succ, Act.put, List.setIfInBounds_toArray, List.set_cons_zero, List.set_cons_succ])
    | (refine' wpPlan_skipHeld rfl (by rfl) ?_
       simp only [List.getElem_toArray, List.getElem_cons_zero, List.getElem_cons_succ, Act.put, List.setIfInBounds_toArray, List.set_cons_zero, List.set_cons_succ]))
  refine' wpPlan_kept rfl ?_
  intro K hK
  have hlen := HLen.out
  refine step_append_g rfl _ _ eI30 rfl _ 0 [] rfl ⟨by simp, .inr ⟨_, _, _, rfl, alloc_at wd _, Nat.le_refl _, by decide, by simp, by simp⟩⟩ _ i ((rowOf st.l us).take (i * 5)) rfl ⟨by rw [List.length_take, rowOf_len hlen]; omega, fun u hu => rowOf_one hlen h.bytes.slices u (List.mem_of_mem_take hu), .inr ⟨_, _, rfl, fun j u hu => ?_⟩⟩ (by unfold maxLen; omega) (by omega) ?_
  · rw [addr_add]
    rw [List.getElem?_take] at hu
    split at hu
    · exact fa.cell (HS.out j u hu) id
    · cases hu
  intro v1 w1 r1 r2 r3 r4
  have f1 : Fr Non w w1 := fa.trans2 r2 (fun b hb e => by have e1 : wd.heap.size = b := Option.some.inj e; have := HD.out; omega)
  refine hK _ _ ⟨f1, ?_⟩
  clear hK K
  repeat (first
    | (refine' wpPlan_free (v := _) rfl (by rfl) ?_ ?_
       rotate_left
       · (intro w'; go_simp; try rfl)
       simp only [List.getElem_toArray, List.getElem_cons_zero, List.getElem_cons_succ, Act.put, List.setIfInBounds_toArray, List.set_cons_zero, List.set_cons_succ])
    | (refine' wpPlan_held (v := _) rfl (by rfl) ?_ ?_
       rotate_left
       · (intro w' hS; go_simp; try rfl)
       simp only [List.getElem_toArray, List.getElem_cons_zero, List.getElem_cons_succ, Act.put, List.setIfInBounds_toArray, List.set_cons_zero, List.set_cons_succ])
    | (refine' wpPlan_skip rfl (by rfl) ?_
       simp only [List.getElem_toArray, List.getElem_cons_zero, List.getElem_cons_succ, Act.put, List.setIfInBounds_toArray, List.set_cons_zero, List.set_cons_succ])
    | (refine' wpPlan_skipHeld rfl (by rfl) ?_
       simp only [List.getElem_toArray, List.getElem_cons_zero, List.getElem_cons_succ, Act.put, List.setIfInBounds_toArray, List.set_cons_zero, List.set_cons_succ]))
  refine' wpPlan_kept rfl ?_
  intro K hK
  simp only [Nat.zero_add, List.nil_append] at r1
  have hb1 : ∀ b, v1.ownBlock = some b → w.heap.size ≤ b := fun b hb => by
    rcases r3 with r3 | ⟨r3, _⟩
    · have e1 : wd.heap.size = b := Option.some.inj (r3.symm.trans hb)
      have := HD.out
      omega
    · have e1 := Option.some.inj (r3.symm.trans hb)
      simp only [World.size_alloc] at e1
      have := HD.out
      omega
  refine step_append_g rfl _ _ eI30 rfl _ i ((rowOf st.l us).take (i * 5)) rfl r1 _ (st.l.length - (i + 1)) ((rowOf st.l us).drop ((i + 1) * 5)) rfl ⟨by rw [List.length_drop, rowOf_len hlen]; omega, fun u hu => rowOf_one hlen h.bytes.slices u (List.mem_of_mem_drop hu), ?_⟩ (by unfold maxLen; omega) (by omega) ?_
  · refine .inr ⟨A, _, rfl, fun j u hu => ?_⟩
    rw [List.getElem?_drop] at hu
    have hA := W3.out
    split at hA
    · have := (List.getElem?_eq_some_iff.1 hu).1
      rw [rowOf_len hlen] at this
      omega
    · cases hA
      rw [addr_add']
      exact f1.cell (HS.out _ u hu) id
  intro v2 w2 p1 p2 p3 p4
  have f2 : Fr Non w w2 := f1.trans2 p2 (fun b hb e => by have := hb1 b e; omega)
  have hb2 : ∀ b, v2.ownBlock = some b → w.heap.size ≤ b := fun b hb => by
    rcases p3 with p3 | ⟨p3, _⟩
    · exact hb1 b (p3 ▸ hb)
    · have e1 := Option.some.inj (p3.symm.trans hb)
      have := f1.size
      omega
  have hn : i + (st.l.length - (i + 1)) = (st.l.eraseIdx i).length := by rw [List.length_eraseIdx_of_lt hi]; omega
  rw [rowOf_erase i hlen hi, hn] at p1
  obtain ⟨a2, c2, rfl⟩ := p1.form
  refine hK _ _ ⟨f2, ?_⟩
  clear hK K
  have q2 := HB.out _ f2
  have z2 := (f2.box h.cell id).2
  clear hn
  repeat (first
    | (refine' wpPlan_free (v := _) rfl (by rfl) ?_ ?_
       rotate_left
       · (intro w'; go_simp; try rfl)
       simp only [List.getElem_toArray, List.getElem_cons_zero, List.getElem_cons_succ, Act.put, List.setIfInBounds_toArray, List.set_cons_zero, List.set_cons_succ])
    | (refine' wpPlan_held (v := _) rfl (by rfl) ?_ ?_
       rotate_left
       · (intro w' hS; go_simp; try rfl)
       simp only [List.getElem_toArray, List.getElem_cons_zero, List.getElem_cons_succ, Act.put, List.setIfInBounds_toArray, List.set_cons_zero, List.set_cons_succ])
    | (refine' wpPlan_skip rfl (by rfl) ?_
       simp only [List.getElem_toArray, List.getElem_cons_zero, List.getElem_cons_succ, Act.put, List.setIfInBounds_toArray, List.set_cons_zero, List.set_cons_succ])
    | (refine' wpPlan_skipHeld rfl (by rfl) ?_
       simp only [List.getElem_toArray, List.getElem_cons_zero, List.getElem_cons_succ, Act.put, List.setIfInBounds_toArray, List.set_cons_zero, List.set_cons_succ]))
  refine wpPlan_end ?_
  simp only [wpSegs, List.drop_succ_cons, List.drop_zero]
  go_wp2_with fail
  go_end0
  have hsub : ∀ b ∈ (us.eraseIdx i).filterMap Value.ownBlock, b ∈ us.filterMap Value.ownBlock := fun b hb => ((List.eraseIdx_sublist us i).filterMap _).subset hb
  refine ⟨rfl, (f2.mono (fun _ _ => False.elim) : Fr (fun b => b = rb) w w2).setCell (.inl rfl) _, _, h.list (f2.block rb hrb id) p1 ((h.bytes.erase i).keep fun b hb => f2.block b (h.bytes.lt b (hsub b hb)) id) ?_ ?_ ?_ ?_, hb2⟩
  · rw [List.length_eraseIdx_of_lt hi]; omega
  · intro e; have := hb2 _ e; omega
  · exact fun e => h.ne2 (hsub _ e)
  · intro b hb hx; have := h.bytes.lt b (hsub b hx); have := hb2 b hb; omega
end Go.Proofs.Ytkmpmibjenodlaa
