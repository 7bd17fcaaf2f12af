/-
  Net: the reference's Cut.
-/
import Derived.Test.YtkmpmibjenodlaaN27
namespace Go.Proofs.Ytkmpmibjenodlaa
open Go.RowKit Go.Maps

set_option maxRecDepth 100000 in
set_option maxHeartbeats 4000000 in
theorem ref_cut {w : World} {rb : Nat} {lv : Value} {us : List Value} {k : Nat} {st : NetSt} (h : RefAt w rb lv us k st) (hk : k < 1000000) (a : Bool) (n : Int) :
    Calls Try.prog 35 #[.pointer (some ⟨rb, 0, none⟩), .agg #[.bool a, .int .i64 n]] w fun e w' =>
      e = .returned (.tuple #[.int .i64 (kCut st a n), .int .i64 (cCut n)]) ∧ RefPost w rb lv us (k + 1) (nCut st a n) w' := by
  obtain ⟨la, lc, rfl⟩ := h.row.form
  have hfull := h.full
  have hrb := lt_of_block h.cell
  have f0 : Fr Non w (w.alloc (.cells #[.bool a, .int .i64 n] 27)) := (Fr.refl _ _).alloc _
  unfold kCut cCut nCut
  by_cases hn : okA n
  rotate_left
  · rw [if_neg hn, if_neg hn, if_neg hn]
    have hd := decide_eq_false hn
    go_enter Try.func35, Try.ntmps35
    go_wp2_with fail
    refine (isaddr_any _ _ _).mono ?_
    rintro e w1 ⟨rfl, f1⟩
    rw [hd]
    clear hd
    go_wp2_with fail
    exact bodyPost_ret (v := .tuple #[.int .i64 0, .int .i64 50]) (by simp [results, Try.results35, go_sem]) rfl ⟨by trivial, .quiet h hk (f0.trans f1)⟩
  rw [if_pos hn, if_pos hn, if_pos hn]
  have hd := decide_eq_true hn
  go_enter Try.func35, Try.ntmps35
  go_wp2_with fail
  refine (isaddr_any _ _ _).mono ?_
  rintro e w1 ⟨rfl, f1⟩
  rw [hd]
  clear hd
  have f2 := f0.trans f1
  have h2 := h.fr f2 (fun _ _ => id)
  go_wp2_with fail
  have hw1 : w.heap.size < w1.heap.size := by have := f1.size; simp only [World.size_alloc] at this; omega
  go_loopw [6, 7] (fun v i wr => ∃ (j : Nat), j ≤ st.l.length ∧ i = .int .i64 j ∧ Hid (GRow wr 30 5 v (cz a n st.l us j).length (rowOf ((cz a n st.l us j).map Prod.fst) ((cz a n st.l us j).map Prod.snd)) ∧
      Fr Non w1 wr ∧ ∀ b, v.ownBlock = some b → w1.heap.size ≤ b)) (fun _ i _ => st.l.length - (intOf i).toNat)
  case atStart => exact ⟨0, by omega, rfl, GRow.nil _ _ _, Fr.refl _ _, by simp [Value.ownBlock]⟩
  case round =>
    obtain ⟨j, hj, rfl, HI⟩ := hrel
    obtain ⟨g1, f3, g3⟩ := HI.out
    have h3 := h2.fr f3 (fun _ _ => id)
    obtain ⟨q1, _⟩ := h3.box
    obtain ⟨q2, _⟩ := (f1.trans f3).box (alloc_at w _) id
    have hz : w.heap.size < wr.heap.size := by have := f3.size; omega
    have hlen := cz_len a n st.l us j
    by_cases hlt : j < st.l.length
    · obtain ⟨g, va, vc, rfl, hl, hm, e0, e1, e2, e3, e4, hv, _, _⟩ := h3.parcel j hlt
      unfold maxLen at hm
      obtain ⟨p, hp⟩ : ∃ p, st.l[j] = p := ⟨_, rfl⟩
      have hst := cz_succ a n h.bytes.len j hlt
      have hv2 : us[j]'(h.bytes.len ▸ hlt) = .slice va st.l[j].b.length vc := Option.some.inj ((List.getElem?_eq_getElem (h.bytes.len ▸ hlt)).symm.trans hv)
      rw [hv2] at hst
      rw [hp] at e0 e1 e2 e3 e4 hst
      have HST := Lib.hid hst
      clear hp hv hv2 hst
      have j0 : (0 : Int) ≤ (j : Int) := by omega
      have j1 : (j : Int) < (st.l.length : Int) := by omega
      have HE := fun (w : World) => run_neq27 w p.fa a p.fn n
      have HE2 := fun (w : World) => run_neq27 w p.ta a p.tn n
      obtain ⟨b1, hb1⟩ : ∃ b1, (!(p.fa == a && p.fn == n)) = b1 := ⟨_, rfl⟩
      obtain ⟨b2, hb2⟩ : ∃ b2, (!(p.ta == a && p.tn == n)) = b2 := ⟨_, rfl⟩
      have hb : stays a n p = (b1 && b2) := by rw [← hb1, ← hb2]; rfl
      rw [hb] at HST
      rw [hb1] at HE
      rw [hb2] at HE2
      clear hb1 hb2 hb
      have W1 := Lib.hid (show j + 1 ≤ st.l.length from hlt)
      cases b1 with
      | false =>
        simp only [Bool.false_and] at HST
        go_wp2_with fail
        refine wp_draw [((fun w' => w' = wr.drew), [(.free, 0), (.free, 1), (.free, 2), (.held, 3), (.free, 4), (.free, 5), (.free, 6), (.held, 7), (.held, 8), (.free, 9), (.free, 10), (.free, 11), (.free, 12), (.free, 13), (.held, 14), (.free, 15), (.free, 16), (.free, 17), (.held, 18), (.held, 19), (.free, 20), (.free, 21)])] 22 (by kernel_rfl) (by kernel_rfl) (fun _ _ _ _ _ h => h) ⟨rfl, ?_⟩
        repeat (first
          | (refine' wpPlan_free (v := _) rfl (by rfl) ?_ ?_
             rotate_left
             · (intro w'; go_simp; try rfl)
             simp only [List.getElem_toArray, List.getElem_cons_zero, List.getElem_cons_succ, Act.put, List.setIfInBounds_toArray, List.set_cons_zero, List.set_cons_succ])
          | (refine' wpPlan_held (v := _) rfl (by rfl) ?_ ?_
             rotate_left
             · (intro w' hS; subst hS; go_simp; try rfl)
             simp only [List.getElem_toArray, List.getElem_cons_zero, List.getElem_cons_succ, Act.put, List.setIfInBounds_toArray, List.set_cons_zero, List.set_cons_succ])
          | (refine' wpPlan_skip rfl (by rfl) ?_
             simp only [List.getElem_toArray, List.getElem_cons_zero, List.getElem_cons_succ, Act.put, List.setIfInBounds_toArray, List.set_cons_zero, List.set_cons_succ])
          | (refine' wpPlan_skipHeld rfl (by rfl) ?_
             simp only [List.getElem_toArray, List.getElem_cons_zero, List.getElem_cons_succ, Act.put, List.setIfInBounds_toArray, List.set_cons_zero, List.set_cons_succ]))
        repeat (first
          | (refine' wpPlan_free (v := _) rfl (by rfl) ?_ ?_
             rotate_left
             · (intro w'; go_simp; try rfl)
             simp only [List.getElem_toArray, List.getElem_cons_zero, List.getElem_cons_succ, Act.put, List.setIfInBounds_toArray, List.set_cons_zero, List.set_cons_succ])
          | (refine' wpPlan_held (v := _) rfl (by rfl) ?_ ?_
             rotate_left
             · (intro w' hS; go_simp; try rfl)
             simp only [List.getElem_toArray, List.getElem_cons_zero, List.getElem_cons_succ, Act.put, List.setIfInBounds_toArray, List.set_cons_zero, List.set_cons_succ])
          | (refine' wpPlan_skip rfl (by rfl) ?_
             simp only [List.getElem_toArray, List.getElem_cons_zero, List.getElem_cons_succ, Act.put, List.setIfInBounds_toArray, List.set_cons_zero, List.set_cons_succ])
          | (refine' wpPlan_skipHeld rfl (by rfl) ?_
             simp only [List.getElem_toArray, List.getElem_cons_zero, List.getElem_cons_succ, Act.put, List.setIfInBounds_toArray, List.set_cons_zero, List.set_cons_succ]))
        refine wpPlan_end ?_
        simp only [wpSegs, List.drop_succ_cons, List.drop_zero]
        have fd := f3.drew
        have gd : GRow wr.drew 30 5 u6 (cz a n st.l us j).length (rowOf ((cz a n st.l us j).map Prod.fst) ((cz a n st.l us j).map Prod.snd)) := g1.keep fun _ _ => rfl
        generalize wr.drew = wd at fd gd ⊢
        go_wp2_with fail
        go_roundw
        case rel =>
          have hst := HST.out
          simp only [Bool.false_eq_true, if_false, List.append_nil] at hst
          refine ⟨j + 1, by omega, by go_num, ?_, fd, g3⟩
          rw [hst]; exact gd
        case measure => simp [intOf]; omega
      | true =>
        simp only [Bool.true_and] at HST
        go_wp2_with fail
        refine wp_draw [((fun w' => w' = wr.drew), [(.free, 0), (.free, 1), (.free, 2), (.held, 3), (.free, 4), (.free, 5), (.free, 6), (.held, 7), (.held, 8), (.free, 9), (.free, 10), (.free, 11), (.free, 12), (.free, 13), (.held, 14), (.free, 15), (.free, 16), (.free, 17), (.held, 18), (.held, 19), (.free, 20), (.free, 21)])] 22 (by kernel_rfl) (by kernel_rfl) (fun _ _ _ _ _ h => h) ⟨rfl, ?_⟩
        repeat (first
          | (refine' wpPlan_free (v := _) rfl (by rfl) ?_ ?_
             rotate_left
             · (intro w'; go_simp; try rfl)
             simp only [List.getElem_toArray, List.getElem_cons_zero, List.getElem_cons_succ, Act.put, List.setIfInBounds_toArray, List.set_cons_zero, List.set_cons_succ])
          | (refine' wpPlan_held (v := _) rfl (by rfl) ?_ ?_
             rotate_left
             · (intro w' hS; subst hS; go_simp; try rfl)
             simp only [List.getElem_toArray, List.getElem_cons_zero, List.getElem_cons_succ, Act.put, List.setIfInBounds_toArray, List.set_cons_zero, List.set_cons_succ])
          | (refine' wpPlan_skip rfl (by rfl) ?_
             simp only [List.getElem_toArray, List.getElem_cons_zero, List.getElem_cons_succ, Act.put, List.setIfInBounds_toArray, List.set_cons_zero, List.set_cons_succ])
          | (refine' wpPlan_skipHeld rfl (by rfl) ?_
             simp only [List.getElem_toArray, List.getElem_cons_zero, List.getElem_cons_succ, Act.put, List.setIfInBounds_toArray, List.set_cons_zero, List.set_cons_succ]))
        repeat (first
          | (refine' wpPlan_free (v := _) rfl (by rfl) ?_ ?_
             rotate_left
             · (intro w'; go_simp; try rfl)
             simp only [List.getElem_toArray, List.getElem_cons_zero, List.getElem_cons_succ, Act.put, List.setIfInBounds_toArray, List.set_cons_zero, List.set_cons_succ])
          | (refine' wpPlan_held (v := _) rfl (by rfl) ?_ ?_
             rotate_left
             · (intro w' hS; go_simp; try rfl)
             simp only [List.getElem_toArray, List.getElem_cons_zero, List.getElem_cons_succ, Act.put, List.setIfInBounds_toArray, List.set_cons_zero, List.set_cons_succ])
          | (refine' wpPlan_skip rfl (by rfl) ?_
             simp only [List.getElem_toArray, List.getElem_cons_zero, List.getElem_cons_succ, Act.put, List.setIfInBounds_toArray, List.set_cons_zero, List.set_cons_succ])
          | (refine' wpPlan_skipHeld rfl (by rfl) ?_
             simp only [List.getElem_toArray, List.getElem_cons_zero, List.getElem_cons_succ, Act.put, List.setIfInBounds_toArray, List.set_cons_zero, List.set_cons_succ]))
        refine wpPlan_end ?_
        simp only [wpSegs, List.drop_succ_cons, List.drop_zero]
        have fd := f3.drew
        have gd : GRow wr.drew 30 5 u6 (cz a n st.l us j).length (rowOf ((cz a n st.l us j).map Prod.fst) ((cz a n st.l us j).map Prod.snd)) := g1.keep fun _ _ => rfl
        have HD := Lib.hid (show wr.drew.heap.size = wr.heap.size from rfl)
        have HC := Lib.hid (show ∀ b j, wr.drew.cell? ⟨b, j, none⟩ = wr.cell? ⟨b, j, none⟩ from fun _ _ => rfl)
        have h4 := h2.fr fd (fun _ _ => id)
        obtain ⟨q3, _⟩ := h4.box
        rw [← HC.out] at e0 e1 e2 e3 e4
        clear q1 q2 HC HE HE2
        generalize wr.drew = wd at fd gd HD e0 e1 e2 e3 e4 q3 ⊢
        cases b2 with
        | true =>
          go_wp2_with (at_builtin; refine wpList_append_g rfl _ _ eI30 rfl _ _ _ rfl (gd.keep fun b hb => ?k1) _ 1 (pcs p (.slice va p.b.length vc)) rfl (Src.block (m := 1) (alloc_at wd _) rfl (by simp [Value.oneCell'])) ?k2 ?k3 ?_)
          case k1 => exact Below.heap_alloc _ _ _ (gd.lt b hb)
          case k2 => unfold maxLen; omega
          case k3 => omega
          intro v' w5 r1 r2 r3
          go_wp2_with fail
          go_roundw
          case rel =>
            have hst := HST.out
            simp only [if_true] at hst
            refine ⟨j + 1, by omega, by go_num, ?_, ?_, ?_⟩
            · rw [hst]
              simp only [List.map_append, List.map_cons, List.map_nil, List.length_append, List.length_cons, List.length_nil]
              rw [rowOf_append _ _ (by simp)]
              simpa [rowOf] using r1
            · exact (fd.alloc _).trans2 r2 (fun b hb hx => by have := g3 b hx; omega)
            · intro b hb
              rcases r3 with r3 | ⟨r3, _⟩
              · exact g3 b (r3 ▸ hb)
              · rw [r3] at hb; cases hb; have := f3.size; have := HD.out; (try simp); omega
          case measure => simp [intOf]; omega
        | false =>
          go_wp2_with fail
          go_roundw
          case rel =>
            have hst := HST.out
            simp only [Bool.false_eq_true, if_false, List.append_nil] at hst
            refine ⟨j + 1, by omega, by go_num, ?_, fd, g3⟩
            rw [hst]; exact gd
          case measure => simp [intOf]; omega
    · obtain rfl : j = st.l.length := by omega
      have hfst := cz_fst a n h.bytes.len
      have hsub := cz_sub a n st.l.length h.bytes.len
      have hL : (cz a n st.l us st.l.length).length = (st.l.filter (stays a n)).length := by rw [← hfst]; simp
      have hle : (st.l.filter (stays a n)).length ≤ st.l.length := List.length_filter_le _ _
      obtain ⟨X, hX⟩ : ∃ y, (st.l.filter (stays a n)).length = y := ⟨_, rfl⟩
      rw [hL, hX] at g1
      rw [hX] at hle
      obtain ⟨va, vc, rfl⟩ := g1.form
      have f6 := f2.trans f3
      have hz := h.bytes.zip
      have hmem : ∀ b ∈ ((cz a n st.l us st.l.length).map Prod.snd).filterMap Value.ownBlock, b ∈ us.filterMap Value.ownBlock := fun b hb => (hsub.filterMap _).subset hb
      have s1 := h2.list (u := wr) (lv' := .slice va X vc) (l' := st.l.filter (stays a n)) (us' := (cz a n st.l us st.l.length).map Prod.snd) (f3.block rb (by omega) id)
        (by rw [← hfst, List.length_map, hL, hX]; exact g1)
        (by
          rw [← hfst]
          refine Bytes.of_zip fun x hx => ?_
          have hm : x ∈ st.l.zip us := by
            unfold cz at hx
            exact List.mem_of_mem_take (List.mem_filter.1 hx).1
          have := hz x hm
          exact this.keep fun b hb => f6.block b (this.lt b hb) id)
        (by omega) (fun e => by have := g3 _ e; omega) (fun e => h.ne2 (hmem _ e)) (fun b hb e => by have := g3 b hb; have := h.bytes.lt b (hmem b e); omega)
      obtain ⟨q3, z3⟩ := s1.box
      obtain ⟨q6, z6⟩ := h3.box
      obtain ⟨hc0, hc1⟩ := h.cb 2
      have hs := h.small
      have HX := Lib.hid hX
      have HM := Lib.hid hmem
      clear hfst hsub hL hX hz hmem
      have W1 : IntKind.i64.wrap ((st.l.length : Int) - (X : Int)) = (st.l.length : Int) - (X : Int) := IntWalk.i64_in _ (by omega)
      have W2 : IntKind.i64.wrap (st.c 2 + ((st.l.length : Int) - (X : Int))) = st.c 2 + ((st.l.length : Int) - (X : Int)) := IntWalk.i64_in _ (by omega)
      go_wp2_with fail
      have n7 := s1.count hk 2 2 ((st.l.length : Int) - (X : Int)) rfl (by omega) (by omega)
      have hX := HX.out
      have e7 : cutSt a n st = { l := st.l.filter (stays a n), c := upd st.c 2 (st.c 2 + ((st.l.length : Int) - (X : Int))) } := by unfold cutSt; rw [hX]
      have f7 : Fr (fun b => b ∈ refFp rb (.slice la st.l.length lc) us) w wr := f6.mono (fun _ _ => False.elim)
      refine bodyPost_ret (v := .tuple #[.int .i64 ((st.l.length : Int) - (X : Int)), .int .i64 0]) (by simp [results, Try.results35, go_sem]) rfl ⟨by rw [hX], (f7.setCell (.inl (refFp_mem.2 (.inl rfl))) _).setCell (.inl (refFp_mem.2 (.inl rfl))) _, _, _, e7 ▸ n7, fun b hb => ?_⟩
      rcases refFp_mem.1 hb with rfl | hb | hb
      · exact .inl (refFp_mem.2 (.inl rfl))
      · have := g3 b hb
        exact .inr (by omega)
      · exact .inl (refFp_mem.2 (.inr (.inr (HM.out b hb))))
end Go.Proofs.Ytkmpmibjenodlaa
