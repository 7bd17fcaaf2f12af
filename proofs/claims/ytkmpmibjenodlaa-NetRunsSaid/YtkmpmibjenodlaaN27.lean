/-
  Net: the reference's Cut and To; same.
-/
import Derived.Test.YtkmpmibjenodlaaN26
namespace Go.Proofs.Ytkmpmibjenodlaa
open Go.RowKit Go.Maps

theorem run_neq27 (w : World) (x y : Bool) (m n : Int) : Sem.run Try.prog (binOp BinOp.neq 27 (.agg #[.bool x, .int .i64 m]) (.agg #[.bool y, .int .i64 n])) w = .ok (.bool (!(x == y && m == n))) w := by
  by_cases h : x = y
  · subst h
    by_cases h : m = n
    · subst h; simp [go_sem]
    · have h2 : (m == n) = false := by simpa using h
      simp [go_sem, h2]
  · have h2 : (x == y) = false := by simpa using h
    simp [go_sem, h2]
theorem run_eql27 (w : World) (x y : Bool) (m n : Int) : Sem.run Try.prog (binOp BinOp.eql 27 (.agg #[.bool x, .int .i64 m]) (.agg #[.bool y, .int .i64 n])) w = .ok (.bool (x == y && m == n)) w := by
  by_cases h : x = y
  · subst h
    by_cases h : m = n
    · subst h; simp [go_sem]
    · have h2 : (m == n) = false := by simpa using h
      simp [go_sem, h2]
  · have h2 : (x == y) = false := by simpa using h
    simp [go_sem, h2]

set_option maxRecDepth 100000 in
set_option maxHeartbeats 4000000 in
theorem ref_to {w : World} {rb : Nat} {lv : Value} {us : List Value} {k : Nat} {st : NetSt} (h : RefAt w rb lv us k st) (ta : Bool) (tn : Int) :
    Calls Try.prog 38 #[.pointer (some ⟨rb, 0, none⟩), .agg #[.bool ta, .int .i64 tn]] w fun e w' => ∃ a c, e = .returned (.slice a (toIdx ta tn st.l st.l.length).length c) ∧
      GRow w' 3 1 (.slice a (toIdx ta tn st.l st.l.length).length c) (toIdx ta tn st.l st.l.length).length (ics (toIdx ta tn st.l st.l.length)) ∧ Fr Non w w' := by
  obtain ⟨a, c, rfl⟩ := h.row.form
  have hfull := h.full
  go_enter Try.func38, Try.ntmps38
  go_wp2_with fail
  have f0 : Fr Non w (w.alloc (.cells #[.bool ta, .int .i64 tn] 27)) := (Fr.refl _ _).alloc _
  have h1 := h.fr f0 (fun _ _ => id)
  go_loopw [5, 6] (fun v i wr => ∃ (j : Nat), j ≤ st.l.length ∧ i = .int .i64 j ∧ Hid (GRow wr 3 1 v (toIdx ta tn st.l j).length (ics (toIdx ta tn st.l j)) ∧
      Fr Non (w.alloc (.cells #[.bool ta, .int .i64 tn] 27)) wr ∧ ∀ b, v.ownBlock = some b → w.heap.size < b)) (fun _ i _ => st.l.length - (intOf i).toNat)
  case atStart => exact ⟨0, by omega, rfl, GRow.nil _ _ _, Fr.refl _ _, by simp [Value.ownBlock]⟩
  case round =>
    obtain ⟨j, hj, rfl, HI⟩ := hrel
    obtain ⟨g1, f1, g3⟩ := HI.out
    have h2 := h1.fr f1 (fun _ _ => id)
    obtain ⟨q1, _⟩ := h2.box
    obtain ⟨q2, _⟩ := f1.box (alloc_at w _) id
    have hz : w.heap.size < wr.heap.size := by have := f1.size; simp only [World.size_alloc] at this; omega
    by_cases hlt : j < st.l.length
    · obtain ⟨g, va, vc, rfl, hl, hm, e0, e1, e2, e3, e4, _, _, _⟩ := h2.parcel j hlt
      unfold maxLen at hm
      obtain ⟨p, hp⟩ : ∃ p, st.l[j] = p := ⟨_, rfl⟩
      rw [hp] at e0 e1 e2 e3 e4
      have HP := Lib.hid hp
      clear hp
      have j0 : (0 : Int) ≤ (j : Int) := by omega
      have j1 : (j : Int) < (st.l.length : Int) := by omega
      have hlen := toIdx_len ta tn st.l j
      have hst : toIdx ta tn st.l (j + 1) = toIdx ta tn st.l j ++ (if (p.ta == ta && p.tn == tn) then [(j : Int)] else []) := by simp [toIdx, hlt, HP.out, isTo]
      have HST := Lib.hid hst
      clear hst
      have HE := fun (w : World) => run_eql27 w p.ta ta p.tn tn
      obtain ⟨b1, hb1⟩ : ∃ b1, (p.ta == ta && p.tn == tn) = b1 := ⟨_, rfl⟩
      rw [hb1] at HE HST
      have HB1 := Lib.hid hb1
      clear hb1
      go_wp2_with fail
      refine wp_draw [((fun w' => w' = wr.drew), [(.free, 0), (.free, 1), (.free, 2), (.held, 3), (.free, 4), (.free, 5), (.free, 6), (.held, 7), (.held, 8), (.free, 9)])] 10 (by kernel_rfl) (by kernel_rfl) (fun _ _ _ _ _ h => h) ⟨rfl, ?_⟩
      repeat (first
        | (refine' wpPlan_free (v := _) rfl (by rfl) ?_ ?_
           rotate_left
           · (intro w'; go_simp; try rfl)
           simp only [List.getElem_toArray, List.getElem_cons_zero, List.getElem_cons_succ, Act.put, List.setIfInBounds_toArray, List.set_cons_zero, List.set_cons_succ])
        | (refine' wpPlan_held (v := _) rfl (by rfl) ?_ ?_
           rotate_left
           · (intro w' hS; subst hS; go_simp; try rfl)
           simp only [List.getElem_toArray, List.getElem_cons_zero, List.getElem_cons_succ, Act.put, List.setIfInBounds_toArray, List.set_cons_zero, List.set_cons_succ])
        | (refine' wpPlan_skip rfl (by rfl) ?_
           simp only [List.getElem_toArray, List.getElem_cons_zero, List.getElem_cons_succ, Act.put, List.setIfInBounds_toArray, List.set_cons_zero, List.set_cons_succ])
        | (refine' wpPlan_skipHeld rfl (by rfl) ?_
           simp only [List.getElem_toArray, List.getElem_cons_zero, List.getElem_cons_succ, Act.put, List.setIfInBounds_toArray, List.set_cons_zero, List.set_cons_succ]))
      repeat (first
        | (refine' wpPlan_free (v := _) rfl (by rfl) ?_ ?_
           rotate_left
           · (intro w'; go_simp; try rfl)
           simp only [List.getElem_toArray, List.getElem_cons_zero, List.getElem_cons_succ, Act.put, List.setIfInBounds_toArray, List.set_cons_zero, List.set_cons_succ])
        | (refine' wpPlan_held (v := _) rfl (by rfl) ?_ ?_
           rotate_left
           · (intro w' hS; go_simp; try rfl)
           simp only [List.getElem_toArray, List.getElem_cons_zero, List.getElem_cons_succ, Act.put, List.setIfInBounds_toArray, List.set_cons_zero, List.set_cons_succ])
        | (refine' wpPlan_skip rfl (by rfl) ?_
           simp only [List.getElem_toArray, List.getElem_cons_zero, List.getElem_cons_succ, Act.put, List.setIfInBounds_toArray, List.set_cons_zero, List.set_cons_succ])
        | (refine' wpPlan_skipHeld rfl (by rfl) ?_
           simp only [List.getElem_toArray, List.getElem_cons_zero, List.getElem_cons_succ, Act.put, List.setIfInBounds_toArray, List.set_cons_zero, List.set_cons_succ]))
      refine wpPlan_end ?_
      simp only [wpSegs, List.drop_succ_cons, List.drop_zero]
      have fd := f1.drew
      have h3 := h1.fr fd (fun _ _ => id)
      obtain ⟨q3, _⟩ := h3.box
      have d0 := fd.cell (p := ⟨g, j * 5, none⟩) (v := .bool p.fa)
      have gd : GRow wr.drew 3 1 u5 (toIdx ta tn st.l j).length (ics (toIdx ta tn st.l j)) := g1.keep fun _ _ => rfl
      have HD := Lib.hid (show wr.drew.heap.size = wr.heap.size from rfl)
      clear e0 e1 e2 e3 e4 q1 q2 d0
      generalize wr.drew = wd at fd h3 q3 gd HD ⊢
      cases b1 with
      | true =>
        go_wp2_with (at_builtin; refine wpList_append_g rfl _ _ eI3 rfl _ _ _ rfl (gd.keep fun b hb => ?k1) _ 1 [.int .i64 j] rfl (Src.block (m := 1) (alloc_at wd _) rfl (by simp [Value.oneCell'])) ?k2 ?k3 ?_)
        case k1 => exact Below.heap_alloc _ _ _ (gd.lt b hb)
        case k2 => unfold maxLen; omega
        case k3 => omega
        intro v' w1 r1 r2 r3
        go_wp2_with fail
        go_roundw
        case rel =>
          refine ⟨j + 1, by omega, by go_num, ?_, ?_, ?_⟩
          · rw [HST.out]; simpa [ics] using r1
          · exact (fd.alloc _).trans2 r2 (fun b hb hx => by have := g3 b hx; simp at hb; omega)
          · intro b hb
            rcases r3 with r3 | ⟨r3, _⟩
            · exact g3 b (r3 ▸ hb)
            · rw [r3] at hb; cases hb; have := HD.out; (try simp only [World.size_alloc]); omega
        case measure => simp [intOf]; omega
      | false =>
        go_wp2_with fail
        go_roundw
        case rel =>
          refine ⟨j + 1, by omega, by go_num, ?_, fd, g3⟩
          rw [HST.out]; simpa using gd
        case measure => simp [intOf]; omega
    · obtain rfl : j = st.l.length := by omega
      obtain ⟨a1, c1, rfl⟩ := g1.form
      go_wp2_with fail
      go_ret
      exact ⟨a1, c1, rfl, g1, f0.trans f1⟩

set_option maxRecDepth 100000 in
set_option maxHeartbeats 4000000 in
theorem ints_same {w : World} {l : List Int} {a b : Option Addr} {c d : Nat} (ha : GRow w 3 1 (.slice a l.length c) l.length (ics l)) (hb : GRow w 3 1 (.slice b l.length d) l.length (ics l)) (hl : l.length ≤ 4096) :
    Calls Try.prog 37 #[.slice a l.length c, .slice b l.length d] w fun e w' => e = .returned (.bool true) ∧ Fr Non w w' := by
  go_enter Try.func37, Try.ntmps37
  go_wp2_with fail
  go_loopw [5] (fun i wr => ∃ (j : Nat), j ≤ l.length ∧ i = .int .i64 j ∧ Hid (Fr Non w wr)) (fun i _ => l.length - (intOf i).toNat)
  case atStart => exact ⟨0, by omega, rfl, Fr.refl _ _⟩
  case round =>
    obtain ⟨j, hj, rfl, HI⟩ := hrel
    have f1 := HI.out
    by_cases hlt : j < l.length
    · obtain ⟨g, rfl, e1, e2, e3⟩ : ∃ g, a = some ⟨g, 0, none⟩ ∧ l.length ≤ c ∧ c ≤ maxLen ∧ wr.cell? ⟨g, j, none⟩ = some (.int .i64 l[j]) := by
        rcases ha.2 with ⟨_, h0⟩ | ⟨g, cap, cur, he, _, h1, h2, _⟩
        · omega
        · cases he
          exact ⟨g, rfl, h1, h2, f1.cell (ha.cells rfl j _ (by simp [ics, hlt])) id⟩
      obtain ⟨g', rfl, e4, e5, e6⟩ : ∃ g, b = some ⟨g, 0, none⟩ ∧ l.length ≤ d ∧ d ≤ maxLen ∧ wr.cell? ⟨g, j, none⟩ = some (.int .i64 l[j]) := by
        rcases hb.2 with ⟨_, h0⟩ | ⟨g, cap, cur, he, _, h1, h2, _⟩
        · omega
        · cases he
          exact ⟨g, rfl, h1, h2, f1.cell (hb.cells rfl j _ (by simp [ics, hlt])) id⟩
      unfold maxLen at e2 e5
      have j0 : (0 : Int) ≤ (j : Int) := by omega
      have j1 : (j : Int) < (l.length : Int) := by omega
      generalize l[j] = x at e3 e6
      go_wp2_with fail
      refine wp_draw [((fun w' => w' = wr.drew), [(.free, 0), (.free, 1), (.free, 2), (.held, 3), (.free, 4), (.free, 5), (.free, 6), (.held, 7), (.free, 8)])] 9 (by kernel_rfl) (by kernel_rfl) (fun _ _ _ _ _ h => h) ⟨rfl, ?_⟩
      repeat (first
        | (refine' wpPlan_free (v := _) rfl (by rfl) ?_ ?_
           rotate_left
           · (intro w'; go_simp; try rfl)
           simp only [List.getElem_toArray, List.getElem_cons_zero, List.getElem_cons_succ, Act.put, List.setIfInBounds_toArray, List.set_cons_zero, List.set_cons_succ])
        | (refine' wpPlan_held (v := _) rfl (by rfl) ?_ ?_
           rotate_left
           · (intro w' hS; subst hS; go_simp; try rfl)
           simp only [List.getElem_toArray, List.getElem_cons_zero, List.getElem_cons_succ, Act.put, List.setIfInBounds_toArray, List.set_cons_zero, List.set_cons_succ])
        | (refine' wpPlan_skip rfl (by rfl) ?_
           simp only [List.getElem_toArray, List.getElem_cons_zero, List.getElem_cons_succ, Act.put, List.setIfInBounds_toArray, List.set_cons_zero, List.set_cons_succ])
        | (refine' wpPlan_skipHeld rfl (by rfl) ?_
           simp only [List.getElem_toArray, List.getElem_cons_zero, List.getElem_cons_succ, Act.put, List.setIfInBounds_toArray, List.set_cons_zero, List.set_cons_succ]))
      repeat (first
        | (refine' wpPlan_free (v := _) rfl (by rfl) ?_ ?_
           rotate_left
           · (intro w'; go_simp; try rfl)
           simp only [List.getElem_toArray, List.getElem_cons_zero, List.getElem_cons_succ, Act.put, List.setIfInBounds_toArray, List.set_cons_zero, List.set_cons_succ])
        | (refine' wpPlan_held (v := _) rfl (by rfl) ?_ ?_
           rotate_left
           · (intro w' hS; go_simp; try rfl)
           simp only [List.getElem_toArray, List.getElem_cons_zero, List.getElem_cons_succ, Act.put, List.setIfInBounds_toArray, List.set_cons_zero, List.set_cons_succ])
        | (refine' wpPlan_skip rfl (by rfl) ?_
           simp only [List.getElem_toArray, List.getElem_cons_zero, List.getElem_cons_succ, Act.put, List.setIfInBounds_toArray, List.set_cons_zero, List.set_cons_succ])
        | (refine' wpPlan_skipHeld rfl (by rfl) ?_
           simp only [List.getElem_toArray, List.getElem_cons_zero, List.getElem_cons_succ, Act.put, List.setIfInBounds_toArray, List.set_cons_zero, List.set_cons_succ]))
      refine wpPlan_end ?_
      simp only [wpSegs, List.drop_succ_cons, List.drop_zero]
      go_wp2_with fail
      go_roundw
      case rel => exact ⟨j + 1, by omega, by go_num, f1.drew⟩
      case measure => simp [intOf]; omega
    · obtain rfl : j = l.length := by omega
      go_wp2_with fail
      go_ret
      exact ⟨by trivial, f1⟩
end Go.Proofs.Ytkmpmibjenodlaa
