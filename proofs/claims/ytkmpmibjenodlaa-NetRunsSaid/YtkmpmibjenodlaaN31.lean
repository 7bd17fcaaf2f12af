/-
  Net: NetRuns.
-/
import Derived.Test.YtkmpmibjenodlaaN30
namespace Go.Proofs.Ytkmpmibjenodlaa
open Go.RowKit Go.Maps

theorem ref0 (w : World) : RefAt (w.alloc (.cells #[.slice none 0 0, .int .i64 0, .int .i64 0, .int .i64 0, .int .i64 0] 52)) w.heap.size (.slice none 0 0) [] 0 net0 :=
  ⟨alloc_at w _, GRow.nil _ _ _, trivial, by simp [Value.ownBlock], by simp, by simp [Value.ownBlock], by simp [net0], by omega, fun j => by simp [net0]⟩

set_option maxRecDepth 100000 in
set_option maxHeartbeats 4000000 in
theorem runs_any {w : World} {v : Value} {l : List (Int × (((Bool × Int) × ((Bool × Int) × List UInt8)) × (Int × Int)))} (h : Sl kOp (Old w) w v l) :
    Calls Try.prog 6 #[v] w fun e w' => e = .returned (.bool true) ∧ Fr Non w w' := by
  have hmax := h.len
  unfold maxLen at hmax
  obtain ⟨va, vc, rfl⟩ := h.form
  have HS := Lib.hid h
  clear h
  go_enter Try.func6, Try.ntmps6
  go_wp2_with fail
  refine (x_new w).mono ?_
  rintro e w1 ⟨bn, N, rfl, m1⟩
  go_wp2_with fail
  have S0 : Stepped w (bn) w1.heap.size 0 (w1.alloc (.cells #[.slice none 0 0, .int .i64 0, .int .i64 0, .int .i64 0, .int .i64 0] 52)) := by
    have m2 := m1.quiet ((Fr.refl Non w1).alloc (.cells #[.slice none 0 0, .int .i64 0, .int .i64 0, .int .i64 0, .int .i64 0] 52))
    refine ⟨N, [w1.heap.size], net0, m2.fr, m2.net, ⟨_, _, ref0 w1, by simp [refFp, Value.ownBlock]⟩, m2.new, fun b hb => ?_, fun b hb hr => ?_⟩
    · simp only [List.mem_singleton] at hb; have := m1.fr.size; omega
    · simp only [List.mem_singleton] at hr; have := m1.net.lt b hb; omega
  generalize w1.heap.size = rb at S0 ⊢
  go_loopw [5] (fun i wr => ∃ (j : Nat), j ≤ l.length ∧ j ≤ 100 ∧ i = .int .i64 j ∧ Hid (Stepped w bn rb j wr)) (fun i _ => 100 - (intOf i).toNat)
  case atStart => exact ⟨0, by omega, by omega, rfl, S0⟩
  case round =>
    obtain ⟨j, hj, hj1, rfl, HI⟩ := hrel
    by_cases hlt : j < l.length ∧ j < 100
    · obtain ⟨hlt, hlt1⟩ := hlt
      obtain ⟨N, R, st, B⟩ := HI.out
      have j0 : (0 : Int) ≤ (j : Int) := by omega
      have j1 : (j : Int) < (l.length : Int) := by omega
      have j2 : (j : Int) < 100 := by omega
      obtain ⟨G, O, rfl⟩ : ∃ G O, va = some ⟨G, O, none⟩ := by
        rcases HS.out with ⟨_, e⟩ | ⟨ad, c, he, _, _, h3, _⟩
        · rw [e] at hlt; simp at hlt
        · cases he
          obtain ⟨G, O, sp⟩ := ad
          obtain ⟨hsp, _⟩ := h3 (by intro e; rw [e] at hlt; simp at hlt)
          simp only at hsp
          subst hsp
          exact ⟨G, O, rfl⟩
      have hE : Elems kOp (Old w) w G O l := by
        rcases HS.out with ⟨he, _⟩ | ⟨ad, c, he, _, _, _, h4⟩
        · cases he
        · cases he; exact h4
      obtain ⟨u, hu, c0, c1, c2, c3, c4, c5, c6, c7⟩ := act_at hE j hlt
      generalize l[j] = x at hu c0 c1 c2 c3 c4 c5 c6 c7
      obtain ⟨kd, ⟨⟨fa, fn⟩, ⟨ta, tn⟩, bs⟩, i, k⟩ := x
      simp only at hu c0 c1 c2 c3 c4 c5 c6 c7
      obtain ⟨ua, uc, rfl⟩ := hu.form
      have HU := Lib.hid hu
      have hlb := hu.len
      have c0 := B.fr.cell c0 id
      have c1 := B.fr.cell c1 id
      have c2 := B.fr.cell c2 id
      have c3 := B.fr.cell c3 id
      have c4 := B.fr.cell c4 id
      have c5 := B.fr.cell c5 id
      have c6 := B.fr.cell c6 id
      have c7 := B.fr.cell c7 id
      have HLB := Lib.hid hlb
      clear hu hE hlb
      obtain ⟨rc, hrc, hrc2⟩ : ∃ rc, (∀ w : World, Calls Try.prog 21 #[.agg #[.bool fa, .int .i64 fn]] w fun e w' => e = .returned (.int .i64 rc) ∧ Fr Non w w') ∧ (rc == 0) = decide (okA fn) := by
        by_cases ho : okA fn
        · exact ⟨0, fun w => check_ok fa fn w ho.1 ho.2, by rw [decide_eq_true ho]; rfl⟩
        · exact ⟨50, fun w => check_bad fa fn w ho, by rw [decide_eq_false ho]; rfl⟩
      have HC := Lib.hid hrc
      have HC2 := Lib.hid hrc2
      clear hrc hrc2
      go_wp2_with fail
      have f1 : Fr Non wr (wr.alloc (.cells #[.int .i64 kd, .bool fa, .int .i64 fn, .bool ta, .int .i64 tn, .slice ua bs.length uc, .int .i64 i, .int .i64 k] 32)) := (Fr.refl _ _).alloc _
      have b1 := alloc_at wr (.cells #[.int .i64 kd, .bool fa, .int .i64 fn, .bool ta, .int .i64 tn, .slice ua bs.length uc, .int .i64 i, .int .i64 k] 32)
      have B1 := B.quiet f1
      have hN : wr.heap.size ∉ N := fun e => by have := B.net.lt _ e; omega
      have hR : wr.heap.size ∉ R := fun e => by have := B.ref.lt _ e; omega
      refine wp_drawX [[(.free, 0), (.free, 1), (.held, 2), (.kept, 3)], [(.free, 4), (.free, 5), (.free, 6), (.free, 8), (.free, 9), (.free, 10), (.held, 11), (.free, 12), (.kept, 7), (.free, 13), (.free, 14), (.free, 15), (.free, 16), (.free, 18), (.free, 19), (.free, 20), (.held, 21), (.kept, 17), (.free, 22), (.free, 23), (.free, 24), (.free, 25), (.free, 26), (.held, 27), (.free, 30), (.free, 31), (.held, 32), (.kept, 28), (.free, 29), (.kept, 33), (.free, 34), (.free, 35)]] 36 (by kernel_rfl) (by kernel_rfl) (fun _ _ _ _ _ h => h) ⟨(fun x => x.heap[wr.heap.size]? = some (.cells #[.int .i64 kd, .bool fa, .int .i64 fn, .bool ta, .int .i64 tn, .slice ua bs.length uc, .int .i64 i, .int .i64 k] 32 (0, 0))), b1, ?_⟩
      have Bd := B1.quiet (Fr.refl Non _).drew
      have bd : (wr.alloc (.cells #[.int .i64 kd, .bool fa, .int .i64 fn, .bool ta, .int .i64 tn, .slice ua bs.length uc, .int .i64 i, .int .i64 k] 32)).drew.heap[wr.heap.size]? = some (.cells #[.int .i64 kd, .bool fa, .int .i64 fn, .bool ta, .int .i64 tn, .slice ua bs.length uc, .int .i64 i, .int .i64 k] 32 (0, 0)) := b1
      clear b1 B1 f1 c0 c1 c2 c3 c4 c5 c6 c7
      generalize (wr.alloc (.cells #[.int .i64 kd, .bool fa, .int .i64 fn, .bool ta, .int .i64 tn, .slice ua bs.length uc, .int .i64 i, .int .i64 k] 32)).drew = wd at Bd bd ⊢
      repeat (first
        | (refine' wpPlan_free (v := _) rfl (by rfl) ?_ ?_
           rotate_left
           · (intro w'; go_simp; try rfl)
           simp only [List.getElem_toArray, List.getElem_cons_zero, List.getElem_cons_succ, Act.put, List.setIfInBounds_toArray, List.set_cons_zero, List.set_cons_succ])
        | (refine' wpPlan_held (v := _) rfl (by rfl) ?_ ?_
           rotate_left
           · (intro w' hS; obtain ⟨q1, _⟩ := box_facts hS; clear hS; go_simp; try rfl)
           simp only [List.getElem_toArray, List.getElem_cons_zero, List.getElem_cons_succ, Act.put, List.setIfInBounds_toArray, List.set_cons_zero, List.set_cons_succ])
        | (refine' wpPlan_skip rfl (by rfl) ?_
           simp only [List.getElem_toArray, List.getElem_cons_zero, List.getElem_cons_succ, Act.put, List.setIfInBounds_toArray, List.set_cons_zero, List.set_cons_succ])
        | (refine' wpPlan_skipHeld rfl (by rfl) ?_
           simp only [List.getElem_toArray, List.getElem_cons_zero, List.getElem_cons_succ, Act.put, List.setIfInBounds_toArray, List.set_cons_zero, List.set_cons_succ]))
      refine' wpPlan_kept rfl ?_
      intro K hK
      go_simp
      refine (step_any Bd (by omega) kd fa ta fn tn i k ua uc bs HU.out HLB.out).mono ?_
      rintro e w3 ⟨rfl, f3, N3, R3, st3, B3⟩
      have b3 := f3.heap bd (fun e => e.elim hN hR)
      go_simp
      refine hK _ _ ⟨b3, ?_⟩
      clear hK K
      obtain ⟨lv, us, hr, hR3⟩ := id B3.ref
      obtain ⟨la, lc, rfl⟩ := hr.row.form
      refine wpPlan_end ⟨(Fr Non w3), Fr.refl _ _, ?_⟩
      repeat (first
        | (refine' wpPlan_free (v := _) rfl (by rfl) ?_ ?_
           rotate_left
           · (intro w'; go_simp; try rfl)
           simp only [List.getElem_toArray, List.getElem_cons_zero, List.getElem_cons_succ, Act.put, List.setIfInBounds_toArray, List.set_cons_zero, List.set_cons_succ])
        | (refine' wpPlan_held (v := _) rfl (by rfl) ?_ ?_
           rotate_left
           · (intro w' hS; obtain ⟨q1, _⟩ := hS.box b3 id; obtain ⟨q2, _⟩ := hS.box hr.cell id; clear hS; go_simp; try rfl)
           simp only [List.getElem_toArray, List.getElem_cons_zero, List.getElem_cons_succ, Act.put, List.setIfInBounds_toArray, List.set_cons_zero, List.set_cons_succ])
        | (refine' wpPlan_skip rfl (by rfl) ?_
           simp only [List.getElem_toArray, List.getElem_cons_zero, List.getElem_cons_succ, Act.put, List.setIfInBounds_toArray, List.set_cons_zero, List.set_cons_succ])
        | (refine' wpPlan_skipHeld rfl (by rfl) ?_
           simp only [List.getElem_toArray, List.getElem_cons_zero, List.getElem_cons_succ, Act.put, List.setIfInBounds_toArray, List.set_cons_zero, List.set_cons_succ]))
      refine' wpPlan_kept rfl ?_
      intro K hK
      go_simp
      refine (x_len B3.net).mono ?_
      rintro e w4 ⟨rfl, hw4⟩
      obtain rfl := hw4.symm
      go_simp
      refine hK _ _ ⟨Fr.refl _ _, ?_⟩
      clear hK K
      repeat (first
        | (refine' wpPlan_free (v := _) rfl (by rfl) ?_ ?_
           rotate_left
           · (intro w'; go_simp; try rfl)
           simp only [List.getElem_toArray, List.getElem_cons_zero, List.getElem_cons_succ, Act.put, List.setIfInBounds_toArray, List.set_cons_zero, List.set_cons_succ])
        | (refine' wpPlan_held (v := _) rfl (by rfl) ?_ ?_
           rotate_left
           · (intro w' hS; obtain ⟨q1, _⟩ := hS.box b3 id; obtain ⟨q2, _⟩ := hS.box hr.cell id; clear hS; go_simp; try rfl)
           simp only [List.getElem_toArray, List.getElem_cons_zero, List.getElem_cons_succ, Act.put, List.setIfInBounds_toArray, List.set_cons_zero, List.set_cons_succ])
        | (refine' wpPlan_skip rfl (by rfl) ?_
           simp only [List.getElem_toArray, List.getElem_cons_zero, List.getElem_cons_succ, Act.put, List.setIfInBounds_toArray, List.set_cons_zero, List.set_cons_succ])
        | (refine' wpPlan_skipHeld rfl (by rfl) ?_
           simp only [List.getElem_toArray, List.getElem_cons_zero, List.getElem_cons_succ, Act.put, List.setIfInBounds_toArray, List.set_cons_zero, List.set_cons_succ]))
      refine' wpPlan_kept rfl ?_
      intro K hK
      go_simp
      refine (x_stats B3.net).mono ?_
      rintro e w5 ⟨rfl, f5⟩
      simp only [statsOf]
      go_simp
      refine hK _ _ ⟨f5, ?_⟩
      clear hK K
      repeat (first
        | (refine' wpPlan_free (v := _) rfl (by rfl) ?_ ?_
           rotate_left
           · (intro w'; go_simp; try rfl)
           simp only [List.getElem_toArray, List.getElem_cons_zero, List.getElem_cons_succ, Act.put, List.setIfInBounds_toArray, List.set_cons_zero, List.set_cons_succ])
        | (refine' wpPlan_held (v := _) rfl (by rfl) ?_ ?_
           rotate_left
           · (intro w' hS; obtain ⟨q1, _⟩ := hS.box b3 id; obtain ⟨q2, _⟩ := hS.box hr.cell id; clear hS; go_simp; try rfl)
           simp only [List.getElem_toArray, List.getElem_cons_zero, List.getElem_cons_succ, Act.put, List.setIfInBounds_toArray, List.set_cons_zero, List.set_cons_succ])
        | (refine' wpPlan_skip rfl (by rfl) ?_
           simp only [List.getElem_toArray, List.getElem_cons_zero, List.getElem_cons_succ, Act.put, List.setIfInBounds_toArray, List.set_cons_zero, List.set_cons_succ])
        | (refine' wpPlan_skipHeld rfl (by rfl) ?_
           simp only [List.getElem_toArray, List.getElem_cons_zero, List.getElem_cons_succ, Act.put, List.setIfInBounds_toArray, List.set_cons_zero, List.set_cons_succ]))
      refine' wpPlan_kept rfl ?_
      intro K hK
      go_simp
      refine (HC.out _).mono ?_
      rintro e w6 ⟨rfl, f6⟩
      have f7 := f5.trans f6
      go_simp
      refine hK _ _ ⟨f7, ?_⟩
      clear hK K
      repeat (first
        | (refine' wpPlan_free (v := _) rfl (by rfl) ?_ ?_
           rotate_left
           · (intro w'; go_simp; try rfl)
           simp only [List.getElem_toArray, List.getElem_cons_zero, List.getElem_cons_succ, Act.put, List.setIfInBounds_toArray, List.set_cons_zero, List.set_cons_succ])
        | (refine' wpPlan_held (v := _) rfl (by rfl) ?_ ?_
           rotate_left
           · (intro w' hS; obtain ⟨q1, _⟩ := hS.box b3 id; obtain ⟨q2, _⟩ := hS.box hr.cell id; clear hS; go_simp; try rfl)
           simp only [List.getElem_toArray, List.getElem_cons_zero, List.getElem_cons_succ, Act.put, List.setIfInBounds_toArray, List.set_cons_zero, List.set_cons_succ])
        | (refine' wpPlan_skip rfl (by rfl) ?_
           simp only [List.getElem_toArray, List.getElem_cons_zero, List.getElem_cons_succ, Act.put, List.setIfInBounds_toArray, List.set_cons_zero, List.set_cons_succ])
        | (refine' wpPlan_skipHeld rfl (by rfl) ?_
           simp only [List.getElem_toArray, List.getElem_cons_zero, List.getElem_cons_succ, Act.put, List.setIfInBounds_toArray, List.set_cons_zero, List.set_cons_succ]))
      refine' wpPlan_kept rfl ?_
      intro K hK
      go_simp
      refine (isaddr_any _ _ _).mono ?_
      rintro e w8 ⟨rfl, f8⟩
      have f9 := f7.trans f8
      rw [← HC2.out]
      go_simp
      refine hK _ _ ⟨f9, ?_⟩
      clear hK K
      repeat (first
        | (refine' wpPlan_free (v := _) rfl (by rfl) ?_ ?_
           rotate_left
           · (intro w'; go_simp; try rfl)
           simp only [List.getElem_toArray, List.getElem_cons_zero, List.getElem_cons_succ, Act.put, List.setIfInBounds_toArray, List.set_cons_zero, List.set_cons_succ])
        | (refine' wpPlan_held (v := _) rfl (by rfl) ?_ ?_
           rotate_left
           · (intro w' hS; obtain ⟨q1, _⟩ := hS.box b3 id; obtain ⟨q2, _⟩ := hS.box hr.cell id; clear hS; go_simp; try rfl)
           simp only [List.getElem_toArray, List.getElem_cons_zero, List.getElem_cons_succ, Act.put, List.setIfInBounds_toArray, List.set_cons_zero, List.set_cons_succ])
        | (refine' wpPlan_skip rfl (by rfl) ?_
           simp only [List.getElem_toArray, List.getElem_cons_zero, List.getElem_cons_succ, Act.put, List.setIfInBounds_toArray, List.set_cons_zero, List.set_cons_succ])
        | (refine' wpPlan_skipHeld rfl (by rfl) ?_
           simp only [List.getElem_toArray, List.getElem_cons_zero, List.getElem_cons_succ, Act.put, List.setIfInBounds_toArray, List.set_cons_zero, List.set_cons_succ]))
      refine wpPlan_end ?_
      simp only [wpSegsX, List.drop_succ_cons, List.drop_zero]
      go_wp2_with fail
      go_roundw
      case rel => exact ⟨j + 1, by omega, by omega, by go_num, _, _, _, B3.quiet f9⟩
      case measure => simp [intOf]; omega
    · obtain ⟨N, R, st, B⟩ := HI.out
      have hcnd : (¬ (j : Int) < (l.length : Int)) ∨ ((j : Int) < (l.length : Int) ∧ ¬ (j : Int) < 100) := by omega
      rcases hcnd with j1 | ⟨j1, j2⟩
      all_goals
        go_wp2_with fail
        go_loopw [7] (fun i wr => ∃ (m : Nat), m ≤ st.l.length ∧ i = .int .i64 m ∧ Hid (Both w wr N R bn rb j j st st)) (fun i _ => st.l.length - (intOf i).toNat)
        case atStart => exact ⟨0, by omega, rfl, B⟩
        case round =>
          obtain ⟨m, hm, rfl, HI2⟩ := hrel
          have B2 := HI2.out
          obtain ⟨lv, us, hr, hR⟩ := id B2.ref
          obtain ⟨la, lc, rfl⟩ := hr.row.form
          obtain ⟨q1, q2⟩ := hr.box
          by_cases hlt2 : m < st.l.length
          · have hi : isI st (m : Int) := ⟨by omega, by omega⟩
            have m0 : (0 : Int) ≤ (m : Int) := by omega
            have m1 : (m : Int) < (st.l.length : Int) := by omega
            have X := x_at B2.net m
            have hp : pAt st (m : Int) = st.l[m] := by unfold pAt; rw [if_pos hi]; simp [List.getD, hlt2]
            have hc : cAt st (m : Int) = 0 := if_pos hi
            obtain ⟨g, va', vc', rfl, hl, hmx, e0, e1, e2, e3, e4, _, e6, _⟩ := hr.parcel m hlt2
            unfold maxLen at hmx
            have hfull := hr.full
            rw [hp, hc] at X
            generalize st.l[m] = p at X e0 e1 e2 e3 e4 e6
            simp only [pcs] at X
            clear hp hc
            have HE := Lib.hid (And.intro e0 (And.intro e1 (And.intro e2 (And.intro e3 e4))))
            clear e0 e1 e2 e3 e4
            go_wp2_with fail
            refine X.mono ?_
            clear X
            rintro e w3 ⟨a3, c3, rfl, g3, f3, _⟩
            go_wp2_with fail
            have f4 := f3.alloc (.cells #[.bool p.fa, .int .i64 p.fn, .bool p.ta, .int .i64 p.tn, .slice a3 p.b.length c3] 30)
            have b4 := alloc_at w3 (.cells #[.bool p.fa, .int .i64 p.fn, .bool p.ta, .int .i64 p.tn, .slice a3 p.b.length c3] 30)
            have u4 := (grow_src g3).alloc (.cells #[.bool p.fa, .int .i64 p.fn, .bool p.ta, .int .i64 p.tn, .slice a3 p.b.length c3] 30)
            clear q1 q2
            generalize w3.heap.size = pb at b4 ⊢
            generalize w3.alloc (.cells #[.bool p.fa, .int .i64 p.fn, .bool p.ta, .int .i64 p.tn, .slice a3 p.b.length c3] 30) = w4 at f4 b4 u4 ⊢
            have h4 := hr.fr f4 (fun _ _ => id)
            have HF := Lib.hid (show ∀ x, Fr Non w4 x → (x.cell? ⟨g, m * 5, none⟩ = some (.bool p.fa) ∧ x.cell? ⟨g, m * 5 + 1, none⟩ = some (.int .i64 p.fn) ∧ x.cell? ⟨g, m * 5 + 2, none⟩ = some (.bool p.ta) ∧ x.cell? ⟨g, m * 5 + 3, none⟩ = some (.int .i64 p.tn) ∧ x.cell? ⟨g, m * 5 + 4, none⟩ = some (.slice va' p.b.length vc')) from
              fun x f => ⟨(f4.trans f).cell HE.out.1 id, (f4.trans f).cell HE.out.2.1 id, (f4.trans f).cell HE.out.2.2.1 id, (f4.trans f).cell HE.out.2.2.2.1 id, (f4.trans f).cell HE.out.2.2.2.2 id⟩)
            refine wp_draw [((Fr Non w4), [(.free, 0), (.free, 1), (.free, 2), (.held, 3), (.free, 4), (.free, 5), (.free, 6), (.held, 7), (.free, 8), (.free, 9), (.held, 10), (.kept, 11), (.free, 12), (.free, 13)])] 14 (by kernel_rfl) (by kernel_rfl) (fun _ _ _ _ _ h => h) ⟨(Fr.refl _ _).drew, ?_⟩
            repeat (first
              | (refine' wpPlan_free (v := _) rfl (by rfl) ?_ ?_
                 rotate_left
                 · (intro w'; go_simp; try rfl)
                 simp only [List.getElem_toArray, List.getElem_cons_zero, List.getElem_cons_succ, Act.put, List.setIfInBounds_toArray, List.set_cons_zero, List.set_cons_succ])
              | (refine' wpPlan_held (v := _) rfl (by rfl) ?_ ?_
                 rotate_left
                 · (intro w' hS; obtain ⟨q1, _⟩ := hS.box b4 id; obtain ⟨q2, _⟩ := hS.box h4.cell id; obtain ⟨e0, e1, e2, e3, e4⟩ := HF.out _ hS; clear hS; go_simp; try rfl)
                 simp only [List.getElem_toArray, List.getElem_cons_zero, List.getElem_cons_succ, Act.put, List.setIfInBounds_toArray, List.set_cons_zero, List.set_cons_succ])
              | (refine' wpPlan_skip rfl (by rfl) ?_
                 simp only [List.getElem_toArray, List.getElem_cons_zero, List.getElem_cons_succ, Act.put, List.setIfInBounds_toArray, List.set_cons_zero, List.set_cons_succ])
              | (refine' wpPlan_skipHeld rfl (by rfl) ?_
                 simp only [List.getElem_toArray, List.getElem_cons_zero, List.getElem_cons_succ, Act.put, List.setIfInBounds_toArray, List.set_cons_zero, List.set_cons_succ]))
            refine' wpPlan_kept rfl ?_
            intro K hK
            go_simp
            refine (same_any p p _ _ u4.drew ((e6.keep (w' := w4) fun _ _ _ hb => f4.block _ hb id).drew)).mono ?_
            rintro e w5 ⟨rfl, f5⟩
            rw [decide_eq_true rfl]
            have f6 : Fr Non w4 w5 := ((Fr.refl Non w4).drew).trans f5
            go_simp
            refine hK _ _ ⟨f6, ?_⟩
            clear hK K
            repeat (first
              | (refine' wpPlan_free (v := _) rfl (by rfl) ?_ ?_
                 rotate_left
                 · (intro w'; go_simp; try rfl)
                 simp only [List.getElem_toArray, List.getElem_cons_zero, List.getElem_cons_succ, Act.put, List.setIfInBounds_toArray, List.set_cons_zero, List.set_cons_succ])
              | (refine' wpPlan_held (v := _) rfl (by rfl) ?_ ?_
                 rotate_left
                 · (intro w' hS; clear hS; go_simp; try rfl)
                 simp only [List.getElem_toArray, List.getElem_cons_zero, List.getElem_cons_succ, Act.put, List.setIfInBounds_toArray, List.set_cons_zero, List.set_cons_succ])
              | (refine' wpPlan_skip rfl (by rfl) ?_
                 simp only [List.getElem_toArray, List.getElem_cons_zero, List.getElem_cons_succ, Act.put, List.setIfInBounds_toArray, List.set_cons_zero, List.set_cons_succ])
              | (refine' wpPlan_skipHeld rfl (by rfl) ?_
                 simp only [List.getElem_toArray, List.getElem_cons_zero, List.getElem_cons_succ, Act.put, List.setIfInBounds_toArray, List.set_cons_zero, List.set_cons_succ]))
            refine wpPlan_end ?_
            simp only [wpSegs, List.drop_succ_cons, List.drop_zero]
            go_wp2_with fail
            go_roundw
            case rel => exact ⟨m + 1, by omega, by go_num, B2.quiet (f4.trans f6)⟩
            case measure => simp [intOf]; omega
          · obtain rfl : m = st.l.length := by omega
            have m1 : ¬ ((st.l.length : Nat) : Int) < (st.l.length : Int) := by omega
            go_wp2_with fail
            refine (alive_any _).mono ?_
            rintro e w5 ⟨rfl, f5⟩
            go_wp2_with fail
            go_ret
            exact ⟨by trivial, B2.fr.trans f5⟩
end Go.Proofs.Ytkmpmibjenodlaa
