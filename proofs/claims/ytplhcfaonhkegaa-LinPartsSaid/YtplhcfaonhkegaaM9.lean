/-
  Model: the place of a key.
-/
import Derived.Test.YtplhcfaonhkegaaM8
namespace Go.Proofs.Ytplhcfaonhkegaa
open Go.RowKit Go.Maps

theorem enters126 : ∀ args w, (callFunc 126 args).run Try.prog w = .ok (.enter 126 args) w := enters_of Try.func126 (by kernel_rfl) rfl

/-- The closure. -/
theorem atLeast_any {w : World} {a : Option Addr} {c b1 b2 : Nat} {l : List MItem} {k : Int} (h : Sl kItem All w (.slice a l.length c) l) (h1 : w.cell? ⟨b1, 0, none⟩ = some (.slice a l.length c)) (h2 : w.cell? ⟨b2, 0, none⟩ = some (.int .u64 k)) (i : Nat) (hi : i < l.length) :
    Calls Try.prog 126 #[.int .i64 i, .pointer (some ⟨b1, 0, none⟩), .pointer (some ⟨b2, 0, none⟩)] w fun e w' => e = .returned (.bool (decide (k ≤ l[i].1))) ∧ Fr Non w w' := by
  obtain ⟨B, O, u, rfl, _, hm, c0, _⟩ := item_at h i hi
  unfold maxLen at hm
  have i0 : (0 : Int) ≤ (i : Int) := by omega
  have i1 : (i : Int) < (l.length : Int) := by omega
  generalize l[i].1 = x at c0 ⊢
  clear h
  go_enter Try.func126, Try.ntmps126
  go_wp2_with fail
  refine wp_draw [((fun w' => w' = w.drew), [(.held, 0), (.free, 1), (.free, 2), (.free, 3), (.held, 4), (.held, 5), (.free, 6), (.free, 7)])] 8 (by kernel_rfl) (by kernel_rfl) (fun _ _ _ _ _ h => h) ⟨rfl, ?_⟩
  repeat (first
    | (refine' wpPlan_free (v := _) rfl (by rfl) ?_ ?_
       rotate_left
       · (intro w'; go_simp; try rfl)
       simp only [List.getElem_toArray, List.getElem_cons_zero, List.getElem_cons_succ, Act.put, List.setIfInBounds_toArray, List.set_cons_zero, List.set_cons_succ])
    | (refine' wpPlan_held (v := _) rfl (by rfl) ?_ ?_
       rotate_left
       · (intro w' hS; subst hS; go_simp; try rfl)
       simp only [List.getElem_toArray, List.getElem_cons_zero, List.getElem_cons_succ, Act.put, List.setIfInBounds_toArray, List.set_cons_zero, List.set_cons_succ])
    | (refine' wpPlan_skip rfl (by rfl) ?_
       simp only [List.getElem_toArray, List.getElem_cons_zero, List.getElem_cons_succ, Act.put, List.setIfInBounds_toArray, List.set_cons_zero, List.set_cons_succ])
    | (refine' wpPlan_skipHeld rfl (by rfl) ?_
       simp only [List.getElem_toArray, List.getElem_cons_zero, List.getElem_cons_succ, Act.put, List.setIfInBounds_toArray, List.set_cons_zero, List.set_cons_succ]))
  repeat (first
    | (refine' wpPlan_free (v := _) rfl (by rfl) ?_ ?_
       rotate_left
       · (intro w'; go_simp; try rfl)
       simp only [List.getElem_toArray, List.getElem_cons_zero, List.getElem_cons_succ, Act.put, List.setIfInBounds_toArray, List.set_cons_zero, List.set_cons_succ])
    | (refine' wpPlan_held (v := _) rfl (by rfl) ?_ ?_
       rotate_left
       · (intro w' hS; go_simp; try rfl)
       simp only [List.getElem_toArray, List.getElem_cons_zero, List.getElem_cons_succ, Act.put, List.setIfInBounds_toArray, List.set_cons_zero, List.set_cons_succ])
    | (refine' wpPlan_skip rfl (by rfl) ?_
       simp only [List.getElem_toArray, List.getElem_cons_zero, List.getElem_cons_succ, Act.put, List.setIfInBounds_toArray, List.set_cons_zero, List.set_cons_succ])
    | (refine' wpPlan_skipHeld rfl (by rfl) ?_
       simp only [List.getElem_toArray, List.getElem_cons_zero, List.getElem_cons_succ, Act.put, List.setIfInBounds_toArray, List.set_cons_zero, List.set_cons_succ]))
  refine wpPlan_end ?_
  simp only [wpSegs, List.drop_succ_cons, List.drop_zero]
  go_wp2_with fail
  go_ret
  exact ⟨by trivial, (Fr.refl _ _).drew⟩

set_option maxRecDepth 100000 in
set_option maxHeartbeats 4000000 in
theorem search_any {w : World} {n P : Nat} {q1 q2 : Value} (hP : P ≤ n) (hn : n ≤ 1000000)
    (hf : ∀ (W : World) (i : Nat), i < n → Fr Non w W → Calls Try.prog 126 #[.int .i64 i, q1, q2] W fun e w' => e = .returned (.bool (decide (P ≤ i))) ∧ Fr Non W w') :
    Calls Try.prog 125 #[.int .i64 n, .func (.func 126) #[] #[q1, q2]] w fun e w' => e = .returned (.int .i64 P) ∧ Fr Non w w' := by
  have eg := enters126
  have HF := Lib.hid hf
  clear hf
  go_enter Try.func125, Try.ntmps125
  go_wp2_with fail
  go_loopw [5, 6] (fun a b wr => ∃ (lo hi : Nat), lo ≤ P ∧ P ≤ hi ∧ hi ≤ n ∧ a = .int .i64 lo ∧ b = .int .i64 hi ∧ Hid (Fr Non w wr)) (fun a b _ => (intOf b).toNat - (intOf a).toNat)
  case atStart => exact ⟨0, n, by omega, by omega, by omega, rfl, rfl, Fr.refl _ _⟩
  case round =>
    obtain ⟨lo, hi, h1, h2, h3, rfl, rfl, HI⟩ := hrel
    by_cases hlt : lo < hi
    · have g1 : (lo : Int) < (hi : Int) := by omega
      obtain ⟨m, hm1, hm2, hm3⟩ : ∃ m : Nat, m = (lo + hi) / 2 ∧ lo ≤ m ∧ m < hi := ⟨(lo + hi) / 2, rfl, by omega, by omega⟩
      have f1 := HI.out
      have W1 : ((lo : Int) + (hi : Int)) / 2 = (m : Int) := by omega
      clear hm1
      go_wp2_with fail
      refine (HF.out wr m (by omega) f1).mono ?_
      rintro e w4 ⟨rfl, f4⟩
      by_cases hp : P ≤ m
      · rw [decide_eq_true hp]
        go_wp2_with fail
        go_roundw
        case rel => exact ⟨lo, m, by omega, by omega, by omega, rfl, rfl, f1.trans f4⟩
        case measure => simp [intOf]; omega
      · rw [decide_eq_false hp]
        go_wp2_with fail
        go_roundw
        case rel => exact ⟨m + 1, hi, by omega, by omega, by omega, by go_num, rfl, f1.trans f4⟩
        case measure => simp [intOf]; omega
    · have g1 : ¬ (lo : Int) < (hi : Int) := by omega
      obtain rfl : lo = P := by omega
      go_wp2_with fail
      go_ret
      exact ⟨by trivial, HI.out⟩

theorem place_any {w : World} {v : Value} {l : List MItem} (h : Sl kItem All w v l) (hok : mOk none l = true) (hl : l.length ≤ 1000000) (k : Int) :
    Calls Try.prog 106 #[v, .int .u64 k] w fun e w' => e = .returned (.int .i64 (mPlace k l)) ∧ Fr Non w w' := by
  obtain ⟨va, vc, rfl, _, hm, _⟩ := h.frm
  have f0 : Fr Non w ((w.alloc (.cells #[.slice va l.length vc] 22)).alloc (.cells #[.int .u64 k] 36)) := ((Fr.refl _ _).alloc _).alloc _
  have b1 := alloc_at2 w (.cells #[.slice va l.length vc] 22) (.cells #[.int .u64 k] 36)
  have b2 := alloc_at2' w (.cells #[.slice va l.length vc] 22) (.cells #[.int .u64 k] 36)
  go_enter Try.func106, Try.ntmps106
  go_wp2_with fail
  refine (search_any (P := mPlace k l) (mPlace_le k l) hl ?_).mono ?_
  · intro W i hi fW
    have := (atLeast_any ((h.stay f0).stay fW) ((fW.box b1 id).1 0) ((fW.box b2 id).1 0) i hi)
    refine this.mono ?_
    rintro e w' ⟨rfl, f⟩
    refine ⟨?_, f⟩
    congr 3
    have := mPlace_lt (k := k) hok i hi
    exact propext ⟨fun e => by omega, fun e => by omega⟩
  rintro e w' ⟨rfl, f⟩
  go_wp2_with fail
  go_ret
  exact ⟨by trivial, f0.trans f⟩
end Go.Proofs.Ytplhcfaonhkegaa
