/-
  Keys: the reference's Same, where both rows are the same; its Sorted.
-/
import Derived.Test.YthjfnpojelfekaaDoorK12
import Derived.Deep.DeepCutAuto
namespace Go.Proofs.YthjfnpojelfekaaDoor
open Go.RowKit

set_option maxRecDepth 100000 in
set_option maxHeartbeats 4000000 in
theorem same_any {w : World} {u v : Value} {l : List MK} (hu : Sl kKey All w u l) (hv : Sl kKey All w v l) (hn : l.length ≤ 200000) :
    Calls Tryd.prog 21 #[u, v] w fun e w' => e = .returned (.bool true) ∧ Fr Non w w' := by
  obtain ⟨a, n, rfl, _⟩ := hu.frm
  obtain ⟨b, m, rfl, _⟩ := hv.frm
  have HU := Lib.hid hu
  have HV := Lib.hid hv
  clear hu hv
  go_enter Tryd.func21, Tryd.ntmps21
  go_wp2_with fail
  go_loopw [5] (fun i wr => ∃ (j : Nat), j ≤ l.length ∧ i = .int .i64 j ∧ Hid (Fr Non w wr)) (fun i _ => l.length - (intOf i).toNat)
  case atStart => exact ⟨0, by omega, rfl, Fr.refl _ _⟩
  case round =>
    obtain ⟨j, hj, rfl, HI⟩ := hrel
    have j0 : (0 : Int) ≤ (j : Int) := by omega
    by_cases hlt : j < l.length
    · have j1 : (j : Int) < (l.length : Int) := by omega
      obtain ⟨b1, o1, rfl, x0, x1⟩ := keys_rd (HU.out.stay HI.out) j hlt
      obtain ⟨b2, o2, rfl, y0, y1⟩ := keys_rd (HV.out.stay HI.out) j hlt
      have E := Lib.hid (fun w => neq_key l[j] l[j] w)
      obtain ⟨X, hX⟩ : ∃ X, l[j] = X := ⟨_, rfl⟩
      rw [hX] at x0 x1 y0 y1 E
      obtain ⟨X1, X2⟩ := X
      simp only at x0 x1 y0 y1
      unfold kV at E
      simp only [decide_true, Bool.not_true] at E
      have Q := Lib.hid (And.intro x0 (And.intro x1 (And.intro y0 y1)))
      clear hX x0 x1 y0 y1
      go_wp2_with fail
      have fd0 : Fr Non wr wr.drew := (Fr.refl _ _).drew
      refine wp_draw [((fun y => Fr Non wr y), [(.free, 0), (.free, 1), (.free, 2), (.held, 3), (.free, 4), (.free, 5), (.free, 6), (.held, 7), (.free, 8)])] 9 (by kernel_rfl) (by kernel_rfl) (fun _ _ _ _ _ h => h) ⟨fd0, ?_⟩
      generalize wr.drew = wd0 at fd0 ⊢
      repeat (first
        | (refine' wpPlan_free (v := _) rfl (by rfl) ?_ ?_
           rotate_left
           · (intro w'; (have e1 := E.out); go_simp; try rfl)
           simp only [List.getElem_toArray, List.getElem_cons_zero, List.getElem_cons_succ, Act.put, List.setIfInBounds_toArray, List.set_cons_zero, List.set_cons_succ])
        | (refine' wpPlan_held (v := _) rfl (by rfl) ?_ ?_
           rotate_left
           · (intro w' hS; (have e1 := E.out); (have q0 := hS.cell Q.out.1 id; have q1 := hS.cell Q.out.2.1 id; have q2 := hS.cell Q.out.2.2.1 id; have q3 := hS.cell Q.out.2.2.2 id; clear hS); go_simp; try rfl)
           simp only [List.getElem_toArray, List.getElem_cons_zero, List.getElem_cons_succ, Act.put, List.setIfInBounds_toArray, List.set_cons_zero, List.set_cons_succ])
        | (refine' wpPlan_skip rfl (by rfl) ?_
           simp only [List.getElem_toArray, List.getElem_cons_zero, List.getElem_cons_succ, Act.put, List.setIfInBounds_toArray, List.set_cons_zero, List.set_cons_succ])
        | (refine' wpPlan_skipHeld rfl (by rfl) ?_
           simp only [List.getElem_toArray, List.getElem_cons_zero, List.getElem_cons_succ, Act.put, List.setIfInBounds_toArray, List.set_cons_zero, List.set_cons_succ]))
      refine wpPlan_end ?_
      simp only [wpSegs, List.drop_succ_cons, List.drop_zero]
      have HI2 := Lib.hid (HI.out.trans fd0)
      go_wp2_with fail
      go_roundw
      case rel => exact ⟨j + 1, by omega, by go_num, HI2⟩
      case measure => simp [intOf]; omega
    · obtain rfl : j = l.length := by omega
      go_wp2_with fail
      go_ret
      exact ⟨by trivial, HI.out⟩

/-- One step of the reference's Sorted: what is put at its place among those that rise. -/
def kPut (x : MK) : List MK → Bool → List MK
  | [], put => if put then [] else [x]
  | y :: r, put => (if !put && !kLess y x then [x] else []) ++ ((if y ≠ x then [y] else []) ++ kPut x r (put || !kLess y x))
def kIns (out : List MK) (x : MK) : List MK := kPut x out false
def kRSort (l : List MK) : List MK := l.foldl kIns []
theorem kRSort_next {l : List MK} {j : Nat} (h : j < l.length) : kRSort (l.take (j + 1)) = kIns (kRSort (l.take j)) l[j] := by
  unfold kRSort
  rw [← List.take_append_getElem h, List.foldl_append]
  rfl
theorem kPut_mem (x : MK) : ∀ (l : List MK) (p : Bool), ∀ z, z ∈ kPut x l p → z = x ∨ z ∈ l
  | [], p, z, h => by
    unfold kPut at h
    cases p <;> simp at h
    exact .inl h
  | y :: r, p, z, h => by
    unfold kPut at h
    rw [List.mem_append, List.mem_append] at h
    rcases h with h | h | h
    · split at h <;> simp at h
      exact .inl h
    · split at h <;> simp at h
      subst h
      exact .inr (by simp)
    · rcases kPut_mem x r _ z h with h | h
      · exact .inl h
      · exact .inr (by simp [h])
theorem kPut_true {x : MK} : ∀ {l : List MK}, (∀ y ∈ l, kLess x y = true) → kPut x l true = l
  | [], _ => by simp [kPut]
  | y :: r, h => by
    have hy := h y (by simp)
    have hne : y ≠ x := by intro e; subst e; rw [kLess_irr] at hy; cases hy
    unfold kPut
    rw [Bool.true_or, kPut_true (fun z hz => h z (by simp [hz]))]
    simp [hne]
theorem kIns_rise {x : MK} : ∀ {l : List MK}, Rise l → Rise (kIns l x) ∧ ∀ z, z ∈ kIns l x ↔ z = x ∨ z ∈ l
  | [], _ => by
    unfold kIns kPut
    simp only [Bool.false_eq_true, if_false]
    exact ⟨by unfold Rise; simp, by simp⟩
  | y :: r, h => by
    have hp := List.pairwise_cons.1 h
    cases hyx : kLess y x with
    | true =>
      have hne : y ≠ x := by intro e; subst e; rw [kLess_irr] at hyx; cases hyx
      have e : kIns (y :: r) x = y :: kIns r x := by
        unfold kIns
        conv => lhs; unfold kPut
        simp [hyx, hne]
      obtain ⟨h1, h2⟩ := kIns_rise (x := x) hp.2
      rw [e]
      refine ⟨?_, fun z => by rw [List.mem_cons, h2, List.mem_cons]; grind⟩
      unfold Rise
      rw [List.pairwise_cons]
      refine ⟨fun z hz => ?_, h1⟩
      rcases (h2 z).1 hz with rfl | hz
      · exact hyx
      · exact hp.1 z hz
    | false =>
      by_cases hne : y = x
      · subst hne
        have e : kIns (y :: r) y = y :: r := by
          unfold kIns
          conv => lhs; unfold kPut
          have hk : kPut y r true = r := kPut_true hp.1
          simp [hyx, hk]
        rw [e]
        exact ⟨h, fun z => by simp⟩
      · have hxy : kLess x y = true := by
          cases h2 : kLess x y with
          | true => rfl
          | false => exact absurd (kLess_total hyx h2) hne
        have hall : ∀ z ∈ r, kLess x z = true := fun z hz => kLess_trans hxy (hp.1 z hz)
        have e : kIns (y :: r) x = x :: y :: r := by
          unfold kIns
          conv => lhs; unfold kPut
          simp only [Bool.not_false, Bool.true_and, hyx, if_true, ne_eq, hne, not_false_eq_true, Bool.or_true]
          rw [kPut_true hall]
          rfl
        rw [e]
        refine ⟨?_, fun z => by simp⟩
        unfold Rise
        rw [List.pairwise_cons]
        exact ⟨fun z hz => by rcases List.mem_cons.1 hz with rfl | hz; exact hxy; exact hall z hz, h⟩
theorem kRSort_fold : ∀ (l out : List MK), Rise out → Rise (l.foldl kIns out) ∧ ∀ z, z ∈ l.foldl kIns out ↔ z ∈ out ∨ z ∈ l
  | [], out, h => ⟨h, by simp⟩
  | x :: l, out, h => by
    obtain ⟨h1, h2⟩ := kIns_rise (x := x) h
    obtain ⟨h3, h4⟩ := kRSort_fold l _ h1
    refine ⟨h3, fun z => ?_⟩
    rw [List.foldl_cons, h4, h2, List.mem_cons]
    grind
theorem kRSort_eq (l : List MK) : kRSort l = kSorted l := by
  obtain ⟨h1, h2⟩ := kRSort_fold l [] List.Pairwise.nil
  obtain ⟨h3, h4⟩ := kSorted_rise l
  exact rise_unique h1 h3 fun z => by unfold kRSort; rw [h2, h4]; simp
end Go.Proofs.YthjfnpojelfekaaDoor
