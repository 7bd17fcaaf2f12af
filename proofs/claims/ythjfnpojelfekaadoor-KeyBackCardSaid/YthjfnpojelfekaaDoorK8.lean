/-
  Keys: Sorted; awake.
-/
import Derived.Test.YthjfnpojelfekaaDoorK6
import Derived.Test.YthjfnpojelfekaaDoorK7
namespace Go.Proofs.YthjfnpojelfekaaDoor
open Go.RowKit

def kSorted (l : List MK) : List MK := kComp (kSort l)
/-- Rising, each once. -/
def Rise (l : List MK) : Prop := l.Pairwise fun x y => kLess x y = true
theorem kLess_trans {a b c : MK} (h1 : kLess a b = true) (h2 : kLess b c = true) : kLess a c = true := by
  rw [kLess_iff] at *; omega
theorem rise_push {c : List MK} {x : MK} (h : Rise c) (hx : ∀ y ∈ c, kLess x y = false) : Rise (kPush c x) ∧ ∀ z, z ∈ kPush c x ↔ z ∈ c ∨ z = x := by
  unfold kPush
  split
  · rename_i hl
    refine ⟨h, fun z => ⟨.inl, ?_⟩⟩
    rintro (hz | rfl)
    · exact hz
    · exact List.mem_of_getLast? hl
  · rename_i hl
    refine ⟨?_, by simp⟩
    unfold Rise
    rw [List.pairwise_append]
    refine ⟨h, by simp, fun y hy z hz => ?_⟩
    simp only [List.mem_singleton] at hz
    subst hz
    have h1 := hx y hy
    cases hyz : kLess y z with
    | true => rfl
    | false =>
      have e := kLess_total hyz h1
      subst e
      exfalso
      -- y is in c, all of which rises: it is the last
      obtain ⟨a, b, hab⟩ := List.append_of_mem hy
      cases b with
      | nil => rw [hab] at hl; simp at hl
      | cons t b =>
        unfold Rise at h
        rw [hab, List.pairwise_append] at h
        have h3 := (List.pairwise_cons.1 h.2.1).1 t (by simp)
        have h4 := hx t (by rw [hab]; simp)
        rw [h3] at h4
        cases h4
theorem rise_fold : ∀ (l c : List MK), Rise c → l.Pairwise (fun x y => kLess y x = false) → (∀ x ∈ l, ∀ y ∈ c, kLess x y = false) → Rise (l.foldl kPush c) ∧ ∀ z, z ∈ l.foldl kPush c ↔ z ∈ c ∨ z ∈ l
  | [], c, h, _, _ => ⟨h, by simp⟩
  | x :: l, c, h, hp, ha => by
    rw [List.pairwise_cons] at hp
    obtain ⟨h1, h2⟩ := rise_push h (fun y hy => ha x (by simp) y hy)
    obtain ⟨h3, h4⟩ := rise_fold l (kPush c x) h1 hp.2 (fun z hz y hy => by
      rcases (h2 y).1 hy with hy | rfl
      · exact ha z (by simp [hz]) y hy
      · exact hp.1 z hz)
    refine ⟨h3, fun z => ?_⟩
    rw [List.foldl_cons, h4, h2]
    simp only [List.mem_cons, or_assoc]
theorem kSort_pairs (l : List MK) : (kSort l).Pairwise (fun x y => kLess y x = false) := by
  have := List.pairwise_mergeSort (le := fun x y : MK => !kLess y x) (fun a b c h1 h2 => by
    simp only [Bool.not_eq_true'] at *
    rw [← Bool.not_eq_true, kLess_iff] at *
    omega) (fun a b => by
    cases h : kLess b a with
    | false => simp
    | true =>
      have : kLess a b = false := by rw [← Bool.not_eq_true]; intro h2; rw [kLess_iff] at *; omega
      simp [this]) l
  refine this.imp fun h => by simpa using h
theorem kSorted_rise (l : List MK) : Rise (kSorted l) ∧ ∀ z, z ∈ kSorted l ↔ z ∈ l := by
  obtain ⟨h1, h2⟩ := rise_fold (kSort l) [] List.Pairwise.nil (kSort_pairs l) (by simp)
  exact ⟨h1, fun z => by unfold kSorted kComp; rw [h2]; unfold kSort; simp⟩
theorem rise_unique : ∀ {a b : List MK}, Rise a → Rise b → (∀ z, z ∈ a ↔ z ∈ b) → a = b
  | [], [], _, _, _ => rfl
  | [], y :: b, _, _, h => by have := (h y).2 (by simp); simp at this
  | x :: a, [], _, _, h => by have := (h x).1 (by simp); simp at this
  | x :: a, y :: b, h1, h2, h => by
    unfold Rise at h1 h2
    rw [List.pairwise_cons] at h1 h2
    have hxy : x = y := by
      rcases List.mem_cons.1 ((h x).1 (by simp)) with e | hx
      · exact e
      · rcases List.mem_cons.1 ((h y).2 (by simp)) with e | hy
        · exact e.symm
        · have l1 := h2.1 x hx
          have l2 := h1.1 y hy
          have := kLess_trans l1 l2
          rw [kLess_irr] at this
          cases this
    subst hxy
    rw [rise_unique h1.2 h2.2 fun z => ?_]
    have hz := h z
    simp only [List.mem_cons] at hz
    constructor
    · intro hm
      rcases hz.1 (.inr hm) with e | e
      · subst e
        have := h1.1 z hm
        rw [kLess_irr] at this
        cases this
      · exact e
    · intro hm
      rcases hz.2 (.inr hm) with e | e
      · subst e
        have := h2.1 z hm
        rw [kLess_irr] at this
        cases this
      · exact e

set_option maxRecDepth 100000 in
set_option maxHeartbeats 4000000 in
theorem sorted_any {w : World} {u : Value} {l : List MK} (hl : Sl kKey All w u l) (hn : l.length ≤ 200000) :
    Calls Tryd.prog 22 #[u] w fun e w' => ∃ v, e = .returned v ∧ Keys w' v (kSorted l) ∧ Fr Non w w' ∧ ∀ b, v.ownBlock = some b → w.heap.size ≤ b := by
  have HC := Lib.hid (clone_any hl hn)
  obtain ⟨ua, uc, rfl, _⟩ := hl.frm
  clear hl
  go_enter Tryd.func22, Tryd.ntmps22
  go_wp2_with fail
  refine HC.out.mono ?_
  rintro e w1 ⟨v, rfl, hk, f1, ho⟩
  obtain ⟨va, vc, rfl⟩ := GRow.form hk
  have F1 := Lib.hid f1
  have HO := Lib.hid ho
  have HK := Lib.hid hk
  by_cases h0 : l = []
  · subst h0
    have hs := AnyF.slices_SortFunc_none Tryd.sortKeys va vc (.func (.func 45) #[] #[]) w1
    change Calls Tryd.prog 44 _ _ _ at hs
    have HS := Lib.hid hs
    have HP := Lib.hid (compact_any hk (by simp))
    clear hk f1 ho HC hs
    go_wp2_with fail
    refine HS.out.mono ?_
    rintro e w2 ⟨rfl, rfl⟩
    go_wp2_with fail
    refine HP.out.mono ?_
    rintro e w3 ⟨v', rfl, k3, f3, o3⟩
    go_wp2_with fail
    go_ret
    exact ⟨v', by trivial, by unfold kSorted; rw [show kSort [] = [] by simp [kSort]]; exact k3, F1.out.trans2 f3 (fun b hb e => by have := HO.out b e; omega), fun b hb => HO.out b (o3 ▸ hb)⟩
  · rcases id hk.2 with ⟨_, e0⟩ | ⟨g, cap, cur, e, _⟩
    · exact absurd (List.eq_nil_of_length_eq_zero e0) h0
    · cases e
      have HS := Lib.hid (sort_any hk hn)
      have HG := Lib.hid (ho g rfl)
      clear hk f1 ho HC
      go_wp2_with fail
      refine HS.out.mono ?_
      rintro e w2 ⟨rfl, k2, f2⟩
      have hl2 := kSort_len l
      have HP := Lib.hid (compact_any k2 (by rw [kSort_len]; exact hn))
      have F2 := Lib.hid f2
      clear k2 f2 HS
      go_wp2_with fail
      refine HP.out.mono ?_
      rintro e w3 ⟨v', rfl, k3, f3, o3⟩
      go_wp2_with fail
      go_ret
      exact ⟨v', by trivial, k3, (F1.out.trans2 F2.out (fun b hb e => by have := HG.out; omega)).trans2 f3 (fun b hb e => by have h1 := HG.out; have h2 : g = b := (by simpa [Value.ownBlock] using e); omega), fun b hb => by
        rw [o3] at hb
        have h2 : g = b := by simpa [Value.ownBlock] using hb
        have := HG.out
        omega⟩
theorem awake_sorted : kSorted [(3, 0), (2, 0), (1, 0), (2, 0)] = [(1, 0), (2, 0), (3, 0)] := by
  obtain ⟨h1, h2⟩ := kSorted_rise [(3, 0), (2, 0), (1, 0), (2, 0)]
  refine rise_unique h1 (by unfold Rise; decide) fun z => ?_
  rw [h2]
  simp only [List.mem_cons, List.not_mem_nil, or_false]
  grind

set_option maxRecDepth 100000 in
set_option maxHeartbeats 4000000 in
theorem awake_any (w : World) : Calls Tryd.prog 17 #[] w fun e w' => e = .returned (.bool true) ∧ Fr Non w w' := by
  have HN := Lib.hid (fun w => next_any w (1, 0) (by unfold kWf; omega))
  have HA := Lib.hid (fun w => at_any w 70)
  have HA0 := Lib.hid (fun w => at_any w 0)
  have HT := Lib.hid (fun w => text70 w)
  have HCM := Lib.hid (fun w => compare_any w (1, 0) (3, 0))
  have HCK := Lib.hid (fun w => check_any w (0, 0))
  rw [show kNext (1, 0) = ((2, 0), true) by rfl] at HN
  rw [show kCmp (1, 0) (3, 0) = -1 by rfl] at HCM
  rw [show kChk (0, 0) = 20 by rfl] at HCK
  unfold kV at HN HA HA0 HT HCM HCK
  have bA := alloc_at2 w (.cells #[.int .i64 1, .int .u64 0] 25) (.cells #[.int .i64 3, .int .u64 0] 25)
  have bB := alloc_at2' w (.cells #[.int .i64 1, .int .u64 0] 25) (.cells #[.int .i64 3, .int .u64 0] 25)
  have f0 : Fr Non w ((w.alloc (.cells #[.int .i64 1, .int .u64 0] 25)).alloc (.cells #[.int .i64 3, .int .u64 0] 25)) := ((Fr.refl _ _).alloc _).alloc _
  go_enter Tryd.func17, Tryd.ntmps17
  go_wp2_with fail
  refine (HN.out _).mono ?_
  rintro e w1 ⟨rfl, f1⟩
  have bA1 := f1.heap bA id
  have bB1 := f1.heap bB id
  have F1 := Lib.hid (f0.trans f1)
  clear bA bB f0 f1 HN
  go_wp2_with fail
  refine (HA.out _).mono ?_
  rintro e w2 ⟨rfl, f2⟩
  have bK := alloc_at w1 (.cells #[.int .i64 2, .int .u64 0] 25)
  have f12 : Fr Non w1 w2 := ((Fr.refl _ _).alloc _).trans f2
  have bA2 := f12.heap bA1 id
  have bB2 := f12.heap bB1 id
  have bK2 := f2.heap bK id
  have F2 := Lib.hid (F1.out.trans f12)
  generalize hG : w1.heap.size = G at bK2 ⊢
  clear bA1 bB1 bK hG f12 f2 F1 HA
  go_wp2_with fail
  refine (HT.out _).mono ?_
  rintro e w3 ⟨rfl, f3⟩
  have bA3 := f3.heap bA2 id
  have bB3 := f3.heap bB2 id
  have bK3 := f3.heap bK2 id
  have F3 := Lib.hid (F2.out.trans f3)
  clear bA2 bB2 bK2 f3 F2 HT
  obtain ⟨x0, _⟩ := box_facts bA3
  have a0 : w3.cell? ⟨w.heap.size, 0, none⟩ = some (.int .i64 1) := by rw [x0]; rfl
  have a1 : w3.cell? ⟨w.heap.size, 1, none⟩ = some (.int .u64 0) := by rw [x0]; rfl
  obtain ⟨y0, _⟩ := box_facts bB3
  have b0 : w3.cell? ⟨w.heap.size + 1, 0, none⟩ = some (.int .i64 3) := by rw [y0]; rfl
  have b1 : w3.cell? ⟨w.heap.size + 1, 1, none⟩ = some (.int .u64 0) := by rw [y0]; rfl
  obtain ⟨z0, _⟩ := box_facts bK3
  have k0 : w3.cell? ⟨G, 0, none⟩ = some (.int .i64 2) := by rw [z0]; rfl
  have k1 : w3.cell? ⟨G, 1, none⟩ = some (.int .u64 0) := by rw [z0]; rfl
  clear x0 y0 z0
  have hsl : Sl kKey All (w3.alloc (.cells (keyCells [(3, 0), (2, 0), (1, 0), (2, 0)]).toArray 25)) (.slice (some ⟨w3.heap.size, 0, none⟩) 4 4) [(3, 0), (2, 0), (1, 0), (2, 0)] := by
    refine .inr ⟨_, 4, rfl, by simp, by unfold maxLen; decide, fun _ => ⟨rfl, trivial⟩, Elems.of_row (cs := keyCells [(3, 0), (2, 0), (1, 0), (2, 0)]) ?_ (fun j u hu => ?_)⟩
    · have one : ∀ x : MK, (Lit.int .i64 x.1).wf = true → (Lit.int .u64 x.2).wf = true → kKey.rd All (w3.alloc (.cells (keyCells [(3, 0), (2, 0), (1, 0), (2, 0)]).toArray 25)) [.int .i64 x.1, .int .u64 x.2] x := fun x h1 h2 => ⟨[_], _, rfl, ⟨rfl, h1⟩, ⟨rfl, h2⟩⟩
      exact ⟨[_, _], _, rfl, one (3, 0) (by decide) (by decide), [_, _], _, rfl, one (2, 0) (by decide) (by decide), [_, _], _, rfl, one (1, 0) (by decide) (by decide), [_, _], _, rfl, one (2, 0) (by decide) (by decide), rfl⟩
    · rw [cell_of_row _ w3.heap.size _ _ _ _ (alloc_at w3 _), Nat.zero_add]
      simpa using hu
  have HS := Lib.hid (sorted_any hsl (by simp))
  rw [awake_sorted] at HS
  have HF : Hid (Fr Non w3 (w3.alloc (.cells (keyCells [(3, 0), (2, 0), (1, 0), (2, 0)]).toArray 25))) := Lib.hid ((Fr.refl _ _).alloc _)
  have hkc : (keyCells [(3, 0), (2, 0), (1, 0), (2, 0)]).toArray = #[.int .i64 3, .int .u64 0, .int .i64 2, .int .u64 0, .int .i64 1, .int .u64 0, .int .i64 2, .int .u64 0] := rfl
  rw [hkc] at HS HF
  clear hsl hkc
  go_wp2_with fail
  refine HS.out.mono ?_
  rintro e w4 ⟨v, rfl, hk4, f4, _⟩
  obtain ⟨va, vc, rfl⟩ := GRow.form hk4
  rcases id hk4.2 with ⟨_, e0⟩ | ⟨g, cap, cur, e, _⟩
  · cases e0
  cases e
  have hc := GRow.cells hk4 (g := g) rfl
  have F4 := Lib.hid (F3.out.trans (HF.out.trans f4))
  have f34 := HF.out.trans f4
  have Q := Lib.hid (And.intro (f34.cell a0 id) (And.intro (f34.cell a1 id) (And.intro (f34.cell b0 id) (And.intro (f34.cell b1 id) (And.intro (f34.cell k0 id) (And.intro (f34.cell k1 id) (And.intro (hc 0 _ rfl) (hc 1 _ rfl))))))))
  clear hc hk4 a0 a1 b0 b1 k0 k1 HS HF F3 bA3 bB3 bK3 f4 f34
  have E1 := Lib.hid (fun w => eq_key (2, 0) (2, 0) w)
  have E2 := Lib.hid (fun w => eq_key (1, 0) (1, 0) w)
  unfold kV at E1 E2
  simp only [decide_true] at E1 E2
  go_wp2_with fail
  have fd : Fr Non w4 w4.drew := (Fr.refl _ _).drew
  refine wp_draw [((fun y => Fr Non w4 y), [(.free, 0), (.free, 1), (.held, 2), (.kept, 3), (.free, 4), (.free, 5), (.free, 6), (.held, 7), (.held, 8), (.kept, 9), (.free, 10), (.free, 11), (.free, 12), (.free, 13), (.free, 14), (.free, 15), (.free, 16), (.free, 17), (.free, 18), (.free, 19), (.free, 20), (.free, 21), (.free, 22), (.free, 23), (.free, 24), (.free, 25), (.free, 26), (.free, 27), (.held, 28), (.held, 29), (.free, 30), (.free, 31), (.free, 32), (.free, 33), (.kept, 34), (.free, 35), (.free, 36), (.free, 37)])] 38 (by kernel_rfl) (by kernel_rfl) (fun _ _ _ _ _ h => h) ⟨fd, ?_⟩
  generalize w4.drew = wd at fd ⊢
  repeat (first
    | (refine' wpPlan_free (v := _) rfl (by rfl) ?_ ?_
       rotate_left
       · (intro w'; (have e1 := E1.out; have e2 := E2.out); go_simp; try rfl)
       simp only [List.getElem_toArray, List.getElem_cons_zero, List.getElem_cons_succ, Act.put, List.setIfInBounds_toArray, List.set_cons_zero, List.set_cons_succ])
    | (refine' wpPlan_held (v := _) rfl (by rfl) ?_ ?_
       rotate_left
       · (intro w' hS; (have e1 := E1.out; have e2 := E2.out); (have q0 := hS.cell Q.out.1 id; have q1 := hS.cell Q.out.2.1 id; have q2 := hS.cell Q.out.2.2.1 id; have q3 := hS.cell Q.out.2.2.2.1 id; have q4 := hS.cell Q.out.2.2.2.2.1 id; have q5 := hS.cell Q.out.2.2.2.2.2.1 id; have q6 := hS.cell Q.out.2.2.2.2.2.2.1 id; have q7 := hS.cell Q.out.2.2.2.2.2.2.2 id; clear hS); go_simp; try rfl)
       simp only [List.getElem_toArray, List.getElem_cons_zero, List.getElem_cons_succ, Act.put, List.setIfInBounds_toArray, List.set_cons_zero, List.set_cons_succ])
    | (refine' wpPlan_skip rfl (by rfl) ?_
       simp only [List.getElem_toArray, List.getElem_cons_zero, List.getElem_cons_succ, Act.put, List.setIfInBounds_toArray, List.set_cons_zero, List.set_cons_succ])
    | (refine' wpPlan_skipHeld rfl (by rfl) ?_
       simp only [List.getElem_toArray, List.getElem_cons_zero, List.getElem_cons_succ, Act.put, List.setIfInBounds_toArray, List.set_cons_zero, List.set_cons_succ]))
  refine' wpPlan_kept rfl ?_
  intro K hK
  go_simp
  refine (HA0.out _).mono ?_
  rintro e w5 ⟨rfl, f5⟩
  go_simp
  have fd5 := fd.trans f5
  refine hK _ _ ⟨fd5, ?_⟩
  clear hK K fd f5
  repeat (first
    | (refine' wpPlan_free (v := _) rfl (by rfl) ?_ ?_
       rotate_left
       · (intro w'; (have e1 := E1.out; have e2 := E2.out); go_simp; try rfl)
       simp only [List.getElem_toArray, List.getElem_cons_zero, List.getElem_cons_succ, Act.put, List.setIfInBounds_toArray, List.set_cons_zero, List.set_cons_succ])
    | (refine' wpPlan_held (v := _) rfl (by rfl) ?_ ?_
       rotate_left
       · (intro w' hS; (have e1 := E1.out; have e2 := E2.out); (have q0 := hS.cell Q.out.1 id; have q1 := hS.cell Q.out.2.1 id; have q2 := hS.cell Q.out.2.2.1 id; have q3 := hS.cell Q.out.2.2.2.1 id; have q4 := hS.cell Q.out.2.2.2.2.1 id; have q5 := hS.cell Q.out.2.2.2.2.2.1 id; have q6 := hS.cell Q.out.2.2.2.2.2.2.1 id; have q7 := hS.cell Q.out.2.2.2.2.2.2.2 id; clear hS); go_simp; try rfl)
       simp only [List.getElem_toArray, List.getElem_cons_zero, List.getElem_cons_succ, Act.put, List.setIfInBounds_toArray, List.set_cons_zero, List.set_cons_succ])
    | (refine' wpPlan_skip rfl (by rfl) ?_
       simp only [List.getElem_toArray, List.getElem_cons_zero, List.getElem_cons_succ, Act.put, List.setIfInBounds_toArray, List.set_cons_zero, List.set_cons_succ])
    | (refine' wpPlan_skipHeld rfl (by rfl) ?_
       simp only [List.getElem_toArray, List.getElem_cons_zero, List.getElem_cons_succ, Act.put, List.setIfInBounds_toArray, List.set_cons_zero, List.set_cons_succ]))
  refine' wpPlan_kept rfl ?_
  intro K hK
  go_simp
  refine (HCM.out _).mono ?_
  rintro e w6 ⟨rfl, f6⟩
  go_simp
  have fd6 := fd5.trans f6.fr
  refine hK _ _ ⟨fd6, ?_⟩
  clear hK K fd5 f6
  repeat (first
    | (refine' wpPlan_free (v := _) rfl (by rfl) ?_ ?_
       rotate_left
       · (intro w'; (have e1 := E1.out; have e2 := E2.out); go_simp; try rfl)
       simp only [List.getElem_toArray, List.getElem_cons_zero, List.getElem_cons_succ, Act.put, List.setIfInBounds_toArray, List.set_cons_zero, List.set_cons_succ])
    | (refine' wpPlan_held (v := _) rfl (by rfl) ?_ ?_
       rotate_left
       · (intro w' hS; (have e1 := E1.out; have e2 := E2.out); (have q0 := hS.cell Q.out.1 id; have q1 := hS.cell Q.out.2.1 id; have q2 := hS.cell Q.out.2.2.1 id; have q3 := hS.cell Q.out.2.2.2.1 id; have q4 := hS.cell Q.out.2.2.2.2.1 id; have q5 := hS.cell Q.out.2.2.2.2.2.1 id; have q6 := hS.cell Q.out.2.2.2.2.2.2.1 id; have q7 := hS.cell Q.out.2.2.2.2.2.2.2 id; clear hS); go_simp; try rfl)
       simp only [List.getElem_toArray, List.getElem_cons_zero, List.getElem_cons_succ, Act.put, List.setIfInBounds_toArray, List.set_cons_zero, List.set_cons_succ])
    | (refine' wpPlan_skip rfl (by rfl) ?_
       simp only [List.getElem_toArray, List.getElem_cons_zero, List.getElem_cons_succ, Act.put, List.setIfInBounds_toArray, List.set_cons_zero, List.set_cons_succ])
    | (refine' wpPlan_skipHeld rfl (by rfl) ?_
       simp only [List.getElem_toArray, List.getElem_cons_zero, List.getElem_cons_succ, Act.put, List.setIfInBounds_toArray, List.set_cons_zero, List.set_cons_succ]))
  refine' wpPlan_kept rfl ?_
  intro K hK
  go_simp
  refine (HCK.out _).mono ?_
  rintro e w7 ⟨rfl, f7⟩
  go_simp
  have fd7 := fd6.trans f7
  refine hK _ _ ⟨fd7, ?_⟩
  clear hK K fd6 f7
  repeat (first
    | (refine' wpPlan_free (v := _) rfl (by rfl) ?_ ?_
       rotate_left
       · (intro w'; (have e1 := E1.out; have e2 := E2.out); go_simp; try rfl)
       simp only [List.getElem_toArray, List.getElem_cons_zero, List.getElem_cons_succ, Act.put, List.setIfInBounds_toArray, List.set_cons_zero, List.set_cons_succ])
    | (refine' wpPlan_held (v := _) rfl (by rfl) ?_ ?_
       rotate_left
       · (intro w' hS; (have e1 := E1.out; have e2 := E2.out); (have q0 := hS.cell Q.out.1 id; have q1 := hS.cell Q.out.2.1 id; have q2 := hS.cell Q.out.2.2.1 id; have q3 := hS.cell Q.out.2.2.2.1 id; have q4 := hS.cell Q.out.2.2.2.2.1 id; have q5 := hS.cell Q.out.2.2.2.2.2.1 id; have q6 := hS.cell Q.out.2.2.2.2.2.2.1 id; have q7 := hS.cell Q.out.2.2.2.2.2.2.2 id; clear hS); go_simp; try rfl)
       simp only [List.getElem_toArray, List.getElem_cons_zero, List.getElem_cons_succ, Act.put, List.setIfInBounds_toArray, List.set_cons_zero, List.set_cons_succ])
    | (refine' wpPlan_skip rfl (by rfl) ?_
       simp only [List.getElem_toArray, List.getElem_cons_zero, List.getElem_cons_succ, Act.put, List.setIfInBounds_toArray, List.set_cons_zero, List.set_cons_succ])
    | (refine' wpPlan_skipHeld rfl (by rfl) ?_
       simp only [List.getElem_toArray, List.getElem_cons_zero, List.getElem_cons_succ, Act.put, List.setIfInBounds_toArray, List.set_cons_zero, List.set_cons_succ]))
  refine wpPlan_end ?_
  simp only [wpSegs, List.drop_succ_cons, List.drop_zero]
  go_wp2_with fail
  go_ret
  exact ⟨by trivial, F4.out.trans fd7⟩
end Go.Proofs.YthjfnpojelfekaaDoor
