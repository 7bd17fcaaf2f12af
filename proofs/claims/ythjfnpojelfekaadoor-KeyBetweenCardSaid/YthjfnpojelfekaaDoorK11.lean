/-
  KeyBetween, walked.
-/
import Derived.Test.YthjfnpojelfekaaDoorK9
namespace Go.Proofs.YthjfnpojelfekaaDoor
open Go.RowKit

theorem next_none {k : MK} (h : (kNext k).2 = false) : kOk k = false ∨ k.1 = 3 := by
  unfold kNext at h
  split at h
  · assumption
  · split at h
    · simp at h
    · split at h <;> simp at h
theorem next_some {k : MK} (hk : kWf k) (h : (kNext k).2 = true) :
    kPrev (kNext k).1 = (k, true) ∧ kLess k (kNext k).1 = true ∧ kChk (kNext k).1 = 0 ∧ kWf (kNext k).1 ∧ ∀ o : MK, kChk o = 0 → kWf o → kLess k o = true → kLess o (kNext k).1 = false := by
  obtain ⟨r, n⟩ := k
  have hok : kOk (r, n) = true := by
    cases h2 : kOk (r, n) with
    | true => rfl
    | false => unfold kNext at h; rw [h2] at h; simp at h
  obtain ⟨hk1, hk2⟩ := hk
  simp only at hk1 hk2
  have key : ∀ (o : MK) (a b : MK), kChk o = 0 → kLess a o = true → (∀ r n, o = (r, n) → (r = 2 ∨ (r = 1 ∧ n = 0) ∨ (r = 3 ∧ n = 0)) → (a.1 < r ∨ (a.1 = r ∧ a.2 < n)) → ¬ (r < b.1 ∨ (r = b.1 ∧ n < b.2))) → kLess o b = false := by
    intro o a b h1 h2 h3
    have ho : kOk o = true := by unfold kChk at h1; by_cases hh : kOk o = true; exact hh; rw [if_neg hh] at h1; cases h1
    obtain ⟨ro, no⟩ := o
    rw [← Bool.not_eq_true, kLess_iff]
    rw [kLess_iff] at h2
    exact h3 ro no rfl (kOk_ranks ho) h2
  rcases kOk_ranks hok with rfl | ⟨rfl, rfl⟩ | ⟨rfl, rfl⟩
  · by_cases hm : n = 18446744073709551615
    · subst hm
      have e : kNext (2, 18446744073709551615) = ((3, 0), true) := by simp [kNext, kOk]
      rw [e]
      refine ⟨by simp [kPrev, kOk], by rw [kLess_iff]; simp, by simp [kChk, kOk], by unfold kWf; simp only; omega, fun o h1 h2 h3 => key o _ _ h1 h3 fun r n hrn hr ha => ?_⟩
      subst hrn
      unfold kWf at h2
      simp only at h2 ha ⊢
      omega
    · have e : kNext (2, n) = ((2, n + 1), true) := by simp [kNext, kOk, hm]
      rw [e]
      refine ⟨?_, by rw [kLess_iff]; simp; omega, by simp [kChk, kOk], by unfold kWf; simp only; omega, fun o h1 h2 h3 => key o _ _ h1 h3 fun r m hrn hr ha => ?_⟩
      · have : n + 1 ≠ 0 := by omega
        simp [kPrev, kOk, this]
      · simp only at ha ⊢
        omega
  · have e : kNext (1, 0) = ((2, 0), true) := by rfl
    rw [e]
    refine ⟨by rfl, by rfl, by rfl, by unfold kWf; simp only; omega, fun o h1 h2 h3 => key o _ _ h1 h3 fun r m hrn hr ha => ?_⟩
    subst hrn
    unfold kWf at h2
    simp only at h2 ha ⊢
    omega
  · have e : kNext (3, 0) = ((0, 0), false) := by rfl
    rw [e] at h
    cases h

set_option maxRecDepth 100000 in
set_option maxHeartbeats 4000000 in
theorem between_law (w : World) (k o : MK) (hk : kWf k) (ho : kWf o) : Calls Tryd.prog 7 #[kV k, kV o] w (KEnd w) := by
  have H0 := Lib.hid (fun w => awake_any w)
  have H1 := Lib.hid (fun w => next_any w k hk)
  have H2 := Lib.hid (fun w => check_any w k)
  have bA := alloc_at2 w (.cells #[.int .i64 k.1, .int .u64 k.2] 25) (.cells #[.int .i64 o.1, .int .u64 o.2] 25)
  have bB := alloc_at2' w (.cells #[.int .i64 k.1, .int .u64 k.2] 25) (.cells #[.int .i64 o.1, .int .u64 o.2] 25)
  have f0 : Fr Non w ((w.alloc (.cells #[.int .i64 k.1, .int .u64 k.2] 25)).alloc (.cells #[.int .i64 o.1, .int .u64 o.2] 25)) := ((Fr.refl _ _).alloc _).alloc _
  cases hn : (kNext k).2 with
  | false =>
    have hb := next_none hn
    rw [hn] at H1
    obtain ⟨k1, k2⟩ := k
    obtain ⟨o1, o2⟩ := o
    obtain ⟨n, hnn⟩ : ∃ n, (kNext (k1, k2)).1 = n := ⟨_, rfl⟩
    rw [hnn] at H1
    obtain ⟨n1, n2⟩ := n
    simp only at bA bB f0 hb
    unfold kV at H1 H2 ⊢
    clear hn hnn hk ho
    go_enter Tryd.func7, Tryd.ntmps7
    go_wp2_with fail
    refine (H0.out _).mono ?_
    rintro e v1 ⟨rfl, g1⟩
    have bA1 := g1.heap bA id
    have F1 := Lib.hid (f0.trans g1)
    clear bA bB f0 g1 H0
    have s0a : v1.cell? ⟨w.heap.size, 0, none⟩ = some (.int .i64 k1) := by rw [(box_facts bA1).1]; rfl
    have s0b : v1.cell? ⟨w.heap.size, 1, none⟩ = some (.int .u64 k2) := by rw [(box_facts bA1).1]; rfl
    go_wp2_with fail
    refine (H1.out _).mono ?_
    rintro e v2 ⟨rfl, g2⟩
    have bA2 := g2.heap bA1 id
    have F2 := Lib.hid (F1.out.trans g2)
    clear s0a s0b bA1 g2 F1 H1
    have s0a : v2.cell? ⟨w.heap.size, 0, none⟩ = some (.int .i64 k1) := by rw [(box_facts bA2).1]; rfl
    have s0b : v2.cell? ⟨w.heap.size, 1, none⟩ = some (.int .u64 k2) := by rw [(box_facts bA2).1]; rfl
    have lA : w.heap.size < v2.heap.size := lt_of_block bA2
    have nA : w.heap.size ≠ v2.heap.size := by omega
    go_wp2_with fail
    refine (H2.out _).mono ?_
    rintro e v3 ⟨rfl, g3⟩
    have l3 : Fr Non v2 v3 := ((Fr.refl _ _).alloc _).trans g3
    have bA3 := l3.heap bA2 id
    have F3 := Lib.hid (F2.out.trans l3)
    clear s0a s0b bA2 g3 l3 F2 H2 lA nA
    have s0a : v3.cell? ⟨w.heap.size, 0, none⟩ = some (.int .i64 k1) := by rw [(box_facts bA3).1]; rfl
    cases hok : kOk (k1, k2) with
    | false =>
      rw [show kChk (k1, k2) = 20 by unfold kChk; rw [hok]; rfl]
      clear hb hok
      go_wp2_with fail
      go_ret
      exact ⟨by trivial, F3.out⟩
    | true =>
      rw [show kChk (k1, k2) = 0 by unfold kChk; rw [hok]; rfl]
      have hr : k1 = 3 := by
        rcases hb with hb | hb
        · rw [hok] at hb; cases hb
        · exact hb
      subst hr
      clear hb hok
      go_wp2_with fail
      go_ret
      exact ⟨by trivial, F3.out⟩
  | true =>
    obtain ⟨q1, q2, q3, q4, q5⟩ := next_some hk hn
    have H3 := Lib.hid (fun w => prev_any w (kNext k).1 q4)
    have H4 := Lib.hid (fun w => less_any w k (kNext k).1)
    have H5 := Lib.hid (fun w => check_any w (kNext k).1)
    have H6 := Lib.hid (fun w => check_any w o)
    have H7 := Lib.hid (fun w => less_any w k o)
    have H8 := Lib.hid (fun w => less_any w o (kNext k).1)
    have E := Lib.hid (fun w => neq_key k k w)
    rw [hn] at H1
    rw [q1] at H3
    rw [q2] at H4
    rw [q3] at H5
    have q6 := fun h1 h2 => q5 o h1 ho h2
    have Q5 := Lib.hid q6
    obtain ⟨k1, k2⟩ := k
    obtain ⟨o1, o2⟩ := o
    obtain ⟨n, hnn⟩ : ∃ n, (kNext (k1, k2)).1 = n := ⟨_, rfl⟩
    rw [hnn] at H1 H3 H4 H5 H8 Q5
    obtain ⟨n1, n2⟩ := n
    simp only at bA bB f0
    unfold kV at H1 H3 H4 H5 H6 H7 H8 E ⊢
    simp only [decide_true, Bool.not_true] at E
    generalize kChk (o1, o2) = oc at H6 Q5
    generalize kLess (k1, k2) (o1, o2) = l1 at H7 Q5
    generalize kLess (o1, o2) (n1, n2) = l2 at H8 Q5
    clear hn hnn hk ho q1 q2 q3 q4 q5 q6 H2
    go_enter Tryd.func7, Tryd.ntmps7
    go_wp2_with fail
    refine (H0.out _).mono ?_
    rintro e v1 ⟨rfl, g1⟩
    have bA1 := g1.heap bA id
    have bB1 := g1.heap bB id
    have F1 := Lib.hid (f0.trans g1)
    clear bA bB f0 g1 H0
    have s0a : v1.cell? ⟨w.heap.size, 0, none⟩ = some (.int .i64 k1) := by rw [(box_facts bA1).1]; rfl
    have s0b : v1.cell? ⟨w.heap.size, 1, none⟩ = some (.int .u64 k2) := by rw [(box_facts bA1).1]; rfl
    go_wp2_with fail
    refine (H1.out _).mono ?_
    rintro e v2 ⟨rfl, g2⟩
    have bA2 := g2.heap bA1 id
    have bB2 := g2.heap bB1 id
    have F2 := Lib.hid (F1.out.trans g2)
    clear s0a s0b bA1 bB1 g2 F1 H1
    go_wp2_with fail
    refine (H3.out _).mono ?_
    rintro e v3 ⟨rfl, g3⟩
    have l3 : Fr Non v2 v3 := ((Fr.refl _ _).alloc _).trans g3
    have bN3 := g3.heap (alloc_at v2 (.cells #[.int .i64 n1, .int .u64 n2] 25)) id
    have bA3 := l3.heap bA2 id
    have bB3 := l3.heap bB2 id
    have F3 := Lib.hid (F2.out.trans l3)
    generalize hG : v2.heap.size = G at bN3 ⊢
    clear hG l3 g3 bA2 bB2 F2 H3
    have s0a : v3.cell? ⟨w.heap.size, 0, none⟩ = some (.int .i64 k1) := by rw [(box_facts bA3).1]; rfl
    have s0b : v3.cell? ⟨w.heap.size, 1, none⟩ = some (.int .u64 k2) := by rw [(box_facts bA3).1]; rfl
    have lA : w.heap.size < v3.heap.size := lt_of_block bA3
    have nA : w.heap.size ≠ v3.heap.size := by omega
    have s2a : v3.cell? ⟨G, 0, none⟩ = some (.int .i64 n1) := by rw [(box_facts bN3).1]; rfl
    have s2b : v3.cell? ⟨G, 1, none⟩ = some (.int .u64 n2) := by rw [(box_facts bN3).1]; rfl
    have lG : G < v3.heap.size := lt_of_block bN3
    have nG : G ≠ v3.heap.size := by omega
    have e1 := E.out
    go_wp2_with fail
    refine (H4.out _).mono ?_
    rintro e v4 ⟨rfl, g4⟩
    have l4 : Fr Non v3 v4 := ((Fr.refl _ _).alloc _).trans g4.fr
    have bA4 := l4.heap bA3 id
    have bB4 := l4.heap bB3 id
    have bN4 := l4.heap bN3 id
    have F4 := Lib.hid (F3.out.trans l4)
    clear s0a s0b s2a s2b lA nA lG nG e1 l4 g4 bA3 bB3 bN3 F3 H4 E
    have s2a : v4.cell? ⟨G, 0, none⟩ = some (.int .i64 n1) := by rw [(box_facts bN4).1]; rfl
    have s2b : v4.cell? ⟨G, 1, none⟩ = some (.int .u64 n2) := by rw [(box_facts bN4).1]; rfl
    go_wp2_with fail
    refine (H5.out _).mono ?_
    rintro e v5 ⟨rfl, g5⟩
    have bA5 := g5.heap bA4 id
    have bB5 := g5.heap bB4 id
    have bN5 := g5.heap bN4 id
    have F5 := Lib.hid (F4.out.trans g5)
    clear s2a s2b g5 bA4 bB4 bN4 F4 H5
    have s1a : v5.cell? ⟨w.heap.size + 1, 0, none⟩ = some (.int .i64 o1) := by rw [(box_facts bB5).1]; rfl
    have s1b : v5.cell? ⟨w.heap.size + 1, 1, none⟩ = some (.int .u64 o2) := by rw [(box_facts bB5).1]; rfl
    go_wp2_with fail
    refine (H6.out _).mono ?_
    rintro e v6 ⟨rfl, g6⟩
    have bA6 := g6.heap bA5 id
    have bB6 := g6.heap bB5 id
    have bN6 := g6.heap bN5 id
    have F6 := Lib.hid (F5.out.trans g6)
    clear s1a s1b g6 bA5 bB5 bN5 F5 H6
    by_cases hoc : oc = 0
    rotate_left
    · have z : (oc == 0) = false := by simpa using hoc
      have z2 : (oc != 0) = true := by simpa using hoc
      clear hoc Q5
      go_wp2_with fail
      go_ret
      exact ⟨by trivial, F6.out⟩
    subst hoc
    have s0a : v6.cell? ⟨w.heap.size, 0, none⟩ = some (.int .i64 k1) := by rw [(box_facts bA6).1]; rfl
    have s0b : v6.cell? ⟨w.heap.size, 1, none⟩ = some (.int .u64 k2) := by rw [(box_facts bA6).1]; rfl
    have s1a : v6.cell? ⟨w.heap.size + 1, 0, none⟩ = some (.int .i64 o1) := by rw [(box_facts bB6).1]; rfl
    have s1b : v6.cell? ⟨w.heap.size + 1, 1, none⟩ = some (.int .u64 o2) := by rw [(box_facts bB6).1]; rfl
    go_wp2_with fail
    refine (H7.out _).mono ?_
    rintro e v7 ⟨rfl, g7⟩
    have bA7 := g7.fr.heap bA6 id
    have bB7 := g7.fr.heap bB6 id
    have bN7 := g7.fr.heap bN6 id
    have F7 := Lib.hid (F6.out.trans g7.fr)
    clear s0a s0b s1a s1b g7 bA6 bB6 bN6 F6 H7
    cases l1 with
    | false =>
      clear Q5
      go_wp2_with fail
      go_ret
      exact ⟨by trivial, F7.out⟩
    | true =>
    have hl2 : l2 = false := by simpa using Q5.out
    subst hl2
    clear Q5
    have s1a : v7.cell? ⟨w.heap.size + 1, 0, none⟩ = some (.int .i64 o1) := by rw [(box_facts bB7).1]; rfl
    have s1b : v7.cell? ⟨w.heap.size + 1, 1, none⟩ = some (.int .u64 o2) := by rw [(box_facts bB7).1]; rfl
    have s2a : v7.cell? ⟨G, 0, none⟩ = some (.int .i64 n1) := by rw [(box_facts bN7).1]; rfl
    have s2b : v7.cell? ⟨G, 1, none⟩ = some (.int .u64 n2) := by rw [(box_facts bN7).1]; rfl
    go_wp2_with fail
    refine (H8.out _).mono ?_
    rintro e v8 ⟨rfl, g8⟩
    have bA8 := g8.fr.heap bA7 id
    have bB8 := g8.fr.heap bB7 id
    have bN8 := g8.fr.heap bN7 id
    have F8 := Lib.hid (F7.out.trans g8.fr)
    clear s1a s1b s2a s2b g8 bA7 bB7 bN7 F7 H8
    go_wp2_with fail
    go_ret
    exact ⟨by trivial, F8.out⟩
end Go.Proofs.YthjfnpojelfekaaDoor
