/-
  Model: the reference's asked and Do.
-/
import Derived.Test.YtplhcfaonhkegaaM18
import Derived.Test.YtplhcfaonhkegaaM0b
namespace Go.Proofs.Ytplhcfaonhkegaa
open Go.RowKit Go.Maps

set_option maxRecDepth 100000 in
set_option maxHeartbeats 2000000 in
theorem asked5 {S : Nat → Prop} {w : World} {v : Value} {l : List MItem} (h0 : Sl kItem S w v l) (hl : l.length ≤ 100000) (key high : Int) {ca : Option Addr} {cc : Nat} {bs : List UInt8} :
    Calls Try.prog 78 #[v, .agg #[.int .i64 5, .int .u64 key, .int .u64 high, .slice ca bs.length cc]] w fun e w' => ∃ y, e = .returned y ∧ ResS (fun b => S b ∨ w.heap.size ≤ b) w' y (mAsked l (5, key, high, bs)) ∧ Fr Non w w' := by
  have hrb : (100000 : Nat) * 32 ≤ reachBytes := by decide
  have h : Sl kItem (fun b => S b ∧ b < w.heap.size) w v l := h0.mono fun _ hb h => ⟨h, hb⟩
  obtain ⟨va, vn, rfl, _, hm, _⟩ := h0.frm
  have f0 : Fr Non w ((w.alloc (.cells #[.int .i64 5, .int .u64 key, .int .u64 high, .slice ca bs.length cc] 39)).alloc (.cells #[.int .i64 0, .int .u64 0, .slice none 0 0, .slice none 0 0, .int .i64 0, .int .i64 0, .int .u64 0, .int .i64 0, .int .u64 0, .int .i64 0, .int .i64 0, .int .u64 0, .int .i64 0, .int .u64 0, .bool false] 52)) := ((Fr.refl _ _).alloc _).alloc _
  have bC := alloc_at2 w (.cells #[.int .i64 5, .int .u64 key, .int .u64 high, .slice ca bs.length cc] 39) (.cells #[.int .i64 0, .int .u64 0, .slice none 0 0, .slice none 0 0, .int .i64 0, .int .i64 0, .int .u64 0, .int .i64 0, .int .u64 0, .int .i64 0, .int .i64 0, .int .u64 0, .int .i64 0, .int .u64 0, .bool false] 52)
  have bR := alloc_at2' w (.cells #[.int .i64 5, .int .u64 key, .int .u64 high, .slice ca bs.length cc] 39) (.cells #[.int .i64 0, .int .u64 0, .slice none 0 0, .slice none 0 0, .int .i64 0, .int .i64 0, .int .u64 0, .int .i64 0, .int .u64 0, .int .i64 0, .int .i64 0, .int .u64 0, .int .i64 0, .int .u64 0, .bool false] 52)
  have HS := Lib.hid (h.stay f0)
  obtain ⟨C, hC⟩ : ∃ C, w.heap.size = C := ⟨_, rfl⟩
  have HCC := Lib.hid hC
  rw [hC] at bC bR
  obtain ⟨qC, zC⟩ := box_facts bC
  have hbw := fun (w : World) (h : Sl kItem (fun b => S b ∧ b < C) w (.slice va l.length vn) l) => between_any h (by omega) key high
  obtain ⟨L, hL⟩ : ∃ L, mBetween key high l = L := ⟨_, rfl⟩
  have hLl := mBetween_len key high l
  rw [hL] at hbw hLl
  have HL := Lib.hid (show mBetween (5, key, high, bs).2.1 (mHigh (5, key, high, bs)) l = L by rw [← hL]; rfl)
  have HBW := Lib.hid hbw
  rw [hC] at HS
  clear hbw hL h h0

  by_cases h64 : 64 < L.length
  · have g64 : (64 : Int) < (L.length : Int) := by omega
    have HA := Lib.hid (show mAsked l (5, key, high, bs) = mErr 102 by unfold mAsked; rw [if_pos rfl, HL.out, if_pos h64])
    go_enter Try.func78, Try.ntmps78
    go_wp2_with fail
    refine (HBW.out _ HS.out).mono ?_
    rintro e w2 ⟨sa, sc, rfl, hs2, f2⟩
    have fw2 := f0.trans f2
    have bC2 := f2.heap bC id
    have bR2 := f2.heap bR id
    clear qC zC
    obtain ⟨qC, zC⟩ := box_facts bC2
    go_wp2_with fail
    refine (err_any _ 102).mono ?_
    rintro e w4 ⟨rfl, f4⟩
    simp only [resCells, refCells, mErr, r0, List.cons_append, List.nil_append]
    have fw4 := fw2.trans f4
    have bR4 := f4.heap bR2 id
    obtain ⟨qR, zR⟩ := box_facts bR4
    go_wp2_with fail
    refine bodyPost_ret (v := .agg (resCells (mErr 102) (.slice none 0 0) (.slice none 0 0)).toArray) (by simp [results, Try.results78, go_sem, set15_cell bR4, resCells, refCells, mErr, r0]) rfl ⟨_, rfl, ?_, ?_⟩
    · rw [HA.out]
      exact ResS.err 102
    · exact fw4.trans2 (set15_fr _ (C + 1) _ _ _ _ _ _ _ _ _ _ _ _ _ _ _) (fun b hb e => by have := HCC.out; omega)
  · have g64 : ¬ (64 : Int) < (L.length : Int) := by omega
    have HA := Lib.hid (show mAsked l (5, key, high, bs) = (0, 0, [], L, r0, r0, false) by unfold mAsked; rw [if_pos rfl, HL.out, if_neg h64])
    go_enter Try.func78, Try.ntmps78
    go_wp2_with fail
    refine (HBW.out _ HS.out).mono ?_
    rintro e w2 ⟨sa, sc, rfl, hs2, f2⟩
    have fw2 := f0.trans f2
    have bC2 := f2.heap bC id
    have bR2 := f2.heap bR id
    clear qC zC
    obtain ⟨qC, zC⟩ := box_facts bC2
    have HS2 := Lib.hid hs2
    clear hs2
    obtain ⟨qR, zR⟩ := box_facts bR2
    go_wp2_with fail
    refine bodyPost_ret (v := .agg (resCells (0, 0, [], L, r0, r0, false) (.slice none 0 0) (.slice sa L.length sc)).toArray) (by simp [results, Try.results78, go_sem, set15_cell bR2, resCells, refCells, r0]) rfl ⟨_, rfl, ?_, ?_⟩
    · rw [HA.out]
      have hfr := set15_fr w2 (C + 1) (.int .i64 0) (.int .u64 0) (.slice none 0 0) (.slice sa L.length sc) (.int .i64 0) (.int .i64 0) (.int .u64 0) (.int .i64 0) (.int .u64 0) (.int .i64 0) (.int .i64 0) (.int .u64 0) (.int .i64 0) (.int .u64 0) (.bool false)
      refine ⟨_, _, rfl, .inl ⟨rfl, rfl⟩, (HS2.out.frame hfr (fun b hb h e => ?_)).mono (fun b _ hb => ?_), by simp, by simp only; omega, by simp⟩
      · have := HCC.out
        rcases h with h | h
        · have := h.2; omega
        · simp only [World.size_alloc] at h; omega
      · rcases hb with h | h
        · exact .inl h.1
        · simp only [World.size_alloc] at h; exact .inr (by omega)
    · exact fw2.trans2 (set15_fr _ (C + 1) _ _ _ _ _ _ _ _ _ _ _ _ _ _ _) (fun b hb e => by have := HCC.out; omega)

set_option maxRecDepth 100000 in
set_option maxHeartbeats 2000000 in
theorem asked4 {S : Nat → Prop} {w : World} {v : Value} {l : List MItem} (h0 : Sl kItem S w v l) (hl : l.length ≤ 100000) (key high : Int) {ca : Option Addr} {cc : Nat} {bs : List UInt8} :
    Calls Try.prog 78 #[v, .agg #[.int .i64 4, .int .u64 key, .int .u64 high, .slice ca bs.length cc]] w fun e w' => ∃ y, e = .returned y ∧ ResS (fun b => S b ∨ w.heap.size ≤ b) w' y (mAsked l (4, key, high, bs)) ∧ Fr Non w w' := by
  have hrb : (100000 : Nat) * 32 ≤ reachBytes := by decide
  have h : Sl kItem (fun b => S b ∧ b < w.heap.size) w v l := h0.mono fun _ hb h => ⟨h, hb⟩
  obtain ⟨va, vn, rfl, _, hm, _⟩ := h0.frm
  have f0 : Fr Non w ((w.alloc (.cells #[.int .i64 4, .int .u64 key, .int .u64 high, .slice ca bs.length cc] 39)).alloc (.cells #[.int .i64 0, .int .u64 0, .slice none 0 0, .slice none 0 0, .int .i64 0, .int .i64 0, .int .u64 0, .int .i64 0, .int .u64 0, .int .i64 0, .int .i64 0, .int .u64 0, .int .i64 0, .int .u64 0, .bool false] 52)) := ((Fr.refl _ _).alloc _).alloc _
  have bC := alloc_at2 w (.cells #[.int .i64 4, .int .u64 key, .int .u64 high, .slice ca bs.length cc] 39) (.cells #[.int .i64 0, .int .u64 0, .slice none 0 0, .slice none 0 0, .int .i64 0, .int .i64 0, .int .u64 0, .int .i64 0, .int .u64 0, .int .i64 0, .int .i64 0, .int .u64 0, .int .i64 0, .int .u64 0, .bool false] 52)
  have bR := alloc_at2' w (.cells #[.int .i64 4, .int .u64 key, .int .u64 high, .slice ca bs.length cc] 39) (.cells #[.int .i64 0, .int .u64 0, .slice none 0 0, .slice none 0 0, .int .i64 0, .int .i64 0, .int .u64 0, .int .i64 0, .int .u64 0, .int .i64 0, .int .i64 0, .int .u64 0, .int .i64 0, .int .u64 0, .bool false] 52)
  have HS := Lib.hid (h.stay f0)
  obtain ⟨C, hC⟩ : ∃ C, w.heap.size = C := ⟨_, rfl⟩
  have HCC := Lib.hid hC
  rw [hC] at bC bR
  obtain ⟨qC, zC⟩ := box_facts bC
  have hbw := fun (w : World) (h : Sl kItem (fun b => S b ∧ b < C) w (.slice va l.length vn) l) => between_any h (by omega) key 18446744073709551615
  obtain ⟨L, hL⟩ : ∃ L, mBetween key 18446744073709551615 l = L := ⟨_, rfl⟩
  have hLl := mBetween_len key 18446744073709551615 l
  rw [hL] at hbw hLl
  have HL := Lib.hid (show mBetween (4, key, high, bs).2.1 (mHigh (4, key, high, bs)) l = L by rw [← hL]; rfl)
  have HBW := Lib.hid hbw
  rw [hC] at HS
  clear hbw hL h h0

  cases L with
  | nil =>
    have HA := Lib.hid (show mAsked l (4, key, high, bs) = mErr 101 by unfold mAsked; rw [if_neg (by simp), HL.out])
    go_enter Try.func78, Try.ntmps78
    go_wp2_with fail
    refine (HBW.out _ HS.out).mono ?_
    rintro e w2 ⟨sa, sc, rfl, hs2, f2⟩
    have fw2 := f0.trans f2
    have bC2 := f2.heap bC id
    have bR2 := f2.heap bR id
    clear qC zC
    obtain ⟨qC, zC⟩ := box_facts bC2
    simp only [List.length_nil]
    go_wp2_with fail
    refine (err_any _ 101).mono ?_
    rintro e w4 ⟨rfl, f4⟩
    simp only [resCells, refCells, mErr, r0, List.cons_append, List.nil_append]
    have fw4 := fw2.trans f4
    have bR4 := f4.heap bR2 id
    obtain ⟨qR, zR⟩ := box_facts bR4
    go_wp2_with fail
    refine bodyPost_ret (v := .agg (resCells (mErr 101) (.slice none 0 0) (.slice none 0 0)).toArray) (by simp [results, Try.results78, go_sem, set15_cell bR4, resCells, refCells, mErr, r0]) rfl ⟨_, rfl, ?_, ?_⟩
    · rw [HA.out]
      exact ResS.err 101
    · exact fw4.trans2 (set15_fr _ (C + 1) _ _ _ _ _ _ _ _ _ _ _ _ _ _ _) (fun b hb e => by have := HCC.out; omega)
  | cons x L =>
    have HA := Lib.hid (show mAsked l (4, key, high, bs) = (0, x.1, x.2, [], r0, r0, true) by unfold mAsked; rw [if_neg (by simp), HL.out])
    have n0 : ¬ (((x :: L).length : Int) = 0) := by simp only [List.length_cons]; omega
    have n1 : (((x :: L).length : Int) == 0) = false := beq_eq_false_iff_ne.2 n0
    go_enter Try.func78, Try.ntmps78
    go_wp2_with fail
    refine (HBW.out _ HS.out).mono ?_
    rintro e w2 ⟨sa, sc, rfl, hs2, f2⟩
    have fw2 := f0.trans f2
    have bC2 := f2.heap bC id
    have bR2 := f2.heap bR id
    clear qC zC
    obtain ⟨qC, zC⟩ := box_facts bC2
    obtain ⟨B, O, u, rfl, _, _, c0, c1, hu, hul, k0, k1⟩ := item_at hs2 0 (by simp)
    simp only [Nat.zero_mul, Nat.add_zero, List.getElem_cons_zero] at c0 c1 hu hul k0 k1
    obtain ⟨ua, uc, rfl, _⟩ := hu.frm
    have HU := Lib.hid hu
    have HKK := Lib.hid (And.intro k0 k1)
    have hlen : (0 : Int) < ((x :: L).length : Int) := by simp only [List.length_cons]; omega
    obtain ⟨n, hn⟩ : ∃ n, (x :: L).length = n := ⟨_, rfl⟩
    rw [hn] at n0 n1 hlen ⊢
    have hlen2 : 0 < n := by omega
    clear hn hs2 hu k0 k1
    go_wp2_with fail
    refine wp_draw [((fun y => y = w2.drew), [(.free, 0), (.free, 1), (.free, 2), (.held, 3), (.free, 4), (.free, 5), (.free, 6), (.held, 7), (.free, 8)])] 9 (by kernel_rfl) (by kernel_rfl) (fun _ _ _ _ _ h => h) ⟨rfl, ?_⟩
    repeat (first
      | (refine' wpPlan_free (v := _) rfl (by rfl) ?_ ?_
         rotate_left
         · (intro w'; go_simp; try rfl)
         simp only [List.getElem_toArray, List.getElem_cons_zero, List.getElem_cons_succ, Act.put, List.setIfInBounds_toArray, List.set_cons_zero, List.set_cons_succ])
      | (refine' wpPlan_held (v := _) rfl (by rfl) ?_ ?_
         rotate_left
         · (intro w' hS; subst hS; go_simp; try rfl)
         simp only [List.getElem_toArray, List.getElem_cons_zero, List.getElem_cons_succ, Act.put, List.setIfInBounds_toArray, List.set_cons_zero, List.set_cons_succ])
      | (refine' wpPlan_skip rfl (by rfl) ?_
         simp only [List.getElem_toArray, List.getElem_cons_zero, List.getElem_cons_succ, Act.put, List.setIfInBounds_toArray, List.set_cons_zero, List.set_cons_succ])
      | (refine' wpPlan_skipHeld rfl (by rfl) ?_
         simp only [List.getElem_toArray, List.getElem_cons_zero, List.getElem_cons_succ, Act.put, List.setIfInBounds_toArray, List.set_cons_zero, List.set_cons_succ]))
    repeat (first
      | (refine' wpPlan_free (v := _) rfl (by rfl) ?_ ?_
         rotate_left
         · (intro w'; go_simp; try rfl)
         simp only [List.getElem_toArray, List.getElem_cons_zero, List.getElem_cons_succ, Act.put, List.setIfInBounds_toArray, List.set_cons_zero, List.set_cons_succ])
      | (refine' wpPlan_held (v := _) rfl (by rfl) ?_ ?_
         rotate_left
         · (intro w' hS; go_simp; try rfl)
         simp only [List.getElem_toArray, List.getElem_cons_zero, List.getElem_cons_succ, Act.put, List.setIfInBounds_toArray, List.set_cons_zero, List.set_cons_succ])
      | (refine' wpPlan_skip rfl (by rfl) ?_
         simp only [List.getElem_toArray, List.getElem_cons_zero, List.getElem_cons_succ, Act.put, List.setIfInBounds_toArray, List.set_cons_zero, List.set_cons_succ])
      | (refine' wpPlan_skipHeld rfl (by rfl) ?_
         simp only [List.getElem_toArray, List.getElem_cons_zero, List.getElem_cons_succ, Act.put, List.setIfInBounds_toArray, List.set_cons_zero, List.set_cons_succ]))
    refine wpPlan_end ?_
    simp only [wpSegs, List.drop_succ_cons, List.drop_zero]
    have bRd : w2.drew.heap[C + 1]? = some (.cells (#[.int .i64 0, .int .u64 0, .slice none 0 0, .slice none 0 0, .int .i64 0, .int .i64 0, .int .u64 0, .int .i64 0, .int .u64 0, .int .i64 0, .int .i64 0, .int .u64 0, .int .i64 0, .int .u64 0, .bool false] : Array Value) 52 (0, 0)) := bR2
    have HUd := Lib.hid (HU.out.stay ((Fr.refl Non w2).drew))
    have fwd := fw2.drew
    clear qC zC bC2 bR2 fw2 HU
    generalize w2.drew = wd at bRd HUd fwd ⊢
    obtain ⟨qR, zR⟩ := box_facts bRd
    go_wp2_with fail
    refine bodyPost_ret (v := .agg (resCells (0, x.1, x.2, [], r0, r0, true) (.slice ua x.2.length uc) (.slice none 0 0)).toArray) (by simp [results, Try.results78, go_sem, set15_cell bRd, resCells, refCells, r0]) rfl ⟨_, rfl, ?_, ?_⟩
    · rw [HA.out]
      have hfr := set15_fr wd (C + 1) (.int .i64 0) (.int .u64 x.1) (.slice ua x.2.length uc) (.slice none 0 0) (.int .i64 0) (.int .i64 0) (.int .u64 0) (.int .i64 0) (.int .u64 0) (.int .i64 0) (.int .i64 0) (.int .u64 0) (.int .i64 0) (.int .u64 0) (.bool true)
      refine ⟨_, _, rfl, (HUd.out.frame hfr (fun b hb h e => ?_)).mono (fun b _ hb => ?_), .inl ⟨rfl, rfl⟩, hul, by simp, HKK.out⟩
      · have := HCC.out
        rcases h with h | h
        · have := h.2; omega
        · simp only [World.size_alloc] at h; omega
      · rcases hb with h | h
        · exact .inl h.1
        · simp only [World.size_alloc] at h; exact .inr (by omega)
    · exact fwd.trans2 (set15_fr _ (C + 1) _ _ _ _ _ _ _ _ _ _ _ _ _ _ _) (fun b hb e => by have := HCC.out; omega)

set_option maxRecDepth 100000 in
set_option maxHeartbeats 2000000 in
theorem askedO {S : Nat → Prop} {w : World} {v : Value} {l : List MItem} (h0 : Sl kItem S w v l) (hl : l.length ≤ 100000) (k key high : Int) {ca : Option Addr} {cc : Nat} {bs : List UInt8} (n4 : ¬ k = 4) (n5 : ¬ k = 5) :
    Calls Try.prog 78 #[v, .agg #[.int .i64 k, .int .u64 key, .int .u64 high, .slice ca bs.length cc]] w fun e w' => ∃ y, e = .returned y ∧ ResS (fun b => S b ∨ w.heap.size ≤ b) w' y (mAsked l (k, key, high, bs)) ∧ Fr Non w w' := by
  have hrb : (100000 : Nat) * 32 ≤ reachBytes := by decide
  have h : Sl kItem (fun b => S b ∧ b < w.heap.size) w v l := h0.mono fun _ hb h => ⟨h, hb⟩
  obtain ⟨va, vn, rfl, _, hm, _⟩ := h0.frm
  have f0 : Fr Non w ((w.alloc (.cells #[.int .i64 k, .int .u64 key, .int .u64 high, .slice ca bs.length cc] 39)).alloc (.cells #[.int .i64 0, .int .u64 0, .slice none 0 0, .slice none 0 0, .int .i64 0, .int .i64 0, .int .u64 0, .int .i64 0, .int .u64 0, .int .i64 0, .int .i64 0, .int .u64 0, .int .i64 0, .int .u64 0, .bool false] 52)) := ((Fr.refl _ _).alloc _).alloc _
  have bC := alloc_at2 w (.cells #[.int .i64 k, .int .u64 key, .int .u64 high, .slice ca bs.length cc] 39) (.cells #[.int .i64 0, .int .u64 0, .slice none 0 0, .slice none 0 0, .int .i64 0, .int .i64 0, .int .u64 0, .int .i64 0, .int .u64 0, .int .i64 0, .int .i64 0, .int .u64 0, .int .i64 0, .int .u64 0, .bool false] 52)
  have bR := alloc_at2' w (.cells #[.int .i64 k, .int .u64 key, .int .u64 high, .slice ca bs.length cc] 39) (.cells #[.int .i64 0, .int .u64 0, .slice none 0 0, .slice none 0 0, .int .i64 0, .int .i64 0, .int .u64 0, .int .i64 0, .int .u64 0, .int .i64 0, .int .i64 0, .int .u64 0, .int .i64 0, .int .u64 0, .bool false] 52)
  have HS := Lib.hid (h.stay f0)
  obtain ⟨C, hC⟩ : ∃ C, w.heap.size = C := ⟨_, rfl⟩
  have HCC := Lib.hid hC
  rw [hC] at bC bR
  obtain ⟨qC, zC⟩ := box_facts bC
  have hbw := fun (w : World) (h : Sl kItem (fun b => S b ∧ b < C) w (.slice va l.length vn) l) => between_any h (by omega) key key
  obtain ⟨L, hL⟩ : ∃ L, mBetween key key l = L := ⟨_, rfl⟩
  have hLl := mBetween_len key key l
  rw [hL] at hbw hLl
  have HL := Lib.hid (show mBetween (k, key, high, bs).2.1 (mHigh (k, key, high, bs)) l = L by rw [← hL]; simp [mHigh, n4, n5])
  have HBW := Lib.hid hbw
  rw [hC] at HS
  clear hbw hL h h0
  have m4 : (k == 4) = false := beq_eq_false_iff_ne.2 n4
  have m5 : (k == 5) = false := beq_eq_false_iff_ne.2 n5
  cases L with
  | nil =>
    have HA := Lib.hid (show mAsked l (k, key, high, bs) = mErr 101 by unfold mAsked; rw [if_neg (by simp [n5]), HL.out])
    go_enter Try.func78, Try.ntmps78
    go_wp2_with fail
    refine (HBW.out _ HS.out).mono ?_
    rintro e w2 ⟨sa, sc, rfl, hs2, f2⟩
    have fw2 := f0.trans f2
    have bC2 := f2.heap bC id
    have bR2 := f2.heap bR id
    clear qC zC
    obtain ⟨qC, zC⟩ := box_facts bC2
    simp only [List.length_nil]
    go_wp2_with fail
    refine (err_any _ 101).mono ?_
    rintro e w4 ⟨rfl, f4⟩
    simp only [resCells, refCells, mErr, r0, List.cons_append, List.nil_append]
    have fw4 := fw2.trans f4
    have bR4 := f4.heap bR2 id
    obtain ⟨qR, zR⟩ := box_facts bR4
    go_wp2_with fail
    refine bodyPost_ret (v := .agg (resCells (mErr 101) (.slice none 0 0) (.slice none 0 0)).toArray) (by simp [results, Try.results78, go_sem, set15_cell bR4, resCells, refCells, mErr, r0]) rfl ⟨_, rfl, ?_, ?_⟩
    · rw [HA.out]
      exact ResS.err 101
    · exact fw4.trans2 (set15_fr _ (C + 1) _ _ _ _ _ _ _ _ _ _ _ _ _ _ _) (fun b hb e => by have := HCC.out; omega)
  | cons x L =>
    have HA := Lib.hid (show mAsked l (k, key, high, bs) = (0, x.1, x.2, [], r0, r0, true) by unfold mAsked; rw [if_neg (by simp [n5]), HL.out])
    have n0 : ¬ (((x :: L).length : Int) = 0) := by simp only [List.length_cons]; omega
    have n1 : (((x :: L).length : Int) == 0) = false := beq_eq_false_iff_ne.2 n0
    go_enter Try.func78, Try.ntmps78
    go_wp2_with fail
    refine (HBW.out _ HS.out).mono ?_
    rintro e w2 ⟨sa, sc, rfl, hs2, f2⟩
    have fw2 := f0.trans f2
    have bC2 := f2.heap bC id
    have bR2 := f2.heap bR id
    clear qC zC
    obtain ⟨qC, zC⟩ := box_facts bC2
    obtain ⟨B, O, u, rfl, _, _, c0, c1, hu, hul, k0, k1⟩ := item_at hs2 0 (by simp)
    simp only [Nat.zero_mul, Nat.add_zero, List.getElem_cons_zero] at c0 c1 hu hul k0 k1
    obtain ⟨ua, uc, rfl, _⟩ := hu.frm
    have HU := Lib.hid hu
    have HKK := Lib.hid (And.intro k0 k1)
    have hlen : (0 : Int) < ((x :: L).length : Int) := by simp only [List.length_cons]; omega
    obtain ⟨n, hn⟩ : ∃ n, (x :: L).length = n := ⟨_, rfl⟩
    rw [hn] at n0 n1 hlen ⊢
    have hlen2 : 0 < n := by omega
    clear hn hs2 hu k0 k1
    go_wp2_with fail
    refine wp_draw [((fun y => y = w2.drew), [(.free, 0), (.free, 1), (.free, 2), (.held, 3), (.free, 4), (.free, 5), (.free, 6), (.held, 7), (.free, 8)])] 9 (by kernel_rfl) (by kernel_rfl) (fun _ _ _ _ _ h => h) ⟨rfl, ?_⟩
    repeat (first
      | (refine' wpPlan_free (v := _) rfl (by rfl) ?_ ?_
         rotate_left
         · (intro w'; go_simp; try rfl)
         simp only [List.getElem_toArray, List.getElem_cons_zero, List.getElem_cons_succ, Act.put, List.setIfInBounds_toArray, List.set_cons_zero, List.set_cons_succ])
      | (refine' wpPlan_held (v := _) rfl (by rfl) ?_ ?_
         rotate_left
         · (intro w' hS; subst hS; go_simp; try rfl)
         simp only [List.getElem_toArray, List.getElem_cons_zero, List.getElem_cons_succ, Act.put, List.setIfInBounds_toArray, List.set_cons_zero, List.set_cons_succ])
      | (refine' wpPlan_skip rfl (by rfl) ?_
         simp only [List.getElem_toArray, List.getElem_cons_zero, List.getElem_cons_succ, Act.put, List.setIfInBounds_toArray, List.set_cons_zero, List.set_cons_succ])
      | (refine' wpPlan_skipHeld rfl (by rfl) ?_
         simp only [List.getElem_toArray, List.getElem_cons_zero, List.getElem_cons_succ, Act.put, List.setIfInBounds_toArray, List.set_cons_zero, List.set_cons_succ]))
    repeat (first
      | (refine' wpPlan_free (v := _) rfl (by rfl) ?_ ?_
         rotate_left
         · (intro w'; go_simp; try rfl)
         simp only [List.getElem_toArray, List.getElem_cons_zero, List.getElem_cons_succ, Act.put, List.setIfInBounds_toArray, List.set_cons_zero, List.set_cons_succ])
      | (refine' wpPlan_held (v := _) rfl (by rfl) ?_ ?_
         rotate_left
         · (intro w' hS; go_simp; try rfl)
         simp only [List.getElem_toArray, List.getElem_cons_zero, List.getElem_cons_succ, Act.put, List.setIfInBounds_toArray, List.set_cons_zero, List.set_cons_succ])
      | (refine' wpPlan_skip rfl (by rfl) ?_
         simp only [List.getElem_toArray, List.getElem_cons_zero, List.getElem_cons_succ, Act.put, List.setIfInBounds_toArray, List.set_cons_zero, List.set_cons_succ])
      | (refine' wpPlan_skipHeld rfl (by rfl) ?_
         simp only [List.getElem_toArray, List.getElem_cons_zero, List.getElem_cons_succ, Act.put, List.setIfInBounds_toArray, List.set_cons_zero, List.set_cons_succ]))
    refine wpPlan_end ?_
    simp only [wpSegs, List.drop_succ_cons, List.drop_zero]
    have bRd : w2.drew.heap[C + 1]? = some (.cells (#[.int .i64 0, .int .u64 0, .slice none 0 0, .slice none 0 0, .int .i64 0, .int .i64 0, .int .u64 0, .int .i64 0, .int .u64 0, .int .i64 0, .int .i64 0, .int .u64 0, .int .i64 0, .int .u64 0, .bool false] : Array Value) 52 (0, 0)) := bR2
    have HUd := Lib.hid (HU.out.stay ((Fr.refl Non w2).drew))
    have fwd := fw2.drew
    clear qC zC bC2 bR2 fw2 HU
    generalize w2.drew = wd at bRd HUd fwd ⊢
    obtain ⟨qR, zR⟩ := box_facts bRd
    go_wp2_with fail
    refine bodyPost_ret (v := .agg (resCells (0, x.1, x.2, [], r0, r0, true) (.slice ua x.2.length uc) (.slice none 0 0)).toArray) (by simp [results, Try.results78, go_sem, set15_cell bRd, resCells, refCells, r0]) rfl ⟨_, rfl, ?_, ?_⟩
    · rw [HA.out]
      have hfr := set15_fr wd (C + 1) (.int .i64 0) (.int .u64 x.1) (.slice ua x.2.length uc) (.slice none 0 0) (.int .i64 0) (.int .i64 0) (.int .u64 0) (.int .i64 0) (.int .u64 0) (.int .i64 0) (.int .i64 0) (.int .u64 0) (.int .i64 0) (.int .u64 0) (.bool true)
      refine ⟨_, _, rfl, (HUd.out.frame hfr (fun b hb h e => ?_)).mono (fun b _ hb => ?_), .inl ⟨rfl, rfl⟩, hul, by simp, HKK.out⟩
      · have := HCC.out
        rcases h with h | h
        · have := h.2; omega
        · simp only [World.size_alloc] at h; omega
      · rcases hb with h | h
        · exact .inl h.1
        · simp only [World.size_alloc] at h; exact .inr (by omega)
    · exact fwd.trans2 (set15_fr _ (C + 1) _ _ _ _ _ _ _ _ _ _ _ _ _ _ _) (fun b hb e => by have := HCC.out; omega)

theorem mDo_err {l : List MItem} (h : ¬ mOk none l = true) {c : MCall} : mDo l c = ([], mErr 0, 103) := by unfold mDo; rw [if_neg h]
theorem mDo_call {l : List MItem} (h : mOk none l = true) {c : MCall} (hc : ¬ mCallOk c = true) : mDo l c = ([], mErr 0, 104) := by unfold mDo; rw [if_pos h, if_neg hc]
theorem mDo_ok {l : List MItem} (h : mOk none l = true) {c : MCall} (hc : mCallOk c = true) : mDo l c = ((mDone l c).1, (mDone l c).2, 0) := by unfold mDo; rw [if_pos h, if_pos hc]

set_option maxRecDepth 100000 in
set_option maxHeartbeats 2000000 in
theorem rdo_no {S : Nat → Prop} {w : World} {v : Value} {l : List MItem} (h0 : Sl kItem S w v l) (hl : l.length ≤ 80000) (k : Int) (key high : Int) {ca : Option Addr} {cc : Nat} {bs : List UInt8} (hv0 : Sl kByte S w (.slice ca bs.length cc) bs) (hk : 0 ≤ key ∧ key ≤ 18446744073709551615) (hno : ¬ (mOk none l = true ∧ mCallOk (k, key, high, bs) = true)) :
    Calls Try.prog 39 #[v, .agg #[.int .i64 k, .int .u64 key, .int .u64 high, .slice ca bs.length cc]] w fun e w' =>
      ∃ x y, e = .returned (.tuple #[x, y, .int .i64 (mDo l (k, key, high, bs)).2.2]) ∧ Sl kItem (fun b => S b ∨ w.heap.size ≤ b) w' x (mDo l (k, key, high, bs)).1 ∧ ResS (fun b => S b ∨ w.heap.size ≤ b) w' y (mDo l (k, key, high, bs)).2.1 ∧ Fr Non w w' := by
  have _ := hl
  have _ := hk
  have hrb : (80000 : Nat) * 32 ≤ reachBytes := by decide
  have hrb2 : (1024 : Nat) ≤ reachBytes := by decide
  have h : Sl kItem (fun b => S b ∧ b < w.heap.size) w v l := h0.mono fun _ hb h => ⟨h, hb⟩
  have hv : Sl kByte (fun b => S b ∧ b < w.heap.size) w (.slice ca bs.length cc) bs := hv0.mono fun _ hb h => ⟨h, hb⟩
  obtain ⟨va, vn, rfl, _, hm, _⟩ := h0.frm
  have f0 : Fr Non w ((w.alloc (.cells #[.int .i64 k, .int .u64 key, .int .u64 high, .slice ca bs.length cc] 39)).alloc (.cells #[.int .i64 0, .int .u64 0, .slice none 0 0, .slice none 0 0, .int .i64 0, .int .i64 0, .int .u64 0, .int .i64 0, .int .u64 0, .int .i64 0, .int .i64 0, .int .u64 0, .int .i64 0, .int .u64 0, .bool false] 52)) := ((Fr.refl _ _).alloc _).alloc _
  have bC := alloc_at2 w (.cells #[.int .i64 k, .int .u64 key, .int .u64 high, .slice ca bs.length cc] 39) (.cells #[.int .i64 0, .int .u64 0, .slice none 0 0, .slice none 0 0, .int .i64 0, .int .i64 0, .int .u64 0, .int .i64 0, .int .u64 0, .int .i64 0, .int .i64 0, .int .u64 0, .int .i64 0, .int .u64 0, .bool false] 52)
  have bR := alloc_at2' w (.cells #[.int .i64 k, .int .u64 key, .int .u64 high, .slice ca bs.length cc] 39) (.cells #[.int .i64 0, .int .u64 0, .slice none 0 0, .slice none 0 0, .int .i64 0, .int .i64 0, .int .u64 0, .int .i64 0, .int .u64 0, .int .i64 0, .int .i64 0, .int .u64 0, .int .i64 0, .int .u64 0, .bool false] 52)
  have HS := Lib.hid (h.stay f0)
  obtain ⟨C, hC⟩ : ∃ C, w.heap.size = C := ⟨_, rfl⟩
  have HCC := Lib.hid hC
  rw [hC] at bC bR
  obtain ⟨qC, zC⟩ := box_facts bC
  have HV := Lib.hid (hv.stay f0)
  rw [hC] at HS HV
  clear h h0 hv hv0 qC zC
  have hck := fun (w : World) (h : Sl kItem (fun b => S b ∧ b < C) w (.slice va l.length vn) l) => rcheck_any h.all
  by_cases hok : mOk none l = true
  rotate_left
  · have hchk : mCheck l = 103 := if_neg hok
    rw [mDo_err hok]
    rw [hchk] at hck
    have HC := Lib.hid hck
    clear hck hchk hok hno
    go_enter Try.func39, Try.ntmps39
    go_wp2_with fail
    refine (HC.out _ HS.out).mono ?_
    rintro e w1 ⟨rfl, f1⟩
    have fw := f0.trans f1
    have bR9 := f1.heap bR id
    obtain ⟨qR, zR⟩ := box_facts bR9
    go_wp2_with fail
    refine bodyPost_ret (v := .tuple #[.slice none 0 0, .agg (resCells (mErr 0) (.slice none 0 0) (.slice none 0 0)).toArray, .int .i64 103]) (by simp [results, Try.results39, go_sem, set15_cell bR9, resCells, refCells, mErr, r0]) rfl ⟨_, _, rfl, .inl ⟨rfl, rfl⟩, ResS.err 0, ?_⟩
    exact fw.trans2 (set15_fr _ (C + 1) _ _ _ _ _ _ _ _ _ _ _ _ _ _ _) (fun b hb e => by have := HCC.out; omega)
  have hco : ¬ mCallOk (k, key, high, bs) = true := fun e => hno ⟨hok, e⟩
  have hchk : mCheck l = 0 := if_pos hok
  rw [hchk] at hck
  have HC := Lib.hid hck
  have hca := fun w => rcall_any w (k, key, high, bs) ca cc
  simp only at hca
  have hcall : mCall (k, key, high, bs) = 104 := if_neg hco
  rw [hcall] at hca
  have HCA := Lib.hid hca
  rw [mDo_call hok hco]
  clear hca hcall hok hco hck hchk hno
  go_enter Try.func39, Try.ntmps39
  go_wp2_with fail
  refine (HC.out _ HS.out).mono ?_
  rintro e w1 ⟨rfl, f1⟩
  obtain ⟨qC, zC⟩ := f1.box bC id
  go_wp2_with fail
  refine (HCA.out _).mono ?_
  rintro e w2 ⟨rfl, f2⟩
  have fw := (f0.trans f1).trans f2
  have bR9 := (f1.trans f2).heap bR id
  obtain ⟨qR, zR⟩ := box_facts bR9
  go_wp2_with fail
  refine bodyPost_ret (v := .tuple #[.slice none 0 0, .agg (resCells (mErr 0) (.slice none 0 0) (.slice none 0 0)).toArray, .int .i64 104]) (by simp [results, Try.results39, go_sem, set15_cell bR9, resCells, refCells, mErr, r0]) rfl ⟨_, _, rfl, .inl ⟨rfl, rfl⟩, ResS.err 0, ?_⟩
  exact fw.trans2 (set15_fr _ (C + 1) _ _ _ _ _ _ _ _ _ _ _ _ _ _ _) (fun b hb e => by have := HCC.out; omega)

set_option maxRecDepth 100000 in
set_option maxHeartbeats 2000000 in
theorem rdo1t {S : Nat → Prop} {w : World} {v : Value} {l : List MItem} (h0 : Sl kItem S w v l) (hl : l.length ≤ 80000) (key high : Int) {ca : Option Addr} {cc : Nat} {bs : List UInt8} (hv0 : Sl kByte S w (.slice ca bs.length cc) bs) (hk : 0 ≤ key ∧ key ≤ 18446744073709551615) (hok : mOk none l = true) (hco : mCallOk (1, key, high, bs) = true) (ht : (mKey key l).isSome = true) :
    Calls Try.prog 39 #[v, .agg #[.int .i64 1, .int .u64 key, .int .u64 high, .slice ca bs.length cc]] w fun e w' =>
      ∃ x y, e = .returned (.tuple #[x, y, .int .i64 (mDo l (1, key, high, bs)).2.2]) ∧ Sl kItem (fun b => S b ∨ w.heap.size ≤ b) w' x (mDo l (1, key, high, bs)).1 ∧ ResS (fun b => S b ∨ w.heap.size ≤ b) w' y (mDo l (1, key, high, bs)).2.1 ∧ Fr Non w w' := by
  have _ := hl
  have _ := hk
  have hrb : (80000 : Nat) * 32 ≤ reachBytes := by decide
  have hrb2 : (1024 : Nat) ≤ reachBytes := by decide
  have h : Sl kItem (fun b => S b ∧ b < w.heap.size) w v l := h0.mono fun _ hb h => ⟨h, hb⟩
  have hv : Sl kByte (fun b => S b ∧ b < w.heap.size) w (.slice ca bs.length cc) bs := hv0.mono fun _ hb h => ⟨h, hb⟩
  obtain ⟨va, vn, rfl, _, hm, _⟩ := h0.frm
  have f0 : Fr Non w ((w.alloc (.cells #[.int .i64 1, .int .u64 key, .int .u64 high, .slice ca bs.length cc] 39)).alloc (.cells #[.int .i64 0, .int .u64 0, .slice none 0 0, .slice none 0 0, .int .i64 0, .int .i64 0, .int .u64 0, .int .i64 0, .int .u64 0, .int .i64 0, .int .i64 0, .int .u64 0, .int .i64 0, .int .u64 0, .bool false] 52)) := ((Fr.refl _ _).alloc _).alloc _
  have bC := alloc_at2 w (.cells #[.int .i64 1, .int .u64 key, .int .u64 high, .slice ca bs.length cc] 39) (.cells #[.int .i64 0, .int .u64 0, .slice none 0 0, .slice none 0 0, .int .i64 0, .int .i64 0, .int .u64 0, .int .i64 0, .int .u64 0, .int .i64 0, .int .i64 0, .int .u64 0, .int .i64 0, .int .u64 0, .bool false] 52)
  have bR := alloc_at2' w (.cells #[.int .i64 1, .int .u64 key, .int .u64 high, .slice ca bs.length cc] 39) (.cells #[.int .i64 0, .int .u64 0, .slice none 0 0, .slice none 0 0, .int .i64 0, .int .i64 0, .int .u64 0, .int .i64 0, .int .u64 0, .int .i64 0, .int .i64 0, .int .u64 0, .int .i64 0, .int .u64 0, .bool false] 52)
  have HS := Lib.hid (h.stay f0)
  obtain ⟨C, hC⟩ : ∃ C, w.heap.size = C := ⟨_, rfl⟩
  have HCC := Lib.hid hC
  rw [hC] at bC bR
  obtain ⟨qC, zC⟩ := box_facts bC
  have HV := Lib.hid (hv.stay f0)
  rw [hC] at HS HV
  clear h h0 hv hv0 qC zC
  have hck := fun (w : World) (h : Sl kItem (fun b => S b ∧ b < C) w (.slice va l.length vn) l) => rcheck_any h.all
  have hchk : mCheck l = 0 := if_pos hok
  rw [hchk] at hck
  have HC := Lib.hid hck
  clear hck hchk
  have hca := fun w => rcall_any w (1, key, high, bs) ca cc
  simp only at hca
  have hcall : mCall (1, key, high, bs) = 0 := if_pos hco
  rw [hcall] at hca
  have HCA := Lib.hid hca
  rw [mDo_ok hok hco]
  have HBL : Hid (bs.length ≤ reachBytes) := Lib.hid (by
    simp [mCallOk] at hco
    omega)
  obtain ⟨B, hBk⟩ : ∃ B, (mKey key l).getD [] = B := ⟨_, rfl⟩
  have hkey := fun (w : World) (h : Sl kItem (fun b => S b ∧ b < C) w (.slice va l.length vn) l) => rkey_any h.all key
  rw [ht, hBk] at hkey
  have HKY := Lib.hid hkey
  have HT := Lib.hid ht
  clear hca hcall hok hco ht hBk hkey
  go_enter Try.func39, Try.ntmps39
  go_wp2_with fail
  refine (HC.out _ HS.out).mono ?_
  rintro e w1 ⟨rfl, f1⟩
  obtain ⟨qC, zC⟩ := f1.box bC id
  go_wp2_with fail
  refine (HCA.out _).mono ?_
  rintro e w2 ⟨rfl, f2⟩
  have f12 := f1.trans f2
  have bC2 := f12.heap bC id
  have bR2 := f12.heap bR id
  clear qC zC
  obtain ⟨qC, zC⟩ := box_facts bC2
  go_wp2_with fail
  refine (HKY.out _ (HS.out.stay f12)).mono ?_
  rintro e w3 ⟨ua, uc, rfl, _, f3⟩
  have f13 := f12.trans f3
  have fw3 := f0.trans f13
  have HS3 := Lib.hid (HS.out.stay f13)
  have HV3 := Lib.hid (HV.out.stay f13)
  have bC3 := f3.heap bC2 id
  have bR3 := f3.heap bR2 id
  clear qC zC bC2 bR2 f1 f2 f3 f13
  obtain ⟨qC, zC⟩ := box_facts bC3
  have HD := Lib.hid (show mDone l (1, key, high, bs) = (l, mErr 100) by simp [mDone, HT.out])
  go_wp2_with fail
  refine (err_any _ 100).mono ?_
  rintro e w4 ⟨rfl, f4⟩
  simp only [resCells, refCells, mErr, r0, List.cons_append, List.nil_append]
  have fw4 := fw3.trans f4
  have bR4 := f4.heap bR3 id
  obtain ⟨qR, zR⟩ := box_facts bR4
  go_wp2_with fail
  refine bodyPost_ret (v := .tuple #[.slice va l.length vn, .agg (resCells (mErr 100) (.slice none 0 0) (.slice none 0 0)).toArray, .int .i64 0]) (by simp [results, Try.results39, go_sem, set15_cell bR4, resCells, refCells, mErr, r0]) rfl ⟨_, _, rfl, ?_, ?_, ?_⟩
  · rw [HD.out]
    refine ((HS3.out.stay f4).frame (set15_fr _ (C + 1) _ _ _ _ _ _ _ _ _ _ _ _ _ _ _) (fun b hb h e => ?_)).mono (fun b _ hb => ?_)
    · have := HCC.out
      have := h.2; omega
    · exact .inl hb.1
  · rw [HD.out]
    exact ResS.err 100
  · exact fw4.trans2 (set15_fr _ (C + 1) _ _ _ _ _ _ _ _ _ _ _ _ _ _ _) (fun b hb e => by have := HCC.out; omega)

set_option maxRecDepth 100000 in
set_option maxHeartbeats 2000000 in
theorem rdo1f {S : Nat → Prop} {w : World} {v : Value} {l : List MItem} (h0 : Sl kItem S w v l) (hl : l.length ≤ 80000) (key high : Int) {ca : Option Addr} {cc : Nat} {bs : List UInt8} (hv0 : Sl kByte S w (.slice ca bs.length cc) bs) (hk : 0 ≤ key ∧ key ≤ 18446744073709551615) (hok : mOk none l = true) (hco : mCallOk (1, key, high, bs) = true) (ht : (mKey key l).isSome = false) :
    Calls Try.prog 39 #[v, .agg #[.int .i64 1, .int .u64 key, .int .u64 high, .slice ca bs.length cc]] w fun e w' =>
      ∃ x y, e = .returned (.tuple #[x, y, .int .i64 (mDo l (1, key, high, bs)).2.2]) ∧ Sl kItem (fun b => S b ∨ w.heap.size ≤ b) w' x (mDo l (1, key, high, bs)).1 ∧ ResS (fun b => S b ∨ w.heap.size ≤ b) w' y (mDo l (1, key, high, bs)).2.1 ∧ Fr Non w w' := by
  have _ := hl
  have _ := hk
  have hrb : (80000 : Nat) * 32 ≤ reachBytes := by decide
  have hrb2 : (1024 : Nat) ≤ reachBytes := by decide
  have h : Sl kItem (fun b => S b ∧ b < w.heap.size) w v l := h0.mono fun _ hb h => ⟨h, hb⟩
  have hv : Sl kByte (fun b => S b ∧ b < w.heap.size) w (.slice ca bs.length cc) bs := hv0.mono fun _ hb h => ⟨h, hb⟩
  obtain ⟨va, vn, rfl, _, hm, _⟩ := h0.frm
  have f0 : Fr Non w ((w.alloc (.cells #[.int .i64 1, .int .u64 key, .int .u64 high, .slice ca bs.length cc] 39)).alloc (.cells #[.int .i64 0, .int .u64 0, .slice none 0 0, .slice none 0 0, .int .i64 0, .int .i64 0, .int .u64 0, .int .i64 0, .int .u64 0, .int .i64 0, .int .i64 0, .int .u64 0, .int .i64 0, .int .u64 0, .bool false] 52)) := ((Fr.refl _ _).alloc _).alloc _
  have bC := alloc_at2 w (.cells #[.int .i64 1, .int .u64 key, .int .u64 high, .slice ca bs.length cc] 39) (.cells #[.int .i64 0, .int .u64 0, .slice none 0 0, .slice none 0 0, .int .i64 0, .int .i64 0, .int .u64 0, .int .i64 0, .int .u64 0, .int .i64 0, .int .i64 0, .int .u64 0, .int .i64 0, .int .u64 0, .bool false] 52)
  have bR := alloc_at2' w (.cells #[.int .i64 1, .int .u64 key, .int .u64 high, .slice ca bs.length cc] 39) (.cells #[.int .i64 0, .int .u64 0, .slice none 0 0, .slice none 0 0, .int .i64 0, .int .i64 0, .int .u64 0, .int .i64 0, .int .u64 0, .int .i64 0, .int .i64 0, .int .u64 0, .int .i64 0, .int .u64 0, .bool false] 52)
  have HS := Lib.hid (h.stay f0)
  obtain ⟨C, hC⟩ : ∃ C, w.heap.size = C := ⟨_, rfl⟩
  have HCC := Lib.hid hC
  rw [hC] at bC bR
  obtain ⟨qC, zC⟩ := box_facts bC
  have HV := Lib.hid (hv.stay f0)
  rw [hC] at HS HV
  clear h h0 hv hv0 qC zC
  have hck := fun (w : World) (h : Sl kItem (fun b => S b ∧ b < C) w (.slice va l.length vn) l) => rcheck_any h.all
  have hchk : mCheck l = 0 := if_pos hok
  rw [hchk] at hck
  have HC := Lib.hid hck
  clear hck hchk
  have hca := fun w => rcall_any w (1, key, high, bs) ca cc
  simp only at hca
  have hcall : mCall (1, key, high, bs) = 0 := if_pos hco
  rw [hcall] at hca
  have HCA := Lib.hid hca
  rw [mDo_ok hok hco]
  have HBL : Hid (bs.length ≤ reachBytes) := Lib.hid (by
    simp [mCallOk] at hco
    omega)
  obtain ⟨B, hBk⟩ : ∃ B, (mKey key l).getD [] = B := ⟨_, rfl⟩
  have hkey := fun (w : World) (h : Sl kItem (fun b => S b ∧ b < C) w (.slice va l.length vn) l) => rkey_any h.all key
  rw [ht, hBk] at hkey
  have HKY := Lib.hid hkey
  have HT := Lib.hid ht
  clear hca hcall hok hco ht hBk hkey
  go_enter Try.func39, Try.ntmps39
  go_wp2_with fail
  refine (HC.out _ HS.out).mono ?_
  rintro e w1 ⟨rfl, f1⟩
  obtain ⟨qC, zC⟩ := f1.box bC id
  go_wp2_with fail
  refine (HCA.out _).mono ?_
  rintro e w2 ⟨rfl, f2⟩
  have f12 := f1.trans f2
  have bC2 := f12.heap bC id
  have bR2 := f12.heap bR id
  clear qC zC
  obtain ⟨qC, zC⟩ := box_facts bC2
  go_wp2_with fail
  refine (HKY.out _ (HS.out.stay f12)).mono ?_
  rintro e w3 ⟨ua, uc, rfl, _, f3⟩
  have f13 := f12.trans f3
  have fw3 := f0.trans f13
  have HS3 := Lib.hid (HS.out.stay f13)
  have HV3 := Lib.hid (HV.out.stay f13)
  have bC3 := f3.heap bC2 id
  have bR3 := f3.heap bR2 id
  clear qC zC bC2 bR2 f1 f2 f3 f13
  obtain ⟨qC, zC⟩ := box_facts bC3
  obtain ⟨m, hm⟩ : ∃ m, mIns (key, bs) false l = m := ⟨_, rfl⟩
  have HD := Lib.hid (show mDone l (1, key, high, bs) = (m, mErr 0) by rw [← hm]; simp [mDone, HT.out])
  have hca := fun (w : World) (h : Sl kItem (fun b => S b ∧ b < C) w (.slice va l.length vn) l) (h2 : Sl kByte (fun b => S b ∧ b < C) w (.slice ca bs.length cc) bs) => insert_any h (by omega) (key, bs) h2 HBL.out hk
  rw [hm] at hca
  have HCA := Lib.hid hca
  clear hm hca
  go_wp2_with fail
  refine (HCA.out _ HS3.out HV3.out).mono ?_
  rintro e w4 ⟨ma, mc, rfl, hm4, f4⟩
  have HM4 := Lib.hid hm4
  clear hm4
  have fw4 := fw3.trans f4
  have bR4 := f4.heap bR3 id
  obtain ⟨qR, zR⟩ := box_facts bR4
  go_wp2_with fail
  refine bodyPost_ret (v := .tuple #[.slice ma m.length mc, .agg (resCells (mErr 0) (.slice none 0 0) (.slice none 0 0)).toArray, .int .i64 0]) (by simp [results, Try.results39, go_sem, set15_cell bR4, resCells, refCells, mErr, r0]) rfl ⟨_, _, rfl, ?_, ?_, ?_⟩
  · rw [HD.out]
    refine ((HM4.out).frame (set15_fr _ (C + 1) _ _ _ _ _ _ _ _ _ _ _ _ _ _ _) (fun b hb h e => ?_)).mono (fun b _ hb => ?_)
    · have := HCC.out
      rcases h with h | h
      · have := h.2; omega
      · have h9 := lt_of_block bR3; omega
    · rcases hb with h | h
      · exact .inl h.1
      · have h9 := lt_of_block bR3; have := HCC.out; exact .inr (by omega)
  · rw [HD.out]
    exact ResS.err 0
  · exact fw4.trans2 (set15_fr _ (C + 1) _ _ _ _ _ _ _ _ _ _ _ _ _ _ _) (fun b hb e => by have := HCC.out; omega)

set_option maxRecDepth 100000 in
set_option maxHeartbeats 2000000 in
theorem rdo2t {S : Nat → Prop} {w : World} {v : Value} {l : List MItem} (h0 : Sl kItem S w v l) (hl : l.length ≤ 80000) (key high : Int) {ca : Option Addr} {cc : Nat} {bs : List UInt8} (hv0 : Sl kByte S w (.slice ca bs.length cc) bs) (hk : 0 ≤ key ∧ key ≤ 18446744073709551615) (hok : mOk none l = true) (hco : mCallOk (2, key, high, bs) = true) (ht : (mKey key l).isSome = true) :
    Calls Try.prog 39 #[v, .agg #[.int .i64 2, .int .u64 key, .int .u64 high, .slice ca bs.length cc]] w fun e w' =>
      ∃ x y, e = .returned (.tuple #[x, y, .int .i64 (mDo l (2, key, high, bs)).2.2]) ∧ Sl kItem (fun b => S b ∨ w.heap.size ≤ b) w' x (mDo l (2, key, high, bs)).1 ∧ ResS (fun b => S b ∨ w.heap.size ≤ b) w' y (mDo l (2, key, high, bs)).2.1 ∧ Fr Non w w' := by
  have _ := hl
  have _ := hk
  have hrb : (80000 : Nat) * 32 ≤ reachBytes := by decide
  have hrb2 : (1024 : Nat) ≤ reachBytes := by decide
  have h : Sl kItem (fun b => S b ∧ b < w.heap.size) w v l := h0.mono fun _ hb h => ⟨h, hb⟩
  have hv : Sl kByte (fun b => S b ∧ b < w.heap.size) w (.slice ca bs.length cc) bs := hv0.mono fun _ hb h => ⟨h, hb⟩
  obtain ⟨va, vn, rfl, _, hm, _⟩ := h0.frm
  have f0 : Fr Non w ((w.alloc (.cells #[.int .i64 2, .int .u64 key, .int .u64 high, .slice ca bs.length cc] 39)).alloc (.cells #[.int .i64 0, .int .u64 0, .slice none 0 0, .slice none 0 0, .int .i64 0, .int .i64 0, .int .u64 0, .int .i64 0, .int .u64 0, .int .i64 0, .int .i64 0, .int .u64 0, .int .i64 0, .int .u64 0, .bool false] 52)) := ((Fr.refl _ _).alloc _).alloc _
  have bC := alloc_at2 w (.cells #[.int .i64 2, .int .u64 key, .int .u64 high, .slice ca bs.length cc] 39) (.cells #[.int .i64 0, .int .u64 0, .slice none 0 0, .slice none 0 0, .int .i64 0, .int .i64 0, .int .u64 0, .int .i64 0, .int .u64 0, .int .i64 0, .int .i64 0, .int .u64 0, .int .i64 0, .int .u64 0, .bool false] 52)
  have bR := alloc_at2' w (.cells #[.int .i64 2, .int .u64 key, .int .u64 high, .slice ca bs.length cc] 39) (.cells #[.int .i64 0, .int .u64 0, .slice none 0 0, .slice none 0 0, .int .i64 0, .int .i64 0, .int .u64 0, .int .i64 0, .int .u64 0, .int .i64 0, .int .i64 0, .int .u64 0, .int .i64 0, .int .u64 0, .bool false] 52)
  have HS := Lib.hid (h.stay f0)
  obtain ⟨C, hC⟩ : ∃ C, w.heap.size = C := ⟨_, rfl⟩
  have HCC := Lib.hid hC
  rw [hC] at bC bR
  obtain ⟨qC, zC⟩ := box_facts bC
  have HV := Lib.hid (hv.stay f0)
  rw [hC] at HS HV
  clear h h0 hv hv0 qC zC
  have hck := fun (w : World) (h : Sl kItem (fun b => S b ∧ b < C) w (.slice va l.length vn) l) => rcheck_any h.all
  have hchk : mCheck l = 0 := if_pos hok
  rw [hchk] at hck
  have HC := Lib.hid hck
  clear hck hchk
  have hca := fun w => rcall_any w (2, key, high, bs) ca cc
  simp only at hca
  have hcall : mCall (2, key, high, bs) = 0 := if_pos hco
  rw [hcall] at hca
  have HCA := Lib.hid hca
  rw [mDo_ok hok hco]
  obtain ⟨B, hBk⟩ : ∃ B, (mKey key l).getD [] = B := ⟨_, rfl⟩
  have hkey := fun (w : World) (h : Sl kItem (fun b => S b ∧ b < C) w (.slice va l.length vn) l) => rkey_any h.all key
  rw [ht, hBk] at hkey
  have HKY := Lib.hid hkey
  have HT := Lib.hid ht
  clear hca hcall hok hco ht hBk hkey
  go_enter Try.func39, Try.ntmps39
  go_wp2_with fail
  refine (HC.out _ HS.out).mono ?_
  rintro e w1 ⟨rfl, f1⟩
  obtain ⟨qC, zC⟩ := f1.box bC id
  go_wp2_with fail
  refine (HCA.out _).mono ?_
  rintro e w2 ⟨rfl, f2⟩
  have f12 := f1.trans f2
  have bC2 := f12.heap bC id
  have bR2 := f12.heap bR id
  clear qC zC
  obtain ⟨qC, zC⟩ := box_facts bC2
  go_wp2_with fail
  refine (HKY.out _ (HS.out.stay f12)).mono ?_
  rintro e w3 ⟨ua, uc, rfl, _, f3⟩
  have f13 := f12.trans f3
  have fw3 := f0.trans f13
  have HS3 := Lib.hid (HS.out.stay f13)
  have HV3 := Lib.hid (HV.out.stay f13)
  have bC3 := f3.heap bC2 id
  have bR3 := f3.heap bR2 id
  clear qC zC bC2 bR2 f1 f2 f3 f13
  obtain ⟨qC, zC⟩ := box_facts bC3
  obtain ⟨m, hm⟩ : ∃ m, mOut key l = m := ⟨_, rfl⟩
  have HD := Lib.hid (show mDone l (2, key, high, bs) = (m, mErr 0) by rw [← hm]; simp [mDone, HT.out])
  have hca := fun (w : World) (h : Sl kItem (fun b => S b ∧ b < C) w (.slice va l.length vn) l) => without_any h (by omega) key
  rw [hm] at hca
  have HCA := Lib.hid hca
  clear hm hca
  go_wp2_with fail
  refine (HCA.out _ HS3.out).mono ?_
  rintro e w4 ⟨ma, mc, rfl, hm4, f4⟩
  have HM4 := Lib.hid hm4
  clear hm4
  have fw4 := fw3.trans f4
  have bR4 := f4.heap bR3 id
  obtain ⟨qR, zR⟩ := box_facts bR4
  go_wp2_with fail
  refine bodyPost_ret (v := .tuple #[.slice ma m.length mc, .agg (resCells (mErr 0) (.slice none 0 0) (.slice none 0 0)).toArray, .int .i64 0]) (by simp [results, Try.results39, go_sem, set15_cell bR4, resCells, refCells, mErr, r0]) rfl ⟨_, _, rfl, ?_, ?_, ?_⟩
  · rw [HD.out]
    refine ((HM4.out).frame (set15_fr _ (C + 1) _ _ _ _ _ _ _ _ _ _ _ _ _ _ _) (fun b hb h e => ?_)).mono (fun b _ hb => ?_)
    · have := HCC.out
      rcases h with h | h
      · have := h.2; omega
      · have h9 := lt_of_block bR3; omega
    · rcases hb with h | h
      · exact .inl h.1
      · have h9 := lt_of_block bR3; have := HCC.out; exact .inr (by omega)
  · rw [HD.out]
    exact ResS.err 0
  · exact fw4.trans2 (set15_fr _ (C + 1) _ _ _ _ _ _ _ _ _ _ _ _ _ _ _) (fun b hb e => by have := HCC.out; omega)

set_option maxRecDepth 100000 in
set_option maxHeartbeats 2000000 in
theorem rdo2f {S : Nat → Prop} {w : World} {v : Value} {l : List MItem} (h0 : Sl kItem S w v l) (hl : l.length ≤ 80000) (key high : Int) {ca : Option Addr} {cc : Nat} {bs : List UInt8} (hv0 : Sl kByte S w (.slice ca bs.length cc) bs) (hk : 0 ≤ key ∧ key ≤ 18446744073709551615) (hok : mOk none l = true) (hco : mCallOk (2, key, high, bs) = true) (ht : (mKey key l).isSome = false) :
    Calls Try.prog 39 #[v, .agg #[.int .i64 2, .int .u64 key, .int .u64 high, .slice ca bs.length cc]] w fun e w' =>
      ∃ x y, e = .returned (.tuple #[x, y, .int .i64 (mDo l (2, key, high, bs)).2.2]) ∧ Sl kItem (fun b => S b ∨ w.heap.size ≤ b) w' x (mDo l (2, key, high, bs)).1 ∧ ResS (fun b => S b ∨ w.heap.size ≤ b) w' y (mDo l (2, key, high, bs)).2.1 ∧ Fr Non w w' := by
  have _ := hl
  have _ := hk
  have hrb : (80000 : Nat) * 32 ≤ reachBytes := by decide
  have hrb2 : (1024 : Nat) ≤ reachBytes := by decide
  have h : Sl kItem (fun b => S b ∧ b < w.heap.size) w v l := h0.mono fun _ hb h => ⟨h, hb⟩
  have hv : Sl kByte (fun b => S b ∧ b < w.heap.size) w (.slice ca bs.length cc) bs := hv0.mono fun _ hb h => ⟨h, hb⟩
  obtain ⟨va, vn, rfl, _, hm, _⟩ := h0.frm
  have f0 : Fr Non w ((w.alloc (.cells #[.int .i64 2, .int .u64 key, .int .u64 high, .slice ca bs.length cc] 39)).alloc (.cells #[.int .i64 0, .int .u64 0, .slice none 0 0, .slice none 0 0, .int .i64 0, .int .i64 0, .int .u64 0, .int .i64 0, .int .u64 0, .int .i64 0, .int .i64 0, .int .u64 0, .int .i64 0, .int .u64 0, .bool false] 52)) := ((Fr.refl _ _).alloc _).alloc _
  have bC := alloc_at2 w (.cells #[.int .i64 2, .int .u64 key, .int .u64 high, .slice ca bs.length cc] 39) (.cells #[.int .i64 0, .int .u64 0, .slice none 0 0, .slice none 0 0, .int .i64 0, .int .i64 0, .int .u64 0, .int .i64 0, .int .u64 0, .int .i64 0, .int .i64 0, .int .u64 0, .int .i64 0, .int .u64 0, .bool false] 52)
  have bR := alloc_at2' w (.cells #[.int .i64 2, .int .u64 key, .int .u64 high, .slice ca bs.length cc] 39) (.cells #[.int .i64 0, .int .u64 0, .slice none 0 0, .slice none 0 0, .int .i64 0, .int .i64 0, .int .u64 0, .int .i64 0, .int .u64 0, .int .i64 0, .int .i64 0, .int .u64 0, .int .i64 0, .int .u64 0, .bool false] 52)
  have HS := Lib.hid (h.stay f0)
  obtain ⟨C, hC⟩ : ∃ C, w.heap.size = C := ⟨_, rfl⟩
  have HCC := Lib.hid hC
  rw [hC] at bC bR
  obtain ⟨qC, zC⟩ := box_facts bC
  have HV := Lib.hid (hv.stay f0)
  rw [hC] at HS HV
  clear h h0 hv hv0 qC zC
  have hck := fun (w : World) (h : Sl kItem (fun b => S b ∧ b < C) w (.slice va l.length vn) l) => rcheck_any h.all
  have hchk : mCheck l = 0 := if_pos hok
  rw [hchk] at hck
  have HC := Lib.hid hck
  clear hck hchk
  have hca := fun w => rcall_any w (2, key, high, bs) ca cc
  simp only at hca
  have hcall : mCall (2, key, high, bs) = 0 := if_pos hco
  rw [hcall] at hca
  have HCA := Lib.hid hca
  rw [mDo_ok hok hco]
  obtain ⟨B, hBk⟩ : ∃ B, (mKey key l).getD [] = B := ⟨_, rfl⟩
  have hkey := fun (w : World) (h : Sl kItem (fun b => S b ∧ b < C) w (.slice va l.length vn) l) => rkey_any h.all key
  rw [ht, hBk] at hkey
  have HKY := Lib.hid hkey
  have HT := Lib.hid ht
  clear hca hcall hok hco ht hBk hkey
  go_enter Try.func39, Try.ntmps39
  go_wp2_with fail
  refine (HC.out _ HS.out).mono ?_
  rintro e w1 ⟨rfl, f1⟩
  obtain ⟨qC, zC⟩ := f1.box bC id
  go_wp2_with fail
  refine (HCA.out _).mono ?_
  rintro e w2 ⟨rfl, f2⟩
  have f12 := f1.trans f2
  have bC2 := f12.heap bC id
  have bR2 := f12.heap bR id
  clear qC zC
  obtain ⟨qC, zC⟩ := box_facts bC2
  go_wp2_with fail
  refine (HKY.out _ (HS.out.stay f12)).mono ?_
  rintro e w3 ⟨ua, uc, rfl, _, f3⟩
  have f13 := f12.trans f3
  have fw3 := f0.trans f13
  have HS3 := Lib.hid (HS.out.stay f13)
  have HV3 := Lib.hid (HV.out.stay f13)
  have bC3 := f3.heap bC2 id
  have bR3 := f3.heap bR2 id
  clear qC zC bC2 bR2 f1 f2 f3 f13
  obtain ⟨qC, zC⟩ := box_facts bC3
  have HD := Lib.hid (show mDone l (2, key, high, bs) = (l, mErr 101) by simp [mDone, HT.out])
  go_wp2_with fail
  refine (err_any _ 101).mono ?_
  rintro e w4 ⟨rfl, f4⟩
  simp only [resCells, refCells, mErr, r0, List.cons_append, List.nil_append]
  have fw4 := fw3.trans f4
  have bR4 := f4.heap bR3 id
  obtain ⟨qR, zR⟩ := box_facts bR4
  go_wp2_with fail
  refine bodyPost_ret (v := .tuple #[.slice va l.length vn, .agg (resCells (mErr 101) (.slice none 0 0) (.slice none 0 0)).toArray, .int .i64 0]) (by simp [results, Try.results39, go_sem, set15_cell bR4, resCells, refCells, mErr, r0]) rfl ⟨_, _, rfl, ?_, ?_, ?_⟩
  · rw [HD.out]
    refine ((HS3.out.stay f4).frame (set15_fr _ (C + 1) _ _ _ _ _ _ _ _ _ _ _ _ _ _ _) (fun b hb h e => ?_)).mono (fun b _ hb => ?_)
    · have := HCC.out
      have := h.2; omega
    · exact .inl hb.1
  · rw [HD.out]
    exact ResS.err 101
  · exact fw4.trans2 (set15_fr _ (C + 1) _ _ _ _ _ _ _ _ _ _ _ _ _ _ _) (fun b hb e => by have := HCC.out; omega)

set_option maxRecDepth 100000 in
set_option maxHeartbeats 2000000 in
theorem rdo3 {S : Nat → Prop} {w : World} {v : Value} {l : List MItem} (h0 : Sl kItem S w v l) (hl : l.length ≤ 80000) (key high : Int) {ca : Option Addr} {cc : Nat} {bs : List UInt8} (hv0 : Sl kByte S w (.slice ca bs.length cc) bs) (hk : 0 ≤ key ∧ key ≤ 18446744073709551615) (hok : mOk none l = true) (hco : mCallOk (3, key, high, bs) = true) :
    Calls Try.prog 39 #[v, .agg #[.int .i64 3, .int .u64 key, .int .u64 high, .slice ca bs.length cc]] w fun e w' =>
      ∃ x y, e = .returned (.tuple #[x, y, .int .i64 (mDo l (3, key, high, bs)).2.2]) ∧ Sl kItem (fun b => S b ∨ w.heap.size ≤ b) w' x (mDo l (3, key, high, bs)).1 ∧ ResS (fun b => S b ∨ w.heap.size ≤ b) w' y (mDo l (3, key, high, bs)).2.1 ∧ Fr Non w w' := by
  have _ := hl
  have _ := hk
  have hrb : (80000 : Nat) * 32 ≤ reachBytes := by decide
  have hrb2 : (1024 : Nat) ≤ reachBytes := by decide
  have h : Sl kItem (fun b => S b ∧ b < w.heap.size) w v l := h0.mono fun _ hb h => ⟨h, hb⟩
  have hv : Sl kByte (fun b => S b ∧ b < w.heap.size) w (.slice ca bs.length cc) bs := hv0.mono fun _ hb h => ⟨h, hb⟩
  obtain ⟨va, vn, rfl, _, hm, _⟩ := h0.frm
  have f0 : Fr Non w ((w.alloc (.cells #[.int .i64 3, .int .u64 key, .int .u64 high, .slice ca bs.length cc] 39)).alloc (.cells #[.int .i64 0, .int .u64 0, .slice none 0 0, .slice none 0 0, .int .i64 0, .int .i64 0, .int .u64 0, .int .i64 0, .int .u64 0, .int .i64 0, .int .i64 0, .int .u64 0, .int .i64 0, .int .u64 0, .bool false] 52)) := ((Fr.refl _ _).alloc _).alloc _
  have bC := alloc_at2 w (.cells #[.int .i64 3, .int .u64 key, .int .u64 high, .slice ca bs.length cc] 39) (.cells #[.int .i64 0, .int .u64 0, .slice none 0 0, .slice none 0 0, .int .i64 0, .int .i64 0, .int .u64 0, .int .i64 0, .int .u64 0, .int .i64 0, .int .i64 0, .int .u64 0, .int .i64 0, .int .u64 0, .bool false] 52)
  have bR := alloc_at2' w (.cells #[.int .i64 3, .int .u64 key, .int .u64 high, .slice ca bs.length cc] 39) (.cells #[.int .i64 0, .int .u64 0, .slice none 0 0, .slice none 0 0, .int .i64 0, .int .i64 0, .int .u64 0, .int .i64 0, .int .u64 0, .int .i64 0, .int .i64 0, .int .u64 0, .int .i64 0, .int .u64 0, .bool false] 52)
  have HS := Lib.hid (h.stay f0)
  obtain ⟨C, hC⟩ : ∃ C, w.heap.size = C := ⟨_, rfl⟩
  have HCC := Lib.hid hC
  rw [hC] at bC bR
  obtain ⟨qC, zC⟩ := box_facts bC
  have HV := Lib.hid (hv.stay f0)
  rw [hC] at HS HV
  clear h h0 hv hv0 qC zC
  have hck := fun (w : World) (h : Sl kItem (fun b => S b ∧ b < C) w (.slice va l.length vn) l) => rcheck_any h.all
  have hchk : mCheck l = 0 := if_pos hok
  rw [hchk] at hck
  have HC := Lib.hid hck
  clear hck hchk
  have hca := fun w => rcall_any w (3, key, high, bs) ca cc
  simp only at hca
  have hcall : mCall (3, key, high, bs) = 0 := if_pos hco
  rw [hcall] at hca
  have HCA := Lib.hid hca
  rw [mDo_ok hok hco]
  obtain ⟨t, ht⟩ : ∃ t, (mKey key l).isSome = t := ⟨_, rfl⟩
  obtain ⟨B, hBk⟩ : ∃ B, (mKey key l).getD [] = B := ⟨_, rfl⟩
  have hkey := fun (w : World) (h : Sl kItem (fun b => S b ∧ b < C) w (.slice va l.length vn) l) => rkey_any h.all key
  rw [ht, hBk] at hkey
  have HKY := Lib.hid hkey
  have HT := Lib.hid ht
  clear hca hcall hok hco ht hBk hkey
  go_enter Try.func39, Try.ntmps39
  go_wp2_with fail
  refine (HC.out _ HS.out).mono ?_
  rintro e w1 ⟨rfl, f1⟩
  obtain ⟨qC, zC⟩ := f1.box bC id
  go_wp2_with fail
  refine (HCA.out _).mono ?_
  rintro e w2 ⟨rfl, f2⟩
  have f12 := f1.trans f2
  have bC2 := f12.heap bC id
  have bR2 := f12.heap bR id
  clear qC zC
  obtain ⟨qC, zC⟩ := box_facts bC2
  go_wp2_with fail
  refine (HKY.out _ (HS.out.stay f12)).mono ?_
  rintro e w3 ⟨ua, uc, rfl, _, f3⟩
  have f13 := f12.trans f3
  have fw3 := f0.trans f13
  have HS3 := Lib.hid (HS.out.stay f13)
  have HV3 := Lib.hid (HV.out.stay f13)
  have bC3 := f3.heap bC2 id
  have bR3 := f3.heap bR2 id
  clear qC zC bC2 bR2 f1 f2 f3 f13
  obtain ⟨qC, zC⟩ := box_facts bC3
  have HD := Lib.hid (show mDone l (3, key, high, bs) = (l, mAsked l (3, key, high, bs)) by simp [mDone])
  go_wp2_with fail
  refine (askedO HS3.out (by omega) 3 key high (by omega) (by omega)).mono ?_
  rintro e w4 ⟨y, rfl, hR4, f4⟩
  have hrr := mDone_refs l (3, key, high, bs)
  rw [HD.out] at hrr
  obtain ⟨hr1, hr2, hr3⟩ := hrr
  obtain ⟨u8', v8', rfl, hrd, ⟨p1, p2, p3, rfl⟩, ⟨p4, p5, p6, rfl⟩⟩ := res_rd hR4 hr3 hr1 hr2
  obtain ⟨R, hR⟩ : ∃ R, mAsked l (3, key, high, bs) = R := ⟨_, rfl⟩
  rw [hR] at hR4 ⊢
  have HR := Lib.hid hR
  have HR4 := Lib.hid hR4
  clear hrd hr1 hr2 hr3 hR hR4
  have fw4 := fw3.trans f4
  have bR4 := f4.heap bR3 id
  simp only [resCells, refCells, List.cons_append, List.nil_append]
  obtain ⟨qR, zR⟩ := box_facts bR4
  go_wp2_with fail
  refine bodyPost_ret (v := .tuple #[.slice va l.length vn, .agg (resCells R (.slice p1 p2 p3) (.slice p4 p5 p6)).toArray, .int .i64 0]) (by simp [results, Try.results39, go_sem, set15_cell bR4, resCells, refCells]) rfl ⟨_, _, rfl, ?_, ?_, ?_⟩
  · rw [HD.out]
    refine ((HS3.out.stay f4).frame (set15_fr _ (C + 1) _ _ _ _ _ _ _ _ _ _ _ _ _ _ _) (fun b hb h e => ?_)).mono (fun b _ hb => ?_)
    · have := HCC.out
      have := h.2; omega
    · exact .inl hb.1
  · rw [HD.out]
    rw [HR.out]
    simp only [resCells, refCells, List.cons_append, List.nil_append]
    refine (HR4.out.frame (set15_fr _ (C + 1) _ _ _ _ _ _ _ _ _ _ _ _ _ _ _) (fun b hb h e => ?_)).mono (fun b _ hb => ?_)
    · have := HCC.out
      rcases h with h | h
      · have := h.2; omega
      · have h9 := lt_of_block bR3; omega
    · rcases hb with h | h
      · exact .inl h.1
      · have h9 := lt_of_block bR3; have := HCC.out; exact .inr (by omega)
  · exact fw4.trans2 (set15_fr _ (C + 1) _ _ _ _ _ _ _ _ _ _ _ _ _ _ _) (fun b hb e => by have := HCC.out; omega)

set_option maxRecDepth 100000 in
set_option maxHeartbeats 2000000 in
theorem rdo4 {S : Nat → Prop} {w : World} {v : Value} {l : List MItem} (h0 : Sl kItem S w v l) (hl : l.length ≤ 80000) (key high : Int) {ca : Option Addr} {cc : Nat} {bs : List UInt8} (hv0 : Sl kByte S w (.slice ca bs.length cc) bs) (hk : 0 ≤ key ∧ key ≤ 18446744073709551615) (hok : mOk none l = true) (hco : mCallOk (4, key, high, bs) = true) :
    Calls Try.prog 39 #[v, .agg #[.int .i64 4, .int .u64 key, .int .u64 high, .slice ca bs.length cc]] w fun e w' =>
      ∃ x y, e = .returned (.tuple #[x, y, .int .i64 (mDo l (4, key, high, bs)).2.2]) ∧ Sl kItem (fun b => S b ∨ w.heap.size ≤ b) w' x (mDo l (4, key, high, bs)).1 ∧ ResS (fun b => S b ∨ w.heap.size ≤ b) w' y (mDo l (4, key, high, bs)).2.1 ∧ Fr Non w w' := by
  have _ := hl
  have _ := hk
  have hrb : (80000 : Nat) * 32 ≤ reachBytes := by decide
  have hrb2 : (1024 : Nat) ≤ reachBytes := by decide
  have h : Sl kItem (fun b => S b ∧ b < w.heap.size) w v l := h0.mono fun _ hb h => ⟨h, hb⟩
  have hv : Sl kByte (fun b => S b ∧ b < w.heap.size) w (.slice ca bs.length cc) bs := hv0.mono fun _ hb h => ⟨h, hb⟩
  obtain ⟨va, vn, rfl, _, hm, _⟩ := h0.frm
  have f0 : Fr Non w ((w.alloc (.cells #[.int .i64 4, .int .u64 key, .int .u64 high, .slice ca bs.length cc] 39)).alloc (.cells #[.int .i64 0, .int .u64 0, .slice none 0 0, .slice none 0 0, .int .i64 0, .int .i64 0, .int .u64 0, .int .i64 0, .int .u64 0, .int .i64 0, .int .i64 0, .int .u64 0, .int .i64 0, .int .u64 0, .bool false] 52)) := ((Fr.refl _ _).alloc _).alloc _
  have bC := alloc_at2 w (.cells #[.int .i64 4, .int .u64 key, .int .u64 high, .slice ca bs.length cc] 39) (.cells #[.int .i64 0, .int .u64 0, .slice none 0 0, .slice none 0 0, .int .i64 0, .int .i64 0, .int .u64 0, .int .i64 0, .int .u64 0, .int .i64 0, .int .i64 0, .int .u64 0, .int .i64 0, .int .u64 0, .bool false] 52)
  have bR := alloc_at2' w (.cells #[.int .i64 4, .int .u64 key, .int .u64 high, .slice ca bs.length cc] 39) (.cells #[.int .i64 0, .int .u64 0, .slice none 0 0, .slice none 0 0, .int .i64 0, .int .i64 0, .int .u64 0, .int .i64 0, .int .u64 0, .int .i64 0, .int .i64 0, .int .u64 0, .int .i64 0, .int .u64 0, .bool false] 52)
  have HS := Lib.hid (h.stay f0)
  obtain ⟨C, hC⟩ : ∃ C, w.heap.size = C := ⟨_, rfl⟩
  have HCC := Lib.hid hC
  rw [hC] at bC bR
  obtain ⟨qC, zC⟩ := box_facts bC
  have HV := Lib.hid (hv.stay f0)
  rw [hC] at HS HV
  clear h h0 hv hv0 qC zC
  have hck := fun (w : World) (h : Sl kItem (fun b => S b ∧ b < C) w (.slice va l.length vn) l) => rcheck_any h.all
  have hchk : mCheck l = 0 := if_pos hok
  rw [hchk] at hck
  have HC := Lib.hid hck
  clear hck hchk
  have hca := fun w => rcall_any w (4, key, high, bs) ca cc
  simp only at hca
  have hcall : mCall (4, key, high, bs) = 0 := if_pos hco
  rw [hcall] at hca
  have HCA := Lib.hid hca
  rw [mDo_ok hok hco]
  obtain ⟨t, ht⟩ : ∃ t, (mKey key l).isSome = t := ⟨_, rfl⟩
  obtain ⟨B, hBk⟩ : ∃ B, (mKey key l).getD [] = B := ⟨_, rfl⟩
  have hkey := fun (w : World) (h : Sl kItem (fun b => S b ∧ b < C) w (.slice va l.length vn) l) => rkey_any h.all key
  rw [ht, hBk] at hkey
  have HKY := Lib.hid hkey
  have HT := Lib.hid ht
  clear hca hcall hok hco ht hBk hkey
  go_enter Try.func39, Try.ntmps39
  go_wp2_with fail
  refine (HC.out _ HS.out).mono ?_
  rintro e w1 ⟨rfl, f1⟩
  obtain ⟨qC, zC⟩ := f1.box bC id
  go_wp2_with fail
  refine (HCA.out _).mono ?_
  rintro e w2 ⟨rfl, f2⟩
  have f12 := f1.trans f2
  have bC2 := f12.heap bC id
  have bR2 := f12.heap bR id
  clear qC zC
  obtain ⟨qC, zC⟩ := box_facts bC2
  go_wp2_with fail
  refine (HKY.out _ (HS.out.stay f12)).mono ?_
  rintro e w3 ⟨ua, uc, rfl, _, f3⟩
  have f13 := f12.trans f3
  have fw3 := f0.trans f13
  have HS3 := Lib.hid (HS.out.stay f13)
  have HV3 := Lib.hid (HV.out.stay f13)
  have bC3 := f3.heap bC2 id
  have bR3 := f3.heap bR2 id
  clear qC zC bC2 bR2 f1 f2 f3 f13
  obtain ⟨qC, zC⟩ := box_facts bC3
  have HD := Lib.hid (show mDone l (4, key, high, bs) = (l, mAsked l (4, key, high, bs)) by simp [mDone])
  go_wp2_with fail
  refine (asked4 HS3.out (by omega) key high).mono ?_
  rintro e w4 ⟨y, rfl, hR4, f4⟩
  have hrr := mDone_refs l (4, key, high, bs)
  rw [HD.out] at hrr
  obtain ⟨hr1, hr2, hr3⟩ := hrr
  obtain ⟨u8', v8', rfl, hrd, ⟨p1, p2, p3, rfl⟩, ⟨p4, p5, p6, rfl⟩⟩ := res_rd hR4 hr3 hr1 hr2
  obtain ⟨R, hR⟩ : ∃ R, mAsked l (4, key, high, bs) = R := ⟨_, rfl⟩
  rw [hR] at hR4 ⊢
  have HR := Lib.hid hR
  have HR4 := Lib.hid hR4
  clear hrd hr1 hr2 hr3 hR hR4
  have fw4 := fw3.trans f4
  have bR4 := f4.heap bR3 id
  simp only [resCells, refCells, List.cons_append, List.nil_append]
  obtain ⟨qR, zR⟩ := box_facts bR4
  go_wp2_with fail
  refine bodyPost_ret (v := .tuple #[.slice va l.length vn, .agg (resCells R (.slice p1 p2 p3) (.slice p4 p5 p6)).toArray, .int .i64 0]) (by simp [results, Try.results39, go_sem, set15_cell bR4, resCells, refCells]) rfl ⟨_, _, rfl, ?_, ?_, ?_⟩
  · rw [HD.out]
    refine ((HS3.out.stay f4).frame (set15_fr _ (C + 1) _ _ _ _ _ _ _ _ _ _ _ _ _ _ _) (fun b hb h e => ?_)).mono (fun b _ hb => ?_)
    · have := HCC.out
      have := h.2; omega
    · exact .inl hb.1
  · rw [HD.out]
    rw [HR.out]
    simp only [resCells, refCells, List.cons_append, List.nil_append]
    refine (HR4.out.frame (set15_fr _ (C + 1) _ _ _ _ _ _ _ _ _ _ _ _ _ _ _) (fun b hb h e => ?_)).mono (fun b _ hb => ?_)
    · have := HCC.out
      rcases h with h | h
      · have := h.2; omega
      · have h9 := lt_of_block bR3; omega
    · rcases hb with h | h
      · exact .inl h.1
      · have h9 := lt_of_block bR3; have := HCC.out; exact .inr (by omega)
  · exact fw4.trans2 (set15_fr _ (C + 1) _ _ _ _ _ _ _ _ _ _ _ _ _ _ _) (fun b hb e => by have := HCC.out; omega)

set_option maxRecDepth 100000 in
set_option maxHeartbeats 2000000 in
theorem rdo5 {S : Nat → Prop} {w : World} {v : Value} {l : List MItem} (h0 : Sl kItem S w v l) (hl : l.length ≤ 80000) (key high : Int) {ca : Option Addr} {cc : Nat} {bs : List UInt8} (hv0 : Sl kByte S w (.slice ca bs.length cc) bs) (hk : 0 ≤ key ∧ key ≤ 18446744073709551615) (hok : mOk none l = true) (hco : mCallOk (5, key, high, bs) = true) :
    Calls Try.prog 39 #[v, .agg #[.int .i64 5, .int .u64 key, .int .u64 high, .slice ca bs.length cc]] w fun e w' =>
      ∃ x y, e = .returned (.tuple #[x, y, .int .i64 (mDo l (5, key, high, bs)).2.2]) ∧ Sl kItem (fun b => S b ∨ w.heap.size ≤ b) w' x (mDo l (5, key, high, bs)).1 ∧ ResS (fun b => S b ∨ w.heap.size ≤ b) w' y (mDo l (5, key, high, bs)).2.1 ∧ Fr Non w w' := by
  have _ := hl
  have _ := hk
  have hrb : (80000 : Nat) * 32 ≤ reachBytes := by decide
  have hrb2 : (1024 : Nat) ≤ reachBytes := by decide
  have h : Sl kItem (fun b => S b ∧ b < w.heap.size) w v l := h0.mono fun _ hb h => ⟨h, hb⟩
  have hv : Sl kByte (fun b => S b ∧ b < w.heap.size) w (.slice ca bs.length cc) bs := hv0.mono fun _ hb h => ⟨h, hb⟩
  obtain ⟨va, vn, rfl, _, hm, _⟩ := h0.frm
  have f0 : Fr Non w ((w.alloc (.cells #[.int .i64 5, .int .u64 key, .int .u64 high, .slice ca bs.length cc] 39)).alloc (.cells #[.int .i64 0, .int .u64 0, .slice none 0 0, .slice none 0 0, .int .i64 0, .int .i64 0, .int .u64 0, .int .i64 0, .int .u64 0, .int .i64 0, .int .i64 0, .int .u64 0, .int .i64 0, .int .u64 0, .bool false] 52)) := ((Fr.refl _ _).alloc _).alloc _
  have bC := alloc_at2 w (.cells #[.int .i64 5, .int .u64 key, .int .u64 high, .slice ca bs.length cc] 39) (.cells #[.int .i64 0, .int .u64 0, .slice none 0 0, .slice none 0 0, .int .i64 0, .int .i64 0, .int .u64 0, .int .i64 0, .int .u64 0, .int .i64 0, .int .i64 0, .int .u64 0, .int .i64 0, .int .u64 0, .bool false] 52)
  have bR := alloc_at2' w (.cells #[.int .i64 5, .int .u64 key, .int .u64 high, .slice ca bs.length cc] 39) (.cells #[.int .i64 0, .int .u64 0, .slice none 0 0, .slice none 0 0, .int .i64 0, .int .i64 0, .int .u64 0, .int .i64 0, .int .u64 0, .int .i64 0, .int .i64 0, .int .u64 0, .int .i64 0, .int .u64 0, .bool false] 52)
  have HS := Lib.hid (h.stay f0)
  obtain ⟨C, hC⟩ : ∃ C, w.heap.size = C := ⟨_, rfl⟩
  have HCC := Lib.hid hC
  rw [hC] at bC bR
  obtain ⟨qC, zC⟩ := box_facts bC
  have HV := Lib.hid (hv.stay f0)
  rw [hC] at HS HV
  clear h h0 hv hv0 qC zC
  have hck := fun (w : World) (h : Sl kItem (fun b => S b ∧ b < C) w (.slice va l.length vn) l) => rcheck_any h.all
  have hchk : mCheck l = 0 := if_pos hok
  rw [hchk] at hck
  have HC := Lib.hid hck
  clear hck hchk
  have hca := fun w => rcall_any w (5, key, high, bs) ca cc
  simp only at hca
  have hcall : mCall (5, key, high, bs) = 0 := if_pos hco
  rw [hcall] at hca
  have HCA := Lib.hid hca
  rw [mDo_ok hok hco]
  obtain ⟨t, ht⟩ : ∃ t, (mKey key l).isSome = t := ⟨_, rfl⟩
  obtain ⟨B, hBk⟩ : ∃ B, (mKey key l).getD [] = B := ⟨_, rfl⟩
  have hkey := fun (w : World) (h : Sl kItem (fun b => S b ∧ b < C) w (.slice va l.length vn) l) => rkey_any h.all key
  rw [ht, hBk] at hkey
  have HKY := Lib.hid hkey
  have HT := Lib.hid ht
  clear hca hcall hok hco ht hBk hkey
  go_enter Try.func39, Try.ntmps39
  go_wp2_with fail
  refine (HC.out _ HS.out).mono ?_
  rintro e w1 ⟨rfl, f1⟩
  obtain ⟨qC, zC⟩ := f1.box bC id
  go_wp2_with fail
  refine (HCA.out _).mono ?_
  rintro e w2 ⟨rfl, f2⟩
  have f12 := f1.trans f2
  have bC2 := f12.heap bC id
  have bR2 := f12.heap bR id
  clear qC zC
  obtain ⟨qC, zC⟩ := box_facts bC2
  go_wp2_with fail
  refine (HKY.out _ (HS.out.stay f12)).mono ?_
  rintro e w3 ⟨ua, uc, rfl, _, f3⟩
  have f13 := f12.trans f3
  have fw3 := f0.trans f13
  have HS3 := Lib.hid (HS.out.stay f13)
  have HV3 := Lib.hid (HV.out.stay f13)
  have bC3 := f3.heap bC2 id
  have bR3 := f3.heap bR2 id
  clear qC zC bC2 bR2 f1 f2 f3 f13
  obtain ⟨qC, zC⟩ := box_facts bC3
  have HD := Lib.hid (show mDone l (5, key, high, bs) = (l, mAsked l (5, key, high, bs)) by simp [mDone])
  go_wp2_with fail
  refine (asked5 HS3.out (by omega) key high).mono ?_
  rintro e w4 ⟨y, rfl, hR4, f4⟩
  have hrr := mDone_refs l (5, key, high, bs)
  rw [HD.out] at hrr
  obtain ⟨hr1, hr2, hr3⟩ := hrr
  obtain ⟨u8', v8', rfl, hrd, ⟨p1, p2, p3, rfl⟩, ⟨p4, p5, p6, rfl⟩⟩ := res_rd hR4 hr3 hr1 hr2
  obtain ⟨R, hR⟩ : ∃ R, mAsked l (5, key, high, bs) = R := ⟨_, rfl⟩
  rw [hR] at hR4 ⊢
  have HR := Lib.hid hR
  have HR4 := Lib.hid hR4
  clear hrd hr1 hr2 hr3 hR hR4
  have fw4 := fw3.trans f4
  have bR4 := f4.heap bR3 id
  simp only [resCells, refCells, List.cons_append, List.nil_append]
  obtain ⟨qR, zR⟩ := box_facts bR4
  go_wp2_with fail
  refine bodyPost_ret (v := .tuple #[.slice va l.length vn, .agg (resCells R (.slice p1 p2 p3) (.slice p4 p5 p6)).toArray, .int .i64 0]) (by simp [results, Try.results39, go_sem, set15_cell bR4, resCells, refCells]) rfl ⟨_, _, rfl, ?_, ?_, ?_⟩
  · rw [HD.out]
    refine ((HS3.out.stay f4).frame (set15_fr _ (C + 1) _ _ _ _ _ _ _ _ _ _ _ _ _ _ _) (fun b hb h e => ?_)).mono (fun b _ hb => ?_)
    · have := HCC.out
      have := h.2; omega
    · exact .inl hb.1
  · rw [HD.out]
    rw [HR.out]
    simp only [resCells, refCells, List.cons_append, List.nil_append]
    refine (HR4.out.frame (set15_fr _ (C + 1) _ _ _ _ _ _ _ _ _ _ _ _ _ _ _) (fun b hb h e => ?_)).mono (fun b _ hb => ?_)
    · have := HCC.out
      rcases h with h | h
      · have := h.2; omega
      · have h9 := lt_of_block bR3; omega
    · rcases hb with h | h
      · exact .inl h.1
      · have h9 := lt_of_block bR3; have := HCC.out; exact .inr (by omega)
  · exact fw4.trans2 (set15_fr _ (C + 1) _ _ _ _ _ _ _ _ _ _ _ _ _ _ _) (fun b hb e => by have := HCC.out; omega)

theorem rdo_any {S : Nat → Prop} {w : World} {v : Value} {l : List MItem} (h0 : Sl kItem S w v l) (hl : l.length ≤ 80000) (k : Int) (key high : Int) {ca : Option Addr} {cc : Nat} {bs : List UInt8} (hv0 : Sl kByte S w (.slice ca bs.length cc) bs) (hk : 0 ≤ key ∧ key ≤ 18446744073709551615) :
    Calls Try.prog 39 #[v, .agg #[.int .i64 k, .int .u64 key, .int .u64 high, .slice ca bs.length cc]] w fun e w' =>
      ∃ x y, e = .returned (.tuple #[x, y, .int .i64 (mDo l (k, key, high, bs)).2.2]) ∧ Sl kItem (fun b => S b ∨ w.heap.size ≤ b) w' x (mDo l (k, key, high, bs)).1 ∧ ResS (fun b => S b ∨ w.heap.size ≤ b) w' y (mDo l (k, key, high, bs)).2.1 ∧ Fr Non w w' := by
  by_cases hno : mOk none l = true ∧ mCallOk (k, key, high, bs) = true
  rotate_left
  · exact rdo_no h0 hl k key high hv0 hk hno
  obtain ⟨hok, hco⟩ := hno
  have hks : k = 1 ∨ k = 2 ∨ k = 3 ∨ k = 4 ∨ k = 5 := by
    have hco := hco
    unfold mCallOk at hco
    simp only at hco
    by_cases e1 : k = 1
    · exact .inl e1
    by_cases e2 : k = 2 ∨ k = 3 ∨ k = 4
    · omega
    by_cases e5 : k = 5
    · omega
    · rw [if_neg e1, if_neg e2, if_neg e5] at hco
      cases hco
  rcases hks with rfl | rfl | rfl | rfl | rfl
  · cases ht : (mKey key l).isSome with
    | true => exact rdo1t h0 hl key high hv0 hk hok hco ht
    | false => exact rdo1f h0 hl key high hv0 hk hok hco ht
  · cases ht : (mKey key l).isSome with
    | true => exact rdo2t h0 hl key high hv0 hk hok hco ht
    | false => exact rdo2f h0 hl key high hv0 hk hok hco ht
  · exact rdo3 h0 hl key high hv0 hk hok hco
  · exact rdo4 h0 hl key high hv0 hk hok hco
  · exact rdo5 h0 hl key high hv0 hk hok hco
end Go.Proofs.Ytplhcfaonhkegaa
