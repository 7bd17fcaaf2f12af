/-
  Net: Put of what may not be put; Stats; To.
-/
import Derived.Test.YtkmpmibjenodlaaN10
namespace Go.Proofs.Ytkmpmibjenodlaa
open Go.RowKit Go.Maps

theorem src_form {w : World} {sz : Nat} {v : Value} {m : Nat} {news : List Value} (h : Src w sz v m news) : ∃ a c, v = .slice a m c := by
  rcases h.2.2 with ⟨rfl, rfl⟩ | ⟨ad, c, rfl, _⟩
  · exact ⟨_, _, rfl⟩
  · exact ⟨_, _, rfl⟩

set_option maxRecDepth 100000 in
set_option maxHeartbeats 1000000 in
theorem put_from {w : World} {bn bm : Nat} {lv : Value} {vs : List Value} {k : Nat} {st : NetSt} (h : NetAt w bn bm lv vs k st) (p : Parcel) (v : Value) (h1 : ¬ (0 ≤ p.fn ∧ p.fn < 1024)) :
    Calls Try.prog 10 #[.pointer (some ⟨bn, 0, none⟩), .agg #[.bool p.fa, .int .i64 p.fn, .bool p.ta, .int .i64 p.tn, v]] w fun e w' => e = .returned (.int .i64 50) ∧ Fr Non w w' := by
  have hbn := lt_of_block h.cell
  have H1 := Lib.hid h1
  clear h1
  go_enter Try.func10, Try.ntmps10
  go_wp2_with fail
  refine (made_yes _ bm _ ?_).mono ?_
  · rw [World.cell?_alloc_past _ _ _ hbn]; exact h.box.1 1
  rintro e w' ⟨rfl, rfl⟩
  go_wp2_with fail
  refine (check_bad _ _ _ H1.out).mono ?_
  rintro e w1 ⟨rfl, f1⟩
  go_wp2_with fail
  go_ret
  exact ⟨rfl, ((Fr.refl _ _).alloc _).trans f1⟩

set_option maxRecDepth 100000 in
set_option maxHeartbeats 1000000 in
theorem put_to {w : World} {bn bm : Nat} {lv : Value} {vs : List Value} {k : Nat} {st : NetSt} (h : NetAt w bn bm lv vs k st) (p : Parcel) (v : Value) (h1 : 0 ≤ p.fn ∧ p.fn < 1024) (h2 : ¬ (0 ≤ p.tn ∧ p.tn < 1024)) :
    Calls Try.prog 10 #[.pointer (some ⟨bn, 0, none⟩), .agg #[.bool p.fa, .int .i64 p.fn, .bool p.ta, .int .i64 p.tn, v]] w fun e w' => e = .returned (.int .i64 50) ∧ Fr Non w w' := by
  have hbn := lt_of_block h.cell
  have H2 := Lib.hid h2
  obtain ⟨h1a, h1b⟩ := h1
  clear h2
  go_enter Try.func10, Try.ntmps10
  go_wp2_with fail
  refine (made_yes _ bm _ ?_).mono ?_
  · rw [World.cell?_alloc_past _ _ _ hbn]; exact h.box.1 1
  rintro e w' ⟨rfl, rfl⟩
  go_wp2_with fail
  refine (check_ok _ _ _ h1a h1b).mono ?_
  rintro e w1 ⟨rfl, f1⟩
  obtain ⟨b1, z1⟩ := f1.box (alloc_at _ _) id
  go_wp2_with fail
  refine (check_bad _ _ _ H2.out).mono ?_
  rintro e w2 ⟨rfl, f2⟩
  clear b1 z1
  go_wp2_with fail
  go_ret
  exact ⟨rfl, (((Fr.refl _ _).alloc _).trans f1).trans f2⟩

set_option maxRecDepth 100000 in
set_option maxHeartbeats 1000000 in
theorem put_long {w : World} {bn bm : Nat} {lv : Value} {vs : List Value} {k : Nat} {st : NetSt} (h : NetAt w bn bm lv vs k st) (p : Parcel) (v : Value) (hp : Src w 1 v p.b.length (bcs p.b)) (h1 : 0 ≤ p.fn ∧ p.fn < 1024) (h2 : 0 ≤ p.tn ∧ p.tn < 1024) (h3 : 262144 < p.b.length) :
    Calls Try.prog 10 #[.pointer (some ⟨bn, 0, none⟩), .agg #[.bool p.fa, .int .i64 p.fn, .bool p.ta, .int .i64 p.tn, v]] w fun e w' => e = .returned (.int .i64 50) ∧ Fr Non w w' := by
  have hbn := lt_of_block h.cell
  obtain ⟨va, vc, rfl⟩ := src_form hp
  obtain ⟨h1a, h1b⟩ := h1
  obtain ⟨h2a, h2b⟩ := h2
  go_enter Try.func10, Try.ntmps10
  go_wp2_with fail
  refine (made_yes _ bm _ ?_).mono ?_
  · rw [World.cell?_alloc_past _ _ _ hbn]; exact h.box.1 1
  rintro e w' ⟨rfl, rfl⟩
  go_wp2_with fail
  refine (check_ok _ _ _ h1a h1b).mono ?_
  rintro e w1 ⟨rfl, f1⟩
  obtain ⟨b1, z1⟩ := f1.box (alloc_at _ _) id
  go_wp2_with fail
  refine (check_ok _ _ _ h2a h2b).mono ?_
  rintro e w2 ⟨rfl, f2⟩
  have f3 := f1.trans f2
  obtain ⟨b2, z2⟩ := f3.box (alloc_at _ _) id
  clear b1 z1
  go_wp2_with fail
  go_ret
  exact ⟨rfl, ((Fr.refl _ _).alloc _).trans f3⟩

set_option maxRecDepth 100000 in
set_option maxHeartbeats 1000000 in
theorem put_nil {w : World} (p : Parcel) (v : Value) :
    Calls Try.prog 10 #[.pointer none, .agg #[.bool p.fa, .int .i64 p.fn, .bool p.ta, .int .i64 p.tn, v]] w fun e w' => e = .returned (.int .i64 4) ∧ Fr Non w w' := by
  go_enter Try.func10, Try.ntmps10
  go_wp2_with fail
  refine (made_nil _).mono ?_
  rintro e w' ⟨rfl, rfl⟩
  go_wp2_with fail
  go_ret
  exact ⟨rfl, (Fr.refl _ _).alloc _⟩

set_option maxRecDepth 100000 in
set_option maxHeartbeats 1000000 in
theorem put_zero {w : World} {bn : Nat} (h : w.cell? ⟨bn, 1, none⟩ = some (.map none)) (p : Parcel) (v : Value) :
    Calls Try.prog 10 #[.pointer (some ⟨bn, 0, none⟩), .agg #[.bool p.fa, .int .i64 p.fn, .bool p.ta, .int .i64 p.tn, v]] w fun e w' => e = .returned (.int .i64 4) ∧ Fr Non w w' := by
  go_enter Try.func10, Try.ntmps10
  go_wp2_with fail
  refine (made_zero _ _ (((Fr.refl Non w).alloc _).cell h id)).mono ?_
  rintro e w' ⟨rfl, rfl⟩
  go_wp2_with fail
  go_ret
  exact ⟨rfl, (Fr.refl _ _).alloc _⟩

def statsOf (a b c d : Int) : Value := .agg #[.int .i64 a, .int .i64 b, .int .i64 c, .int .i64 d]

set_option maxRecDepth 100000 in
set_option maxHeartbeats 1000000 in
theorem stats_nil {w : World} : Calls Try.prog 17 #[.pointer none] w fun e w' => e = .returned (statsOf 0 0 0 0) ∧ Fr Non w w' := by
  go_enter Try.func17, Try.ntmps17
  go_wp2_with fail
  refine (made_nil _).mono ?_
  rintro e w' ⟨rfl, rfl⟩
  go_wp2_with fail
  refine bodyPost_ret (v := statsOf 0 0 0 0) (by simp [results, Try.results17, go_sem, statsOf]) rfl ⟨rfl, (Fr.refl _ _).alloc _⟩

set_option maxRecDepth 100000 in
set_option maxHeartbeats 1000000 in
theorem stats_zero {w : World} {bn : Nat} (h : w.cell? ⟨bn, 1, none⟩ = some (.map none)) : Calls Try.prog 17 #[.pointer (some ⟨bn, 0, none⟩)] w fun e w' => e = .returned (statsOf 0 0 0 0) ∧ Fr Non w w' := by
  go_enter Try.func17, Try.ntmps17
  go_wp2_with fail
  refine (made_zero _ _ (((Fr.refl Non w).alloc _).cell h id)).mono ?_
  rintro e w' ⟨rfl, rfl⟩
  go_wp2_with fail
  refine bodyPost_ret (v := statsOf 0 0 0 0) (by simp [results, Try.results17, go_sem, statsOf]) rfl ⟨rfl, (Fr.refl _ _).alloc _⟩

set_option maxRecDepth 100000 in
set_option maxHeartbeats 2000000 in
theorem stats_any {w : World} {bn bm : Nat} {lv : Value} {vs : List Value} {k : Nat} {st : NetSt} (h : NetAt w bn bm lv vs k st) :
    Calls Try.prog 17 #[.pointer (some ⟨bn, 0, none⟩)] w fun e w' => e = .returned (statsOf (st.c 0) (st.c 1) (st.c 2) (st.c 3)) ∧ Fr Non w w' := by
  go_enter Try.func17, Try.ntmps17
  go_wp2_with fail
  have f0 : Fr Non w (w.alloc (.cells #[.int .i64 0, .int .i64 0, .int .i64 0, .int .i64 0] 44)) := (Fr.refl _ _).alloc _
  have h1 := h.fr f0 (fun _ _ => id)
  refine (made_yes _ bm _ (h1.box.1 1)).mono ?_
  rintro e w' ⟨rfl, rfl⟩
  go_wp2_with fail
  have q1 := h1.box.1 1
  simp only [List.getElem?_toArray, List.getElem?_cons_zero, List.getElem?_cons_succ] at q1
  have h2 := h1.fr (Fr.drew (Fr.refl Non _)) (fun _ _ => id)
  have l0 := h2.look 0 (by decide)
  have l1 := h2.look 1 (by decide)
  have l2 := h2.look 2 (by decide)
  have l3 := h2.look 3 (by decide)
  refine wp_draw [((fun w' => w' = (w.alloc (.cells #[.int .i64 0, .int .i64 0, .int .i64 0, .int .i64 0] 44)).drew), [(.free, 0), (.free, 1), (.free, 2), (.held, 3), (.held, 4), (.free, 5), (.free, 6), (.free, 7), (.held, 8), (.held, 9), (.free, 10), (.free, 11), (.free, 12), (.held, 13), (.held, 14), (.free, 15), (.free, 16), (.free, 17), (.held, 18), (.held, 19), (.free, 20)])] 21 (by kernel_rfl) (by kernel_rfl) (fun _ _ _ _ _ h => h) ⟨rfl, ?_⟩
  repeat (first
    | (refine' wpPlan_free (v := _) rfl (by rfl) ?_ ?_
       rotate_left
       · (intro w'; go_simp; try rfl)
       simp only [List.getElem_toArray, List.getElem_cons_zero, List.getElem_cons_succ, Act.put, List.setIfInBounds_toArray, List.set_cons_zero, List.set_cons_succ])
    | (refine' wpPlan_held (v := _) rfl (by rfl) ?_ ?_
       rotate_left
       · (intro w' hS; subst hS; go_simp; try rfl)
       simp only [List.getElem_toArray, List.getElem_cons_zero, List.getElem_cons_succ, Act.put, List.setIfInBounds_toArray, List.set_cons_zero, List.set_cons_succ])
    | (refine' wpPlan_skip rfl (by rfl) ?_
       simp only [List.getElem_toArray, List.getElem_cons_zero, List.getElem_cons_succ, Act.put, List.setIfInBounds_toArray, List.set_cons_zero, List.set_cons_succ])
    | (refine' wpPlan_skipHeld rfl (by rfl) ?_
       simp only [List.getElem_toArray, List.getElem_cons_zero, List.getElem_cons_succ, Act.put, List.setIfInBounds_toArray, List.set_cons_zero, List.set_cons_succ]))
  refine wpPlan_end ?_
  simp only [wpSegs, List.drop_succ_cons, List.drop_zero]
  go_wp2_with fail
  refine bodyPost_ret (v := statsOf (st.c 0) (st.c 1) (st.c 2) (st.c 3)) (by simp [results, Try.results17, go_sem, statsOf]) rfl ⟨rfl, ?_⟩
  exact ((Fr.refl _ _).alloc _).drew
end Go.Proofs.Ytkmpmibjenodlaa
