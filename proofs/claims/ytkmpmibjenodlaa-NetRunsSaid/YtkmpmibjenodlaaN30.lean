/-
  Net: the steps side by side.
-/
import Derived.Test.YtkmpmibjenodlaaN29
namespace Go.Proofs.Ytkmpmibjenodlaa
open Go.RowKit Go.Maps

section
variable {w0 w : World} {N R : List Nat} {bn rb k : Nat} {st : NetSt} (B : Both w0 w N R bn rb k k st st) (hk : k < 1000000) (fa ta : Bool) (fn tn i m : Int) (ua : Option Addr) (uc : Nat) (bs : List UInt8)
include B hk

set_option maxRecDepth 100000 in
set_option maxHeartbeats 4000000 in
theorem step2 : Calls Try.prog 20 #[.pointer (some ⟨bn, 0, none⟩), .pointer (some ⟨rb, 0, none⟩), .agg #[.int .i64 2, .bool fa, .int .i64 fn, .bool ta, .int .i64 tn, .slice ua bs.length uc, .int .i64 i, .int .i64 m]] w fun e w' =>
    e = .returned (.bool true) ∧ Fr (fun b => b ∈ N ∨ b ∈ R) w w' ∧ Stepped w0 bn rb (k + 1) w' := by
  go_enter Try.func20, Try.ntmps20
  go_wp2_with fail
  have f1 : Fr (fun b => b ∈ N ∨ b ∈ R) w (w.alloc (.cells #[.int .i64 2, .bool fa, .int .i64 fn, .bool ta, .int .i64 tn, .slice ua bs.length uc, .int .i64 i, .int .i64 m] 32)) := (Fr.refl _ _).alloc _
  have b1 := alloc_at w (.cells #[.int .i64 2, .bool fa, .int .i64 fn, .bool ta, .int .i64 tn, .slice ua bs.length uc, .int .i64 i, .int .i64 m] 32)
  have B1 := B.quiet ((Fr.refl Non w).alloc (.cells #[.int .i64 2, .bool fa, .int .i64 fn, .bool ta, .int .i64 tn, .slice ua bs.length uc, .int .i64 i, .int .i64 m] 32))
  have hN : w.heap.size ∉ N := fun e => by have := B.net.lt _ e; omega
  have hR : w.heap.size ∉ R := fun e => by have := B.ref.lt _ e; omega
  generalize w.alloc (.cells #[.int .i64 2, .bool fa, .int .i64 fn, .bool ta, .int .i64 tn, .slice ua bs.length uc, .int .i64 i, .int .i64 m] 32) = w1 at f1 b1 B1 ⊢
  obtain ⟨p, hp⟩ : ∃ p, pAt st i = p := ⟨_, rfl⟩
  obtain ⟨d, hd⟩ : ∃ d, cAt st i = d := ⟨_, rfl⟩
  have X := x_take B1.net hk i
  simp only [hp, hd, pcs] at X
  refine X.mono ?_
  clear X
  rintro e w2 ⟨a2, c2, rfl, g2, f2, N2, n2, s2, ap⟩
  obtain ⟨N2', B2⟩ := B1.netp ⟨f2, N2, n2, s2⟩
  have ha : ∀ b, a2 = some b → b.block ∉ R := fun b hb hr => (ap b hb).2.elim (fun h => B1.dj _ h hr) (fun h => by have := B1.ref.lt _ hr; omega)
  have b2 := f2.heap b1 hN
  have G2 := grow_src g2
  clear g2
  have fz : Fr Non w2 (w2.alloc (.cells #[.bool p.fa, .int .i64 p.fn, .bool p.ta, .int .i64 p.tn, .slice a2 p.b.length c2] 30)) := (Fr.refl _ _).alloc _
  obtain ⟨q2, z2⟩ := fz.box b2 id
  go_wp2_with fail
  have B3 := B2.quiet fz
  have X := r_take B3.ref hk i
  simp only [hp, hd, pcs] at X
  refine X.mono ?_
  clear X
  rintro e w4 ⟨a4, c4, rfl, g4, hp4⟩
  obtain ⟨R4, B4⟩ := B3.refp hp4
  have hR2 : w2.heap.size ∉ R := fun e => by have := B2.ref.lt _ e; omega
  have p4 := hp4.1.heap (alloc_at w2 _) hR2
  have u4 := (G2.alloc (.cells #[.bool p.fa, .int .i64 p.fn, .bool p.ta, .int .i64 p.tn, .slice a2 p.b.length c2] 30)).keep (w' := w4) fun a c he hb => hp4.1.block _ hb (by cases he; exact ha _ rfl)
  have fy : Fr Non w4 (w4.alloc (.cells #[.bool p.fa, .int .i64 p.fn, .bool p.ta, .int .i64 p.tn, .slice a4 p.b.length c4] 30)) := (Fr.refl _ _).alloc _
  obtain ⟨q4, z4⟩ := fy.box p4 id
  have hz : w2.heap.size < w4.heap.size := lt_of_block p4
  clear q2 z2
  go_wp2_with fail
  refine (same_any p p _ _ (u4.alloc _) (g4.alloc _)).mono ?_
  rintro e w6 ⟨rfl, f6⟩
  rw [decide_eq_true rfl]
  clear q4 z4
  go_wp2_with fail
  go_ret
  exact ⟨by trivial, ((((f1.trans2 f2 (fun _ _ h => .inl h)).alloc _).trans2 hp4.1 (fun _ _ h => .inr h)).trans (fy.mono (fun _ _ => False.elim))).trans (f6.mono (fun _ _ => False.elim)), _, _, _, (B4.quiet fy).quiet f6⟩

set_option maxRecDepth 100000 in
set_option maxHeartbeats 4000000 in
theorem step3 : Calls Try.prog 20 #[.pointer (some ⟨bn, 0, none⟩), .pointer (some ⟨rb, 0, none⟩), .agg #[.int .i64 3, .bool fa, .int .i64 fn, .bool ta, .int .i64 tn, .slice ua bs.length uc, .int .i64 i, .int .i64 m]] w fun e w' =>
    e = .returned (.bool true) ∧ Fr (fun b => b ∈ N ∨ b ∈ R) w w' ∧ Stepped w0 bn rb (k + 1) w' := by
  go_enter Try.func20, Try.ntmps20
  go_wp2_with fail
  have f1 : Fr (fun b => b ∈ N ∨ b ∈ R) w (w.alloc (.cells #[.int .i64 3, .bool fa, .int .i64 fn, .bool ta, .int .i64 tn, .slice ua bs.length uc, .int .i64 i, .int .i64 m] 32)) := (Fr.refl _ _).alloc _
  have b1 := alloc_at w (.cells #[.int .i64 3, .bool fa, .int .i64 fn, .bool ta, .int .i64 tn, .slice ua bs.length uc, .int .i64 i, .int .i64 m] 32)
  have B1 := B.quiet ((Fr.refl Non w).alloc (.cells #[.int .i64 3, .bool fa, .int .i64 fn, .bool ta, .int .i64 tn, .slice ua bs.length uc, .int .i64 i, .int .i64 m] 32))
  have hN : w.heap.size ∉ N := fun e => by have := B.net.lt _ e; omega
  have hR : w.heap.size ∉ R := fun e => by have := B.ref.lt _ e; omega
  generalize w.alloc (.cells #[.int .i64 3, .bool fa, .int .i64 fn, .bool ta, .int .i64 tn, .slice ua bs.length uc, .int .i64 i, .int .i64 m] 32) = w1 at f1 b1 B1 ⊢
  obtain ⟨p, hp⟩ : ∃ p, pAt st i = p := ⟨_, rfl⟩
  obtain ⟨d, hd⟩ : ∃ d, cAt st i = d := ⟨_, rfl⟩
  have X := x_twin B1.net hk i
  simp only [hp, hd, pcs] at X
  refine X.mono ?_
  clear X
  rintro e w2 ⟨a2, c2, rfl, g2, f2, n2, ap⟩
  obtain ⟨N2', B2⟩ := B1.netp ⟨f2, _, n2, fun b hb => .inl hb⟩
  have ha : ∀ b, a2 = some b → b.block ∉ R := fun b hb hr => by have := B1.ref.lt _ hr; have := ap b hb; omega
  have b2 := f2.heap b1 hN
  have G2 := grow_src g2
  clear g2
  have fz : Fr Non w2 (w2.alloc (.cells #[.bool p.fa, .int .i64 p.fn, .bool p.ta, .int .i64 p.tn, .slice a2 p.b.length c2] 30)) := (Fr.refl _ _).alloc _
  obtain ⟨q2, z2⟩ := fz.box b2 id
  go_wp2_with fail
  have B3 := B2.quiet fz
  have X := r_twin B3.ref hk i
  simp only [hp, hd, pcs] at X
  refine X.mono ?_
  clear X
  rintro e w4 ⟨a4, c4, rfl, g4, hp4⟩
  obtain ⟨R4, B4⟩ := B3.refp hp4
  have hR2 : w2.heap.size ∉ R := fun e => by have := B2.ref.lt _ e; omega
  have p4 := hp4.1.heap (alloc_at w2 _) hR2
  have u4 := (G2.alloc (.cells #[.bool p.fa, .int .i64 p.fn, .bool p.ta, .int .i64 p.tn, .slice a2 p.b.length c2] 30)).keep (w' := w4) fun a c he hb => hp4.1.block _ hb (by cases he; exact ha _ rfl)
  have fy : Fr Non w4 (w4.alloc (.cells #[.bool p.fa, .int .i64 p.fn, .bool p.ta, .int .i64 p.tn, .slice a4 p.b.length c4] 30)) := (Fr.refl _ _).alloc _
  obtain ⟨q4, z4⟩ := fy.box p4 id
  have hz : w2.heap.size < w4.heap.size := lt_of_block p4
  clear q2 z2
  go_wp2_with fail
  refine (same_any p p _ _ (u4.alloc _) (g4.alloc _)).mono ?_
  rintro e w6 ⟨rfl, f6⟩
  rw [decide_eq_true rfl]
  clear q4 z4
  go_wp2_with fail
  go_ret
  exact ⟨by trivial, ((((f1.trans2 f2 (fun _ _ h => .inl h)).alloc _).trans2 hp4.1 (fun _ _ h => .inr h)).trans (fy.mono (fun _ _ => False.elim))).trans (f6.mono (fun _ _ => False.elim)), _, _, _, (B4.quiet fy).quiet f6⟩

set_option maxRecDepth 100000 in
set_option maxHeartbeats 4000000 in
theorem step7 : Calls Try.prog 20 #[.pointer (some ⟨bn, 0, none⟩), .pointer (some ⟨rb, 0, none⟩), .agg #[.int .i64 7, .bool fa, .int .i64 fn, .bool ta, .int .i64 tn, .slice ua bs.length uc, .int .i64 i, .int .i64 m]] w fun e w' =>
    e = .returned (.bool true) ∧ Fr (fun b => b ∈ N ∨ b ∈ R) w w' ∧ Stepped w0 bn rb (k + 1) w' := by
  go_enter Try.func20, Try.ntmps20
  go_wp2_with fail
  have f1 : Fr (fun b => b ∈ N ∨ b ∈ R) w (w.alloc (.cells #[.int .i64 7, .bool fa, .int .i64 fn, .bool ta, .int .i64 tn, .slice ua bs.length uc, .int .i64 i, .int .i64 m] 32)) := (Fr.refl _ _).alloc _
  have b1 := alloc_at w (.cells #[.int .i64 7, .bool fa, .int .i64 fn, .bool ta, .int .i64 tn, .slice ua bs.length uc, .int .i64 i, .int .i64 m] 32)
  have B1 := B.quiet ((Fr.refl Non w).alloc (.cells #[.int .i64 7, .bool fa, .int .i64 fn, .bool ta, .int .i64 tn, .slice ua bs.length uc, .int .i64 i, .int .i64 m] 32))
  have hN : w.heap.size ∉ N := fun e => by have := B.net.lt _ e; omega
  have hR : w.heap.size ∉ R := fun e => by have := B.ref.lt _ e; omega
  generalize w.alloc (.cells #[.int .i64 7, .bool fa, .int .i64 fn, .bool ta, .int .i64 tn, .slice ua bs.length uc, .int .i64 i, .int .i64 m] 32) = w1 at f1 b1 B1 ⊢
  obtain ⟨p, hp⟩ : ∃ p, pAt st i = p := ⟨_, rfl⟩
  obtain ⟨d, hd⟩ : ∃ d, cAt st i = d := ⟨_, rfl⟩
  have X := x_at B1.net i
  simp only [hp, hd, pcs] at X
  refine X.mono ?_
  clear X
  rintro e w2 ⟨a2, c2, rfl, g2, f2, ap⟩
  have B2 := B1.quiet f2
  have b2 := f2.heap b1 id
  have G2 := grow_src g2
  clear g2
  have fz : Fr Non w2 (w2.alloc (.cells #[.bool p.fa, .int .i64 p.fn, .bool p.ta, .int .i64 p.tn, .slice a2 p.b.length c2] 30)) := (Fr.refl _ _).alloc _
  obtain ⟨q2, z2⟩ := fz.box b2 id
  go_wp2_with fail
  have B3 := B2.quiet fz
  have X := r_at B3.ref i
  simp only [hp, hd, pcs] at X
  refine X.mono ?_
  clear X
  rintro e w4 ⟨a4, c4, rfl, g4, f4⟩
  have B4 := B3.quiet f4
  have p4 := f4.heap (alloc_at w2 _) id
  have u4 := (G2.alloc (.cells #[.bool p.fa, .int .i64 p.fn, .bool p.ta, .int .i64 p.tn, .slice a2 p.b.length c2] 30)).keep (w' := w4) fun a c he hb => f4.block _ hb id
  have fy : Fr Non w4 (w4.alloc (.cells #[.bool p.fa, .int .i64 p.fn, .bool p.ta, .int .i64 p.tn, .slice a4 p.b.length c4] 30)) := (Fr.refl _ _).alloc _
  obtain ⟨q4, z4⟩ := fy.box p4 id
  have hz : w2.heap.size < w4.heap.size := lt_of_block p4
  clear q2 z2
  go_wp2_with fail
  refine (same_any p p _ _ (u4.alloc _) (g4.alloc _)).mono ?_
  rintro e w6 ⟨rfl, f6⟩
  rw [decide_eq_true rfl]
  clear q4 z4
  go_wp2_with fail
  go_ret
  exact ⟨by trivial, ((((f1.trans (f2.mono (fun _ _ => False.elim))).alloc _).trans (f4.mono (fun _ _ => False.elim))).trans (fy.mono (fun _ _ => False.elim))).trans (f6.mono (fun _ _ => False.elim)), _, _, _, (((B4.quiet fy).quiet f6).mono (Nat.le_succ k) (Nat.le_succ k) hk)⟩

set_option maxRecDepth 100000 in
set_option maxHeartbeats 4000000 in
theorem step4 : Calls Try.prog 20 #[.pointer (some ⟨bn, 0, none⟩), .pointer (some ⟨rb, 0, none⟩), .agg #[.int .i64 4, .bool fa, .int .i64 fn, .bool ta, .int .i64 tn, .slice ua bs.length uc, .int .i64 i, .int .i64 m]] w fun e w' =>
    e = .returned (.bool true) ∧ Fr (fun b => b ∈ N ∨ b ∈ R) w w' ∧ Stepped w0 bn rb (k + 1) w' := by
  go_enter Try.func20, Try.ntmps20
  go_wp2_with fail
  have f1 : Fr (fun b => b ∈ N ∨ b ∈ R) w (w.alloc (.cells #[.int .i64 4, .bool fa, .int .i64 fn, .bool ta, .int .i64 tn, .slice ua bs.length uc, .int .i64 i, .int .i64 m] 32)) := (Fr.refl _ _).alloc _
  have b1 := alloc_at w (.cells #[.int .i64 4, .bool fa, .int .i64 fn, .bool ta, .int .i64 tn, .slice ua bs.length uc, .int .i64 i, .int .i64 m] 32)
  have B1 := B.quiet ((Fr.refl Non w).alloc (.cells #[.int .i64 4, .bool fa, .int .i64 fn, .bool ta, .int .i64 tn, .slice ua bs.length uc, .int .i64 i, .int .i64 m] 32))
  have hN : w.heap.size ∉ N := fun e => by have := B.net.lt _ e; omega
  have hR : w.heap.size ∉ R := fun e => by have := B.ref.lt _ e; omega
  generalize w.alloc (.cells #[.int .i64 4, .bool fa, .int .i64 fn, .bool ta, .int .i64 tn, .slice ua bs.length uc, .int .i64 i, .int .i64 m] 32) = w1 at f1 b1 B1 ⊢
  refine wp_draw [((fun x => x.heap[w.heap.size]? = some (.cells #[.int .i64 4, .bool fa, .int .i64 fn, .bool ta, .int .i64 tn, .slice ua bs.length uc, .int .i64 i, .int .i64 m] 32 (0, 0))), [(.free, 0), (.free, 1), (.held, 2), (.free, 4), (.free, 5), (.held, 6), (.kept, 3), (.kept, 7), (.free, 8), (.free, 9)])] 10 (by kernel_rfl) (by kernel_rfl) (fun _ _ _ _ _ h => h) ⟨b1, ?_⟩
  have Bd := B1.quiet (Fr.refl Non w1).drew
  have bd : w1.drew.heap[w.heap.size]? = some (.cells #[.int .i64 4, .bool fa, .int .i64 fn, .bool ta, .int .i64 tn, .slice ua bs.length uc, .int .i64 i, .int .i64 m] 32 (0, 0)) := b1
  have fd := f1.drew
  clear b1 B1 f1
  generalize w1.drew = wd at Bd bd fd ⊢
  repeat (first
    | (refine' wpPlan_free (v := _) rfl (by rfl) ?_ ?_
       rotate_left
       · (intro w'; go_simp; try rfl)
       simp only [List.getElem_toArray, List.getElem_cons_zero, List.getElem_cons_succ, Act.put, List.setIfInBounds_toArray, List.set_cons_zero, List.set_cons_succ])
    | (refine' wpPlan_held (v := _) rfl (by rfl) ?_ ?_
       rotate_left
       · (intro w' hS; obtain ⟨q1, _⟩ := box_facts hS; clear hS; go_simp; try rfl)
       simp only [List.getElem_toArray, List.getElem_cons_zero, List.getElem_cons_succ, Act.put, List.setIfInBounds_toArray, List.set_cons_zero, List.set_cons_succ])
    | (refine' wpPlan_skip rfl (by rfl) ?_
       simp only [List.getElem_toArray, List.getElem_cons_zero, List.getElem_cons_succ, Act.put, List.setIfInBounds_toArray, List.set_cons_zero, List.set_cons_succ])
    | (refine' wpPlan_skipHeld rfl (by rfl) ?_
       simp only [List.getElem_toArray, List.getElem_cons_zero, List.getElem_cons_succ, Act.put, List.setIfInBounds_toArray, List.set_cons_zero, List.set_cons_succ]))
  refine' wpPlan_kept rfl ?_
  intro K hK
  go_simp
  refine (x_drop Bd.net hk i).mono ?_
  rintro e w3 ⟨rfl, hp⟩
  obtain ⟨N3, B3⟩ := Bd.netp hp
  have b3 := hp.1.heap bd hN
  go_simp
  refine hK _ _ ⟨b3, ?_⟩
  clear hK K
  repeat (first
    | (refine' wpPlan_free (v := _) rfl (by rfl) ?_ ?_
       rotate_left
       · (intro w'; go_simp; try rfl)
       simp only [List.getElem_toArray, List.getElem_cons_zero, List.getElem_cons_succ, Act.put, List.setIfInBounds_toArray, List.set_cons_zero, List.set_cons_succ])
    | (refine' wpPlan_held (v := _) rfl (by rfl) ?_ ?_
       rotate_left
       · (intro w' hS; obtain ⟨q1, _⟩ := box_facts hS; clear hS; go_simp; try rfl)
       simp only [List.getElem_toArray, List.getElem_cons_zero, List.getElem_cons_succ, Act.put, List.setIfInBounds_toArray, List.set_cons_zero, List.set_cons_succ])
    | (refine' wpPlan_skip rfl (by rfl) ?_
       simp only [List.getElem_toArray, List.getElem_cons_zero, List.getElem_cons_succ, Act.put, List.setIfInBounds_toArray, List.set_cons_zero, List.set_cons_succ])
    | (refine' wpPlan_skipHeld rfl (by rfl) ?_
       simp only [List.getElem_toArray, List.getElem_cons_zero, List.getElem_cons_succ, Act.put, List.setIfInBounds_toArray, List.set_cons_zero, List.set_cons_succ]))
  refine' wpPlan_kept rfl ?_
  intro K hK
  go_simp
  refine (r_drop B3.ref hk i).mono ?_
  rintro e w5 ⟨rfl, hp5⟩
  obtain ⟨R5, B5⟩ := B3.refp hp5
  have b5 := hp5.1.heap b3 hR
  go_simp
  refine hK _ _ ⟨b5, ?_⟩
  clear hK K
  generalize cAt st i = d
  repeat (first
    | (refine' wpPlan_free (v := _) rfl (by rfl) ?_ ?_
       rotate_left
       · (intro w'; go_simp; try rfl)
       simp only [List.getElem_toArray, List.getElem_cons_zero, List.getElem_cons_succ, Act.put, List.setIfInBounds_toArray, List.set_cons_zero, List.set_cons_succ])
    | (refine' wpPlan_held (v := _) rfl (by rfl) ?_ ?_
       rotate_left
       · (intro w' hS; obtain ⟨q1, _⟩ := box_facts hS; clear hS; go_simp; try rfl)
       simp only [List.getElem_toArray, List.getElem_cons_zero, List.getElem_cons_succ, Act.put, List.setIfInBounds_toArray, List.set_cons_zero, List.set_cons_succ])
    | (refine' wpPlan_skip rfl (by rfl) ?_
       simp only [List.getElem_toArray, List.getElem_cons_zero, List.getElem_cons_succ, Act.put, List.setIfInBounds_toArray, List.set_cons_zero, List.set_cons_succ])
    | (refine' wpPlan_skipHeld rfl (by rfl) ?_
       simp only [List.getElem_toArray, List.getElem_cons_zero, List.getElem_cons_succ, Act.put, List.setIfInBounds_toArray, List.set_cons_zero, List.set_cons_succ]))
  refine wpPlan_end ?_
  simp only [wpSegs, List.drop_succ_cons, List.drop_zero]
  go_wp2_with fail
  go_ret
  exact ⟨by trivial, (fd.trans2 hp.1 (fun _ _ h => .inl h)).trans2 hp5.1 (fun _ _ h => .inr h), _, _, _, B5⟩

set_option maxRecDepth 100000 in
set_option maxHeartbeats 4000000 in
theorem step5 : Calls Try.prog 20 #[.pointer (some ⟨bn, 0, none⟩), .pointer (some ⟨rb, 0, none⟩), .agg #[.int .i64 5, .bool fa, .int .i64 fn, .bool ta, .int .i64 tn, .slice ua bs.length uc, .int .i64 i, .int .i64 m]] w fun e w' =>
    e = .returned (.bool true) ∧ Fr (fun b => b ∈ N ∨ b ∈ R) w w' ∧ Stepped w0 bn rb (k + 1) w' := by
  go_enter Try.func20, Try.ntmps20
  go_wp2_with fail
  have f1 : Fr (fun b => b ∈ N ∨ b ∈ R) w (w.alloc (.cells #[.int .i64 5, .bool fa, .int .i64 fn, .bool ta, .int .i64 tn, .slice ua bs.length uc, .int .i64 i, .int .i64 m] 32)) := (Fr.refl _ _).alloc _
  have b1 := alloc_at w (.cells #[.int .i64 5, .bool fa, .int .i64 fn, .bool ta, .int .i64 tn, .slice ua bs.length uc, .int .i64 i, .int .i64 m] 32)
  have B1 := B.quiet ((Fr.refl Non w).alloc (.cells #[.int .i64 5, .bool fa, .int .i64 fn, .bool ta, .int .i64 tn, .slice ua bs.length uc, .int .i64 i, .int .i64 m] 32))
  have hN : w.heap.size ∉ N := fun e => by have := B.net.lt _ e; omega
  have hR : w.heap.size ∉ R := fun e => by have := B.ref.lt _ e; omega
  generalize w.alloc (.cells #[.int .i64 5, .bool fa, .int .i64 fn, .bool ta, .int .i64 tn, .slice ua bs.length uc, .int .i64 i, .int .i64 m] 32) = w1 at f1 b1 B1 ⊢
  refine wp_draw [((fun x => x.heap[w.heap.size]? = some (.cells #[.int .i64 5, .bool fa, .int .i64 fn, .bool ta, .int .i64 tn, .slice ua bs.length uc, .int .i64 i, .int .i64 m] 32 (0, 0))), [(.free, 0), (.free, 1), (.held, 2), (.free, 3), (.held, 4), (.free, 6), (.free, 7), (.held, 8), (.free, 9), (.held, 10), (.kept, 5), (.kept, 11), (.free, 12), (.free, 13)])] 14 (by kernel_rfl) (by kernel_rfl) (fun _ _ _ _ _ h => h) ⟨b1, ?_⟩
  have Bd := B1.quiet (Fr.refl Non w1).drew
  have bd : w1.drew.heap[w.heap.size]? = some (.cells #[.int .i64 5, .bool fa, .int .i64 fn, .bool ta, .int .i64 tn, .slice ua bs.length uc, .int .i64 i, .int .i64 m] 32 (0, 0)) := b1
  have fd := f1.drew
  clear b1 B1 f1
  generalize w1.drew = wd at Bd bd fd ⊢
  repeat (first
    | (refine' wpPlan_free (v := _) rfl (by rfl) ?_ ?_
       rotate_left
       · (intro w'; go_simp; try rfl)
       simp only [List.getElem_toArray, List.getElem_cons_zero, List.getElem_cons_succ, Act.put, List.setIfInBounds_toArray, List.set_cons_zero, List.set_cons_succ])
    | (refine' wpPlan_held (v := _) rfl (by rfl) ?_ ?_
       rotate_left
       · (intro w' hS; obtain ⟨q1, _⟩ := box_facts hS; clear hS; go_simp; try rfl)
       simp only [List.getElem_toArray, List.getElem_cons_zero, List.getElem_cons_succ, Act.put, List.setIfInBounds_toArray, List.set_cons_zero, List.set_cons_succ])
    | (refine' wpPlan_skip rfl (by rfl) ?_
       simp only [List.getElem_toArray, List.getElem_cons_zero, List.getElem_cons_succ, Act.put, List.setIfInBounds_toArray, List.set_cons_zero, List.set_cons_succ])
    | (refine' wpPlan_skipHeld rfl (by rfl) ?_
       simp only [List.getElem_toArray, List.getElem_cons_zero, List.getElem_cons_succ, Act.put, List.setIfInBounds_toArray, List.set_cons_zero, List.set_cons_succ]))
  refine' wpPlan_kept rfl ?_
  intro K hK
  go_simp
  refine (x_swap Bd.net i m).mono ?_
  rintro e w3 ⟨rfl, hp⟩
  obtain ⟨N3, B3⟩ := Bd.netp hp
  have b3 := hp.1.heap bd hN
  go_simp
  refine hK _ _ ⟨b3, ?_⟩
  clear hK K
  repeat (first
    | (refine' wpPlan_free (v := _) rfl (by rfl) ?_ ?_
       rotate_left
       · (intro w'; go_simp; try rfl)
       simp only [List.getElem_toArray, List.getElem_cons_zero, List.getElem_cons_succ, Act.put, List.setIfInBounds_toArray, List.set_cons_zero, List.set_cons_succ])
    | (refine' wpPlan_held (v := _) rfl (by rfl) ?_ ?_
       rotate_left
       · (intro w' hS; obtain ⟨q1, _⟩ := box_facts hS; clear hS; go_simp; try rfl)
       simp only [List.getElem_toArray, List.getElem_cons_zero, List.getElem_cons_succ, Act.put, List.setIfInBounds_toArray, List.set_cons_zero, List.set_cons_succ])
    | (refine' wpPlan_skip rfl (by rfl) ?_
       simp only [List.getElem_toArray, List.getElem_cons_zero, List.getElem_cons_succ, Act.put, List.setIfInBounds_toArray, List.set_cons_zero, List.set_cons_succ])
    | (refine' wpPlan_skipHeld rfl (by rfl) ?_
       simp only [List.getElem_toArray, List.getElem_cons_zero, List.getElem_cons_succ, Act.put, List.setIfInBounds_toArray, List.set_cons_zero, List.set_cons_succ]))
  refine' wpPlan_kept rfl ?_
  intro K hK
  go_simp
  refine (r_swap B3.ref hk i m).mono ?_
  rintro e w5 ⟨rfl, hp5⟩
  obtain ⟨R5, B5⟩ := B3.refp hp5
  have b5 := hp5.1.heap b3 hR
  go_simp
  refine hK _ _ ⟨b5, ?_⟩
  clear hK K
  generalize cSwap st i m = d
  repeat (first
    | (refine' wpPlan_free (v := _) rfl (by rfl) ?_ ?_
       rotate_left
       · (intro w'; go_simp; try rfl)
       simp only [List.getElem_toArray, List.getElem_cons_zero, List.getElem_cons_succ, Act.put, List.setIfInBounds_toArray, List.set_cons_zero, List.set_cons_succ])
    | (refine' wpPlan_held (v := _) rfl (by rfl) ?_ ?_
       rotate_left
       · (intro w' hS; obtain ⟨q1, _⟩ := box_facts hS; clear hS; go_simp; try rfl)
       simp only [List.getElem_toArray, List.getElem_cons_zero, List.getElem_cons_succ, Act.put, List.setIfInBounds_toArray, List.set_cons_zero, List.set_cons_succ])
    | (refine' wpPlan_skip rfl (by rfl) ?_
       simp only [List.getElem_toArray, List.getElem_cons_zero, List.getElem_cons_succ, Act.put, List.setIfInBounds_toArray, List.set_cons_zero, List.set_cons_succ])
    | (refine' wpPlan_skipHeld rfl (by rfl) ?_
       simp only [List.getElem_toArray, List.getElem_cons_zero, List.getElem_cons_succ, Act.put, List.setIfInBounds_toArray, List.set_cons_zero, List.set_cons_succ]))
  refine wpPlan_end ?_
  simp only [wpSegs, List.drop_succ_cons, List.drop_zero]
  go_wp2_with fail
  go_ret
  exact ⟨by trivial, (fd.trans2 hp.1 (fun _ _ h => .inl h)).trans2 hp5.1 (fun _ _ h => .inr h), _, _, _, B5⟩

set_option maxRecDepth 100000 in
set_option maxHeartbeats 4000000 in
theorem step6 : Calls Try.prog 20 #[.pointer (some ⟨bn, 0, none⟩), .pointer (some ⟨rb, 0, none⟩), .agg #[.int .i64 6, .bool fa, .int .i64 fn, .bool ta, .int .i64 tn, .slice ua bs.length uc, .int .i64 i, .int .i64 m]] w fun e w' =>
    e = .returned (.bool true) ∧ Fr (fun b => b ∈ N ∨ b ∈ R) w w' ∧ Stepped w0 bn rb (k + 1) w' := by
  go_enter Try.func20, Try.ntmps20
  go_wp2_with fail
  have f1 : Fr (fun b => b ∈ N ∨ b ∈ R) w (w.alloc (.cells #[.int .i64 6, .bool fa, .int .i64 fn, .bool ta, .int .i64 tn, .slice ua bs.length uc, .int .i64 i, .int .i64 m] 32)) := (Fr.refl _ _).alloc _
  have b1 := alloc_at w (.cells #[.int .i64 6, .bool fa, .int .i64 fn, .bool ta, .int .i64 tn, .slice ua bs.length uc, .int .i64 i, .int .i64 m] 32)
  have B1 := B.quiet ((Fr.refl Non w).alloc (.cells #[.int .i64 6, .bool fa, .int .i64 fn, .bool ta, .int .i64 tn, .slice ua bs.length uc, .int .i64 i, .int .i64 m] 32))
  have hN : w.heap.size ∉ N := fun e => by have := B.net.lt _ e; omega
  have hR : w.heap.size ∉ R := fun e => by have := B.ref.lt _ e; omega
  generalize w.alloc (.cells #[.int .i64 6, .bool fa, .int .i64 fn, .bool ta, .int .i64 tn, .slice ua bs.length uc, .int .i64 i, .int .i64 m] 32) = w1 at f1 b1 B1 ⊢
  refine (x_cut B1.net hk fa fn).mono ?_
  rintro e w2 ⟨rfl, hp2⟩
  obtain ⟨N2, B2⟩ := B1.netp hp2
  have b2 := hp2.1.heap b1 hN
  obtain ⟨q2, z2⟩ := box_facts b2
  go_wp2_with fail
  refine (r_cut B2.ref hk fa fn).mono ?_
  rintro e w4 ⟨rfl, hp4⟩
  obtain ⟨R4, B4⟩ := B2.refp hp4
  generalize kCut st fa fn = x
  generalize cCut fn = y
  clear q2 z2
  go_wp2_with fail
  go_ret
  exact ⟨by trivial, (f1.trans2 hp2.1 (fun _ _ h => .inl h)).trans2 hp4.1 (fun _ _ h => .inr h), _, _, _, B4⟩

set_option maxRecDepth 100000 in
set_option maxHeartbeats 4000000 in
theorem step8 : Calls Try.prog 20 #[.pointer (some ⟨bn, 0, none⟩), .pointer (some ⟨rb, 0, none⟩), .agg #[.int .i64 8, .bool fa, .int .i64 fn, .bool ta, .int .i64 tn, .slice ua bs.length uc, .int .i64 i, .int .i64 m]] w fun e w' =>
    e = .returned (.bool true) ∧ Fr (fun b => b ∈ N ∨ b ∈ R) w w' ∧ Stepped w0 bn rb (k + 1) w' := by
  go_enter Try.func20, Try.ntmps20
  go_wp2_with fail
  have f1 : Fr (fun b => b ∈ N ∨ b ∈ R) w (w.alloc (.cells #[.int .i64 8, .bool fa, .int .i64 fn, .bool ta, .int .i64 tn, .slice ua bs.length uc, .int .i64 i, .int .i64 m] 32)) := (Fr.refl _ _).alloc _
  have b1 := alloc_at w (.cells #[.int .i64 8, .bool fa, .int .i64 fn, .bool ta, .int .i64 tn, .slice ua bs.length uc, .int .i64 i, .int .i64 m] 32)
  have B1 := B.quiet ((Fr.refl Non w).alloc (.cells #[.int .i64 8, .bool fa, .int .i64 fn, .bool ta, .int .i64 tn, .slice ua bs.length uc, .int .i64 i, .int .i64 m] 32))
  have hN : w.heap.size ∉ N := fun e => by have := B.net.lt _ e; omega
  have hR : w.heap.size ∉ R := fun e => by have := B.ref.lt _ e; omega
  generalize w.alloc (.cells #[.int .i64 8, .bool fa, .int .i64 fn, .bool ta, .int .i64 tn, .slice ua bs.length uc, .int .i64 i, .int .i64 m] 32) = w1 at f1 b1 B1 ⊢
  refine wp_draw [((fun x => x.heap[w.heap.size]? = some (.cells #[.int .i64 8, .bool fa, .int .i64 fn, .bool ta, .int .i64 tn, .slice ua bs.length uc, .int .i64 i, .int .i64 m] 32 (0, 0))), [(.free, 0), (.free, 1), (.free, 2), (.held, 3), (.free, 5), (.free, 6), (.free, 7), (.held, 8), (.kept, 4), (.kept, 9), (.kept, 10), (.free, 11)])] 12 (by kernel_rfl) (by kernel_rfl) (fun _ _ _ _ _ h => h) ⟨b1, ?_⟩
  have Bd := B1.quiet (Fr.refl Non w1).drew
  have bd : w1.drew.heap[w.heap.size]? = some (.cells #[.int .i64 8, .bool fa, .int .i64 fn, .bool ta, .int .i64 tn, .slice ua bs.length uc, .int .i64 i, .int .i64 m] 32 (0, 0)) := b1
  have fd := f1.drew
  clear b1 B1 f1
  generalize w1.drew = wd at Bd bd fd ⊢
  repeat (first
    | (refine' wpPlan_free (v := _) rfl (by rfl) ?_ ?_
       rotate_left
       · (intro w'; go_simp; try rfl)
       simp only [List.getElem_toArray, List.getElem_cons_zero, List.getElem_cons_succ, Act.put, List.setIfInBounds_toArray, List.set_cons_zero, List.set_cons_succ])
    | (refine' wpPlan_held (v := _) rfl (by rfl) ?_ ?_
       rotate_left
       · (intro w' hS; obtain ⟨q1, _⟩ := box_facts hS; clear hS; go_simp; try rfl)
       simp only [List.getElem_toArray, List.getElem_cons_zero, List.getElem_cons_succ, Act.put, List.setIfInBounds_toArray, List.set_cons_zero, List.set_cons_succ])
    | (refine' wpPlan_skip rfl (by rfl) ?_
       simp only [List.getElem_toArray, List.getElem_cons_zero, List.getElem_cons_succ, Act.put, List.setIfInBounds_toArray, List.set_cons_zero, List.set_cons_succ])
    | (refine' wpPlan_skipHeld rfl (by rfl) ?_
       simp only [List.getElem_toArray, List.getElem_cons_zero, List.getElem_cons_succ, Act.put, List.setIfInBounds_toArray, List.set_cons_zero, List.set_cons_succ]))
  refine' wpPlan_kept rfl ?_
  intro K hK
  go_simp
  refine (x_to Bd.net ta tn).mono ?_
  rintro e w3 ⟨a3, c3, rfl, g3, f3, hfull⟩
  have B3 := Bd.quiet f3
  have b3 := f3.heap bd id
  go_simp
  refine hK _ _ ⟨b3, ?_⟩
  clear hK K
  repeat (first
    | (refine' wpPlan_free (v := _) rfl (by rfl) ?_ ?_
       rotate_left
       · (intro w'; go_simp; try rfl)
       simp only [List.getElem_toArray, List.getElem_cons_zero, List.getElem_cons_succ, Act.put, List.setIfInBounds_toArray, List.set_cons_zero, List.set_cons_succ])
    | (refine' wpPlan_held (v := _) rfl (by rfl) ?_ ?_
       rotate_left
       · (intro w' hS; obtain ⟨q1, _⟩ := box_facts hS; clear hS; go_simp; try rfl)
       simp only [List.getElem_toArray, List.getElem_cons_zero, List.getElem_cons_succ, Act.put, List.setIfInBounds_toArray, List.set_cons_zero, List.set_cons_succ])
    | (refine' wpPlan_skip rfl (by rfl) ?_
       simp only [List.getElem_toArray, List.getElem_cons_zero, List.getElem_cons_succ, Act.put, List.setIfInBounds_toArray, List.set_cons_zero, List.set_cons_succ])
    | (refine' wpPlan_skipHeld rfl (by rfl) ?_
       simp only [List.getElem_toArray, List.getElem_cons_zero, List.getElem_cons_succ, Act.put, List.setIfInBounds_toArray, List.set_cons_zero, List.set_cons_succ]))
  refine' wpPlan_kept rfl ?_
  intro K hK
  go_simp
  refine (r_to B3.ref ta tn).mono ?_
  rintro e w5 ⟨a5, c5, rfl, g5, f5⟩
  have B5 := B3.quiet f5
  have b5 := f5.heap b3 id
  go_simp
  refine hK _ _ ⟨b5, ?_⟩
  clear hK K
  repeat (first
    | (refine' wpPlan_free (v := _) rfl (by rfl) ?_ ?_
       rotate_left
       · (intro w'; go_simp; try rfl)
       simp only [List.getElem_toArray, List.getElem_cons_zero, List.getElem_cons_succ, Act.put, List.setIfInBounds_toArray, List.set_cons_zero, List.set_cons_succ])
    | (refine' wpPlan_held (v := _) rfl (by rfl) ?_ ?_
       rotate_left
       · (intro w' hS; obtain ⟨q1, _⟩ := box_facts hS; clear hS; go_simp; try rfl)
       simp only [List.getElem_toArray, List.getElem_cons_zero, List.getElem_cons_succ, Act.put, List.setIfInBounds_toArray, List.set_cons_zero, List.set_cons_succ])
    | (refine' wpPlan_skip rfl (by rfl) ?_
       simp only [List.getElem_toArray, List.getElem_cons_zero, List.getElem_cons_succ, Act.put, List.setIfInBounds_toArray, List.set_cons_zero, List.set_cons_succ])
    | (refine' wpPlan_skipHeld rfl (by rfl) ?_
       simp only [List.getElem_toArray, List.getElem_cons_zero, List.getElem_cons_succ, Act.put, List.setIfInBounds_toArray, List.set_cons_zero, List.set_cons_succ]))
  refine' wpPlan_kept rfl ?_
  intro K hK
  go_simp
  have hlen := toIdx_len ta tn st.l st.l.length
  refine (ints_same (g3.keep fun b hb => f5.block b (g3.lt b hb) id) g5 (by omega)).mono ?_
  rintro e w6 ⟨rfl, f6⟩
  go_simp
  refine hK _ _ ⟨f6.heap b5 id, ?_⟩
  clear hK K
  repeat (first
    | (refine' wpPlan_free (v := _) rfl (by rfl) ?_ ?_
       rotate_left
       · (intro w'; go_simp; try rfl)
       simp only [List.getElem_toArray, List.getElem_cons_zero, List.getElem_cons_succ, Act.put, List.setIfInBounds_toArray, List.set_cons_zero, List.set_cons_succ])
    | (refine' wpPlan_held (v := _) rfl (by rfl) ?_ ?_
       rotate_left
       · (intro w' hS; obtain ⟨q1, _⟩ := box_facts hS; clear hS; go_simp; try rfl)
       simp only [List.getElem_toArray, List.getElem_cons_zero, List.getElem_cons_succ, Act.put, List.setIfInBounds_toArray, List.set_cons_zero, List.set_cons_succ])
    | (refine' wpPlan_skip rfl (by rfl) ?_
       simp only [List.getElem_toArray, List.getElem_cons_zero, List.getElem_cons_succ, Act.put, List.setIfInBounds_toArray, List.set_cons_zero, List.set_cons_succ])
    | (refine' wpPlan_skipHeld rfl (by rfl) ?_
       simp only [List.getElem_toArray, List.getElem_cons_zero, List.getElem_cons_succ, Act.put, List.setIfInBounds_toArray, List.set_cons_zero, List.set_cons_succ]))
  refine wpPlan_end ?_
  simp only [wpSegs, List.drop_succ_cons, List.drop_zero]
  go_wp2_with fail
  go_ret
  exact ⟨by trivial, ((fd.trans (f3.mono (fun _ _ => False.elim))).trans (f5.mono (fun _ _ => False.elim))).trans (f6.mono (fun _ _ => False.elim)), _, _, _, ((B5.quiet f6).mono (Nat.le_succ k) (Nat.le_succ k) hk)⟩

set_option maxRecDepth 100000 in
set_option maxHeartbeats 4000000 in
theorem step0 (kd : Int) (h1 : (kd == 1) = false) (h2 : (kd == 2) = false) (h3 : (kd == 3) = false) (h4 : (kd == 4) = false) (h5 : (kd == 5) = false) (h6 : (kd == 6) = false) (h7 : (kd == 7) = false) (h8 : (kd == 8) = false) :
    Calls Try.prog 20 #[.pointer (some ⟨bn, 0, none⟩), .pointer (some ⟨rb, 0, none⟩), .agg #[.int .i64 kd, .bool fa, .int .i64 fn, .bool ta, .int .i64 tn, .slice ua bs.length uc, .int .i64 i, .int .i64 m]] w fun e w' =>
      e = .returned (.bool true) ∧ Fr (fun b => b ∈ N ∨ b ∈ R) w w' ∧ Stepped w0 bn rb (k + 1) w' := by
  go_enter Try.func20, Try.ntmps20
  go_wp2_with fail
  go_ret
  exact ⟨by trivial, (Fr.refl _ _).alloc _, _, _, _, ((B.quiet ((Fr.refl _ _).alloc _)).mono (Nat.le_succ k) (Nat.le_succ k) hk)⟩
end

theorem step_any {w0 w : World} {N R : List Nat} {bn rb k : Nat} {st : NetSt} (B : Both w0 w N R bn rb k k st st) (hk : k < 1000000) (kd : Int) (fa ta : Bool) (fn tn i m : Int) (ua : Option Addr) (uc : Nat) (bs : List UInt8)
    (hv : Sl kByte (Old w0) w0 (.slice ua bs.length uc) bs) (hl : bs.length ≤ maxLen) :
    Calls Try.prog 20 #[.pointer (some ⟨bn, 0, none⟩), .pointer (some ⟨rb, 0, none⟩), .agg #[.int .i64 kd, .bool fa, .int .i64 fn, .bool ta, .int .i64 tn, .slice ua bs.length uc, .int .i64 i, .int .i64 m]] w fun e w' =>
      e = .returned (.bool true) ∧ Fr (fun b => b ∈ N ∨ b ∈ R) w w' ∧ Stepped w0 bn rb (k + 1) w' := by
  by_cases h1 : kd = 1
  · subst h1; exact step1 B hk fa ta fn tn i m ua uc bs hv hl
  by_cases h2 : kd = 2
  · subst h2; exact step2 B hk fa ta fn tn i m ua uc bs
  by_cases h3 : kd = 3
  · subst h3; exact step3 B hk fa ta fn tn i m ua uc bs
  by_cases h4 : kd = 4
  · subst h4; exact step4 B hk fa ta fn tn i m ua uc bs
  by_cases h5 : kd = 5
  · subst h5; exact step5 B hk fa ta fn tn i m ua uc bs
  by_cases h6 : kd = 6
  · subst h6; exact step6 B hk fa ta fn tn i m ua uc bs
  by_cases h7 : kd = 7
  · subst h7; exact step7 B hk fa ta fn tn i m ua uc bs
  by_cases h8 : kd = 8
  · subst h8; exact step8 B hk fa ta fn tn i m ua uc bs
  exact step0 B hk fa ta fn tn i m ua uc bs kd (by simpa using h1) (by simpa using h2) (by simpa using h3) (by simpa using h4) (by simpa using h5) (by simpa using h6) (by simpa using h7) (by simpa using h8)
end Go.Proofs.Ytkmpmibjenodlaa
