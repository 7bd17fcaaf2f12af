/-
  Net: the reference's At, Twin, Take, Drop.
-/
import Derived.Test.YtkmpmibjenodlaaN23
namespace Go.Proofs.Ytkmpmibjenodlaa
open Go.RowKit Go.Maps

theorem RefAt.parcel {w : World} {rb : Nat} {a : Option Addr} {c : Nat} {us : List Value} {k : Nat} {st : NetSt} (h : RefAt w rb (.slice a st.l.length c) us k st) (j : Nat) (hj : j < st.l.length) :
    ∃ g va vc, a = some ⟨g, 0, none⟩ ∧ st.l.length ≤ c ∧ c ≤ maxLen ∧ w.cell? ⟨g, j * 5, none⟩ = some (.bool st.l[j].fa) ∧ w.cell? ⟨g, j * 5 + 1, none⟩ = some (.int .i64 st.l[j].fn) ∧
      w.cell? ⟨g, j * 5 + 2, none⟩ = some (.bool st.l[j].ta) ∧ w.cell? ⟨g, j * 5 + 3, none⟩ = some (.int .i64 st.l[j].tn) ∧ w.cell? ⟨g, j * 5 + 4, none⟩ = some (.slice va st.l[j].b.length vc) ∧
      us[j]? = some (.slice va st.l[j].b.length vc) ∧ Src w 1 (.slice va st.l[j].b.length vc) st.l[j].b.length (bcs st.l[j].b) ∧ (∀ b, va = some b → b.block ∈ us.filterMap Value.ownBlock) := by
  have hl := h.bytes.len
  have hju : j < us.length := by omega
  obtain ⟨g, rfl, e0, e1, e2, e3, e4⟩ := all_at h.row hl j hj
  have hf := h.bytes.form j hj hju
  obtain ⟨va, vc, hv⟩ := hf.form
  rw [hv] at e4 hf
  rcases h.row.2 with ⟨he, h0⟩ | ⟨g', cap, cur, he, hgg, hl1, hm, _⟩
  · cases he
  · cases he
    refine ⟨_, va, vc, rfl, hl1, hm, e0, e1, e2, e3, e4, by rw [List.getElem?_eq_getElem hju, hv], grow_src hf, fun b hb => List.mem_filterMap.2 ⟨_, List.getElem_mem hju, ?_⟩⟩
    rw [hv, hb]; rfl

set_option maxRecDepth 100000 in
set_option maxHeartbeats 2000000 in
theorem ref_at {w : World} {rb : Nat} {lv : Value} {us : List Value} {k : Nat} {st : NetSt} (h : RefAt w rb lv us k st) (i : Int) :
    Calls Try.prog 36 #[.pointer (some ⟨rb, 0, none⟩), .int .i64 i] w fun e w' =>
      ∃ a c, e = .returned (.tuple #[.agg (pcs (pAt st i) (.slice a (pAt st i).b.length c)).toArray, .int .i64 (cAt st i)]) ∧ Src w' 1 (.slice a (pAt st i).b.length c) (pAt st i).b.length (bcs (pAt st i).b) ∧
        Fr Non w w' ∧ (∀ b, a = some b → b.block ∈ refFp rb lv us) := by
  obtain ⟨a, c, rfl⟩ := h.row.form
  have f0 : Fr Non w (w.alloc (.cells #[.bool false, .int .i64 0, .bool false, .int .i64 0, .slice none 0 0] 30)) := (Fr.refl Non w).alloc _
  have h1 := h.fr f0 (fun _ _ => id)
  by_cases hi : isI st i
  · obtain ⟨j, rfl, hj⟩ := isI_nat hi
    have e1 : pAt st (j : Int) = st.l[j] := by unfold pAt; rw [if_pos hi]; simp [List.getD, hj]
    unfold cAt
    rw [e1, if_pos hi]
    have hd := decide_eq_true hi
    have j0 : (0 : Int) ≤ (j : Int) := by omega
    have j1 : (j : Int) < (st.l.length : Int) := by omega
    obtain ⟨q1, q2⟩ := h1.box
    obtain ⟨g, va, vc, rfl, hl, hm, e0, e1, e2, e3, e4, _, e6, e7⟩ := h1.parcel j hj
    have hfull := h.full
    unfold maxLen at hm
    generalize st.l[j] = p at e0 e1 e2 e3 e4 e6 e7 ⊢
    go_enter Try.func36, Try.ntmps36
    go_wp2_with fail
    refine (is_any h1 j).mono ?_
    rintro e w' ⟨rfl, rfl⟩
    rw [hd]
    clear hd
    have H6 := Lib.hid e6
    clear e6
    go_wp2_with fail
    refine bodyPost_ret (v := .tuple #[.agg (pcs p (.slice va p.b.length vc)).toArray, .int .i64 0]) (by simp [results, Try.results36, go_sem, pcs]) rfl ⟨va, vc, rfl, ?_, ?_, ?_⟩
    · refine H6.out.keep fun a' c' he _ => ?_
      cases he
      have := h.bytes.lt _ (e7 _ rfl)
      rw [Below.heap_alloc _ _ _ this, Below.heap_alloc _ _ _ this]
    · exact (Fr.refl Non w).alloc _
    · exact fun b hb => refFp_mem.2 (.inr (.inr (e7 b hb)))
  · have e1 : pAt st i = zp := by unfold pAt; rw [if_neg hi]
    unfold cAt
    rw [e1, if_neg hi]
    have hd := decide_eq_false hi
    go_enter Try.func36, Try.ntmps36
    go_wp2_with fail
    refine (is_any h1 i).mono ?_
    rintro e w' ⟨rfl, rfl⟩
    rw [hd]
    clear hd
    go_wp2_with fail
    refine bodyPost_ret (v := .tuple #[.agg (pcs zp (.slice none 0 0)).toArray, .int .i64 5]) (by simp [results, Try.results36, go_sem, pcs, zp]) rfl ⟨none, 0, rfl, grow_src (GRow.nil _ _ _), ?_, by simp⟩
    exact f0

set_option maxRecDepth 100000 in
set_option maxHeartbeats 2000000 in
theorem ref_twin {w : World} {rb : Nat} {lv : Value} {us : List Value} {k : Nat} {st : NetSt} (h : RefAt w rb lv us k st) (hk : k < 1000000) (i : Int) :
    Calls Try.prog 32 #[.pointer (some ⟨rb, 0, none⟩), .int .i64 i] w fun e w' =>
      ∃ a c, e = .returned (.tuple #[.agg (pcs (pAt st i) (.slice a (pAt st i).b.length c)).toArray, .int .i64 (cAt st i)]) ∧ Src w' 1 (.slice a (pAt st i).b.length c) (pAt st i).b.length (bcs (pAt st i).b) ∧
        RefPost w rb lv us (k + 1) (nTwin st i) w' ∧ (∀ b, a = some b → b.block ∈ refFp rb lv us) := by
  obtain ⟨a, c, rfl⟩ := h.row.form
  have f0 : Fr Non w (w.alloc (.cells #[.bool false, .int .i64 0, .bool false, .int .i64 0, .slice none 0 0] 30)) := (Fr.refl Non w).alloc _
  have h1 := h.fr f0 (fun _ _ => id)
  have hrb := lt_of_block h.cell
  by_cases hi : isI st i
  · obtain ⟨j, rfl, hj⟩ := isI_nat hi
    have e1 : pAt st (j : Int) = st.l[j] := by unfold pAt; rw [if_pos hi]; simp [List.getD, hj]
    unfold cAt nTwin
    rw [e1, if_pos hi, if_pos hi]
    have hd := decide_eq_true hi
    have j0 : (0 : Int) ≤ (j : Int) := by omega
    have j1 : (j : Int) < (st.l.length : Int) := by omega
    obtain ⟨q1, q2⟩ := h1.box
    obtain ⟨c0, c1⟩ := h.cb 1
    have hs := h.small
    have W1 : IntKind.i64.wrap (st.c 1 + 1) = st.c 1 + 1 := IntWalk.i64_in _ (by omega)
    have h2 := h.count hk 1 1 1 rfl (by omega) (by omega)
    have f2 : Fr (fun b => b = rb) w (w.setCell ⟨rb, 2, none⟩ (.int .i64 (st.c 1 + 1))) := (Fr.refl (fun b => b = rb) _).setCell (.inl rfl) _
    simp only [Nat.reduceAdd] at h2
    have h3 := h2.fr ((Fr.refl Non _).alloc (.cells #[.bool false, .int .i64 0, .bool false, .int .i64 0, .slice none 0 0] 30)) (fun _ _ => id)
    obtain ⟨p1, p2⟩ := h3.box
    obtain ⟨g, va, vc, rfl, hl, hm, e0, e1, e2, e3, e4, u1, _, _⟩ := h3.parcel (st := { st with c := upd st.c 1 (st.c 1 + 1) }) j hj
    obtain ⟨ua, uc, u2, e6, e7⟩ : ∃ ua uc, us[j]? = some (.slice ua st.l[j].b.length uc) ∧ Src (w.setCell ⟨rb, 2, none⟩ (.int .i64 (st.c 1 + 1))) 1 (.slice ua st.l[j].b.length uc) st.l[j].b.length (bcs st.l[j].b) ∧ (∀ b, ua = some b → b.block ∈ us.filterMap Value.ownBlock) := by
      obtain ⟨_, ua, uc, _, _, _, _, _, _, _, _, u2, e6, e7⟩ := h2.parcel (st := { st with c := upd st.c 1 (st.c 1 + 1) }) j hj
      exact ⟨ua, uc, u2, e6, e7⟩
    rw [u1] at u2
    cases u2
    clear u1
    have hfull := h.full
    unfold maxLen at hm
    simp only at e0 e1 e2 e3 e4 e6 e7 p1
    generalize st.l[j] = p at e0 e1 e2 e3 e4 e6 e7 ⊢
    go_enter Try.func32, Try.ntmps32
    go_wp2_with fail
    refine (is_any h1 j).mono ?_
    rintro e w' ⟨rfl, rfl⟩
    rw [hd]
    clear hd
    have H6 := Lib.hid e6
    clear e6
    go_wp2_with fail
    refine bodyPost_ret (v := .tuple #[.agg (pcs p (.slice va p.b.length vc)).toArray, .int .i64 0]) (by simp [results, Try.results32, go_sem, pcs]) rfl ⟨va, vc, rfl, H6.out.alloc _, ⟨?_, _, _, h2.fr ((Fr.refl Non _).alloc _) (fun _ _ => id), fun b hb => .inl hb⟩, ?_⟩
    · exact (f2.mono (fun b _ e => refFp_mem.2 (.inl e)) : Fr (fun b => b ∈ refFp rb _ us) w _).alloc _
    · exact fun b hb => refFp_mem.2 (.inr (.inr (e7 b hb)))
  · have e1 : pAt st i = zp := by unfold pAt; rw [if_neg hi]
    unfold cAt nTwin
    rw [e1, if_neg hi, if_neg hi]
    have hd := decide_eq_false hi
    go_enter Try.func32, Try.ntmps32
    go_wp2_with fail
    refine (is_any h1 i).mono ?_
    rintro e w' ⟨rfl, rfl⟩
    rw [hd]
    clear hd
    go_wp2_with fail
    refine bodyPost_ret (v := .tuple #[.agg (pcs zp (.slice none 0 0)).toArray, .int .i64 5]) (by simp [results, Try.results32, go_sem, pcs, zp]) rfl ⟨none, 0, rfl, grow_src (GRow.nil _ _ _), .quiet h hk ?_, by simp⟩
    exact f0

set_option maxRecDepth 100000 in
set_option maxHeartbeats 2000000 in
theorem ref_drop {w : World} {rb : Nat} {lv : Value} {us : List Value} {k : Nat} {st : NetSt} (h : RefAt w rb lv us k st) (hk : k < 1000000) (i : Int) :
    Calls Try.prog 33 #[.pointer (some ⟨rb, 0, none⟩), .int .i64 i] w fun e w' => e = .returned (.int .i64 (cAt st i)) ∧ RefPost w rb lv us (k + 1) (nDrop st i) w' := by
  by_cases hi : isI st i
  · obtain ⟨j, rfl, hj⟩ := isI_nat hi
    unfold cAt nDrop
    rw [if_pos hi, if_pos hi]
    have hd := decide_eq_true hi
    obtain ⟨c0, c1⟩ := h.cb 2
    have hs := h.small
    have W1 : IntKind.i64.wrap (st.c 2 + 1) = st.c 2 + 1 := IntWalk.i64_in _ (by omega)
    go_enter Try.func33, Try.ntmps33
    go_wp2_with fail
    refine (is_any h j).mono ?_
    rintro e w' ⟨rfl, rfl⟩
    rw [hd]
    clear hd
    go_wp2_with fail
    refine (off_any h j hj).mono ?_
    rintro e w1 ⟨rfl, f1, lv', h1, hn⟩
    obtain ⟨q1, q2⟩ := h1.box
    simp only at q1
    go_wp2_with fail
    go_ret
    refine ⟨rfl, (f1.mono (fun b _ e => refFp_mem.2 (.inl e)) : Fr (fun b => b ∈ refFp rb lv us) _ w1).setCell (.inl (refFp_mem.2 (.inl rfl))) _, _, _, h1.count hk 2 2 1 rfl (by omega) (by omega), fun b hb => ?_⟩
    rcases refFp_mem.1 hb with rfl | hb | hb
    · exact .inl (refFp_mem.2 (.inl rfl))
    · exact .inr (hn b hb)
    · exact .inl (refFp_mem.2 (.inr (.inr (((List.eraseIdx_sublist us j).filterMap _).subset hb))))
  · unfold cAt nDrop
    rw [if_neg hi, if_neg hi]
    have hd := decide_eq_false hi
    go_enter Try.func33, Try.ntmps33
    go_wp2_with fail
    refine (is_any h i).mono ?_
    rintro e w' ⟨rfl, rfl⟩
    rw [hd]
    clear hd
    go_wp2_with fail
    go_ret
    exact ⟨rfl, .quiet h hk (Fr.refl _ _)⟩

set_option maxRecDepth 100000 in
set_option maxHeartbeats 2000000 in
theorem ref_take {w : World} {rb : Nat} {lv : Value} {us : List Value} {k : Nat} {st : NetSt} (h : RefAt w rb lv us k st) (hk : k < 1000000) (i : Int) :
    Calls Try.prog 31 #[.pointer (some ⟨rb, 0, none⟩), .int .i64 i] w fun e w' =>
      ∃ a c, e = .returned (.tuple #[.agg (pcs (pAt st i) (.slice a (pAt st i).b.length c)).toArray, .int .i64 (cAt st i)]) ∧ Src w' 1 (.slice a (pAt st i).b.length c) (pAt st i).b.length (bcs (pAt st i).b) ∧
        RefPost w rb lv us (k + 1) (nTake st i) w' ∧ (∀ b, a = some b → b.block ∈ refFp rb lv us) := by
  obtain ⟨a, c, rfl⟩ := h.row.form
  have f0 : Fr Non w (w.alloc (.cells #[.bool false, .int .i64 0, .bool false, .int .i64 0, .slice none 0 0] 30)) := (Fr.refl Non w).alloc _
  have h1 := h.fr f0 (fun _ _ => id)
  have hrb := lt_of_block h.cell
  by_cases hi : isI st i
  · obtain ⟨j, rfl, hj⟩ := isI_nat hi
    have e1 : pAt st (j : Int) = st.l[j] := by unfold pAt; rw [if_pos hi]; simp [List.getD, hj]
    unfold cAt nTake
    rw [e1, if_pos hi, if_pos hi]
    have hd := decide_eq_true hi
    have j0 : (0 : Int) ≤ (j : Int) := by omega
    have j1 : (j : Int) < (st.l.length : Int) := by omega
    obtain ⟨q1, q2⟩ := h1.box
    obtain ⟨c0, c1⟩ := h.cb 1
    have hs := h.small
    have W1 : IntKind.i64.wrap (st.c 1 + 1) = st.c 1 + 1 := IntWalk.i64_in _ (by omega)
    obtain ⟨g, va, vc, rfl, hl, hm, e0, e1, e2, e3, e4, _, e6, e7⟩ := h1.parcel j hj
    have hfull := h.full
    unfold maxLen at hm
    generalize hp : st.l[j] = p at e0 e1 e2 e3 e4 e6 e7 ⊢
    clear hp
    go_enter Try.func31, Try.ntmps31
    go_wp2_with fail
    refine (is_any h1 j).mono ?_
    rintro e w' ⟨rfl, rfl⟩
    rw [hd]
    clear hd
    have H6 := Lib.hid e6
    clear e6
    go_wp2_with fail
    have f3 := f0.alloc (.cells #[.bool p.fa, .int .i64 p.fn, .bool p.ta, .int .i64 p.tn, .slice va p.b.length vc] 30)
    have h3 := h.fr f3 (fun _ _ => id)
    refine (off_any h3 j hj).mono ?_
    rintro e w1 ⟨rfl, f4, lv', h4, hn⟩
    have hne : w.heap.size ≠ rb ∧ w.heap.size + 1 ≠ rb := by omega
    have g1 := f4.heap (alloc_at2 w _ _) hne.1
    have g2 := f4.heap (alloc_at2' w _ _) hne.2
    have hz := f4.size
    simp only [World.size_alloc] at hz
    obtain ⟨b1, z1⟩ := box_facts g1
    obtain ⟨b2, z2⟩ := box_facts g2
    obtain ⟨p1, p2⟩ := h4.box
    have h5 := h4.count hk 1 1 1 rfl (by omega) (by omega)
    have f5 : Fr (fun b => b = rb) w1 (w1.setCell ⟨rb, 2, none⟩ (.int .i64 (st.c 1 + 1))) := (Fr.refl (fun b => b = rb) _).setCell (.inl rfl) _
    obtain ⟨b5, z5⟩ := f5.box g1 hne.1
    simp only at p1 h5
    clear e0 e1 e2 e3 e4 q1 q2
    go_wp2_with fail
    have f6 := set5_fr (w1.setCell ⟨rb, 2, none⟩ (.int .i64 (st.c 1 + 1))) w.heap.size p (.slice va p.b.length vc)
    have hsub : ∀ b ∈ (us.eraseIdx j).filterMap Value.ownBlock, b ∈ us.filterMap Value.ownBlock := fun b hb => ((List.eraseIdx_sublist us j).filterMap _).subset hb
    have f7 : Fr (fun b => b ∈ refFp rb (.slice (some ⟨g, 0, none⟩) st.l.length c) us) w w1 := (f3.mono (fun _ _ => False.elim)).trans2 f4 (fun b _ e => refFp_mem.2 (.inl e))
    refine bodyPost_ret (v := .tuple #[.agg (pcs p (.slice va p.b.length vc)).toArray, .int .i64 0]) (by simp [results, Try.results31, go_sem, pcs, b5]) rfl ⟨va, vc, rfl, ?_, ⟨?_, _, _, h5.fr f6 (fun b hb e => ?_), fun b hb => ?_⟩, ?_⟩
    · refine (H6.out.keep fun a' c' he _ => ?_ : Src _ 1 _ _ _)
      cases he
      have hb := h.bytes.lt _ (e7 _ rfl)
      have hbr : _ ≠ rb := fun e => h.ne2 (e ▸ e7 _ rfl)
      have hs1 := f5.size
      have hs2 := f4.size
      simp only [World.size_alloc] at hs2
      exact (f6.block _ (by omega) (by omega)).trans ((f5.block _ (by omega) hbr).trans ((f4.block _ (by simp only [World.size_alloc]; omega) hbr).trans ((f3.block _ hb id).trans (Below.heap_alloc _ _ _ hb).symm)))
    · exact (f7.setCell (.inl (refFp_mem.2 (.inl rfl))) _).trans2 f6 (fun b hb e => by omega)
    · rcases refFp_mem.1 hb with rfl | hb | hb
      · omega
      · have := hn b hb; simp only [World.size_alloc] at this; omega
      · have := h.bytes.lt b (hsub b hb); omega
    · rcases refFp_mem.1 hb with rfl | hb | hb
      · exact .inl (refFp_mem.2 (.inl rfl))
      · have := hn b hb; simp only [World.size_alloc] at this; exact .inr (by omega)
      · exact .inl (refFp_mem.2 (.inr (.inr (hsub b hb))))
    · exact fun b hb => refFp_mem.2 (.inr (.inr (e7 b hb)))
  · have e1 : pAt st i = zp := by unfold pAt; rw [if_neg hi]
    unfold cAt nTake
    rw [e1, if_neg hi, if_neg hi]
    have hd := decide_eq_false hi
    go_enter Try.func31, Try.ntmps31
    go_wp2_with fail
    refine (is_any h1 i).mono ?_
    rintro e w' ⟨rfl, rfl⟩
    rw [hd]
    clear hd
    go_wp2_with fail
    refine bodyPost_ret (v := .tuple #[.agg (pcs zp (.slice none 0 0)).toArray, .int .i64 5]) (by simp [results, Try.results31, go_sem, pcs, zp]) rfl ⟨none, 0, rfl, grow_src (GRow.nil _ _ _), .quiet h hk ?_, by simp⟩
    exact f0
end Go.Proofs.Ytkmpmibjenodlaa
