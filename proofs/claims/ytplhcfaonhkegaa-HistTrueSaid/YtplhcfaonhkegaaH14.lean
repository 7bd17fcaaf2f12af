/-
  A history on the heap: its blocks by colors; made, place, New, All, Open.
-/
import Derived.Test.YtplhcfaonhkegaaH13
import Derived.Test.YtplhcfaonhkegaaH12
import Derived.Test.YtplhcfaonhkegaaO
namespace Go.Proofs.Ytplhcfaonhkegaa
open Go.RowKit Go.Maps

/-- Block hb is a history that reads as s: its own blocks are of color k, what it reads is of color 0. -/
def HistAt (c : Nat → Nat) (k : Nat) (w : World) (hb : Nat) (s : MHist) : Prop :=
  ∃ lv ov m n cs, w.heap[hb]? = some (.cells #[lv, .int .i64 s.1, .map (some m), ov] 95 (0, 0)) ∧
    GRow w 76 23 lv s.2.length cs ∧ Row kHap (fun b => c b = 0) w cs (hAll s.2) ∧
    GRow w 3 1 ov (hOpens s.2).length (ints (hOpens s.2)) ∧ MapO Try.prog 3 3 w m n (hMap s.2) ∧ n ≤ s.1 ∧
    c hb = k ∧ c m = k ∧ (∀ b, lv.ownBlock = some b → c b = k) ∧ (∀ b, ov.ownBlock = some b → c b = k)

theorem HistAt.fr {c c' : Nat → Nat} {k : Nat} {w w' : World} {hb : Nat} {s : MHist} {T : Nat → Prop} (h : HistAt c k w hb s) (f : Fr T w w') (hT : ∀ b, b < w.heap.size → T b → c b ≠ 0 ∧ c b ≠ k)
    (hc : ∀ b, b < w.heap.size → c' b = c b) : HistAt c' k w' hb s := by
  obtain ⟨lv, ov, m, n, cs, h1, h2, h3, h4, h5, h6, h7, h8, h9, h10⟩ := h
  have hk : ∀ b, b < w.heap.size → c b = k → ¬ T b := fun b hb e t => (hT b hb t).2 e
  have h0 : ∀ b, b < w.heap.size → c b = 0 → ¬ T b := fun b hb e t => (hT b hb t).1 e
  have l1 := lt_of_block h1
  exact ⟨lv, ov, m, n, cs, f.heap h1 (hk _ l1 h7), h2.keep fun b hb => f.block b (h2.lt b hb) (hk _ (h2.lt b hb) (h9 b hb)),
    h3.fr (fun b hb hs => f.block b hb (h0 b hb hs)) (fun b hb hs => by rw [hc b hb]; exact hs),
    h4.keep fun b hb => f.block b (h4.lt b hb) (hk _ (h4.lt b hb) (h10 b hb)), h5.keep (f.block m h5.lt (hk _ h5.lt h8)), h6,
    by rw [hc _ l1]; exact h7, by rw [hc _ h5.lt]; exact h8, fun b hb => by rw [hc _ (h2.lt b hb)]; exact h9 b hb, fun b hb => by rw [hc _ (h4.lt b hb)]; exact h10 b hb⟩
theorem HistAt.lt {c : Nat → Nat} {k : Nat} {w : World} {hb : Nat} {s : MHist} (h : HistAt c k w hb s) : hb < w.heap.size := by
  obtain ⟨lv, ov, m, n, cs, h1, _⟩ := h
  exact lt_of_block h1
/-- Cells over which nothing is said. -/
theorem Row.len_eq {α : Type} {k : Kd α} {S : Nat → Prop} {w : World} {cs : List Value} {l : List α} (h : Row k S w cs l) {n : Nat} (hn : n = l.length) : cs.length = n * k.sz := by rw [h.len, hn]

theorem run_neq93 (w : World) (r : Option Nat) : Sem.run Try.prog (binOp BinOp.neq 93 (Value.map r) (Value.map none)) w = .ok (.bool (!r.isNone)) w := run_neq_map_nil w 93 3 3 r Try.underlying93

set_option maxRecDepth 100000 in
set_option maxHeartbeats 1000000 in
theorem made_any {w : World} {hb m : Nat} {lv ov : Value} {n : Int} (h : w.heap[hb]? = some (.cells #[lv, .int .i64 n, .map (some m), ov] 95 (0, 0))) :
    Calls Try.prog 80 #[.pointer (some ⟨hb, 0, none⟩)] w fun e w' => e = .returned (.bool true) ∧ w = w' := by
  obtain ⟨x0, z0⟩ := box_facts h
  have c2 : w.cell? ⟨hb, 2, none⟩ = some (.map (some m)) := by rw [x0]; rfl
  clear x0 z0 h
  have hm := fun (w : World) r => run_neq93 w (some r)
  go_enter Try.func80, Try.ntmps80
  go_wp2_with fail
  go_ret
  exact ⟨by trivial, rfl⟩

set_option maxRecDepth 100000 in
set_option maxHeartbeats 1000000 in
theorem placeH_any {w : World} {hb m : Nat} {lv ov : Value} {n : Int} (h : w.heap[hb]? = some (.cells #[lv, .int .i64 n, .map (some m), ov] 95 (0, 0))) (h0 : 0 ≤ n) (h1 : n ≤ 100000) :
    Calls Try.prog 81 #[.pointer (some ⟨hb, 0, none⟩)] w fun e w' => e = .returned (.int .i64 n) ∧ w'.heap[hb]? = some (.cells #[lv, .int .i64 (n + 1), .map (some m), ov] 95 (0, 0)) ∧ Fr (fun b => b = hb) w w' := by
  obtain ⟨x0, z0⟩ := box_facts h
  have c1 : w.cell? ⟨hb, 1, none⟩ = some (.int .i64 n) := by rw [x0]; rfl
  have z1 := z0 1
  have H := Lib.hid h
  clear x0 z0 h
  go_enter Try.func81, Try.ntmps81
  go_wp2_with fail
  go_ret
  exact ⟨by trivial, by simpa using heap_setCell_same w hb 1 _ 95 (.int .i64 (n + 1)) H.out, (Fr.refl (fun b => b = hb) w).setCell (p := ⟨hb, 1, none⟩) (.inl rfl) _⟩

set_option maxRecDepth 100000 in
set_option maxHeartbeats 1000000 in
/-- New. -/
theorem new_any (w : World) (k : Nat) (c : Nat → Nat) : Calls Try.prog 43 #[] w fun e w' => ∃ hb, e = .returned (.pointer (some ⟨hb, 0, none⟩)) ∧ Fr Non w w' ∧ w.heap.size ≤ hb ∧ (∃ c', HistAt c' k w' hb (0, []) ∧ ∀ b, b < w.heap.size → c' b = c b) := by
  have hmm := @run_makeMap Try.prog
  go_enter Try.func43, Try.ntmps43
  go_wp2_with fail
  go_ret
  have f1 : Fr Non w ((w.alloc (.map #[] 0)).alloc (.cells #[.slice none 0 0, .int .i64 0, .map (some w.heap.size), .slice none 0 0] 95)) := ((Fr.refl _ _).alloc _).alloc _
  refine ⟨w.heap.size + 1, rfl, f1, by omega, fun b => if b < w.heap.size then c b else k, ⟨.slice none 0 0, .slice none 0 0, w.heap.size, 0, [], alloc_at2' _ _ _, GRow.nil _ _ _, rfl, GRow.nil _ _ _, ?_, Nat.le_refl _, if_neg (by omega), if_neg (by omega), by simp [Value.ownBlock], by simp [Value.ownBlock]⟩, fun b hb => by simp [hb]⟩
  have h := (MapO.made w Try.prog 3 3).keep (w' := (w.alloc (.map #[] 0)).alloc (.cells #[.slice none 0 0, .int .i64 0, .map (some w.heap.size), .slice none 0 0] 95)) (Below.heap_alloc _ _ _ (by simp))
  exact h

/-- Its parts, as the walks use them. -/
theorem HistAt.sl {c : Nat → Nat} {k : Nat} {w : World} {hb : Nat} {s : MHist} (h : HistAt c k w hb s) : ∃ lv ov m, w.heap[hb]? = some (.cells #[lv, .int .i64 s.1, .map (some m), ov] 95 (0, 0)) ∧ Sl kHap All w lv (hAll s.2) ∧ GRow w 3 1 ov (hOpens s.2).length (ints (hOpens s.2)) := by
  obtain ⟨lv, ov, m, n, cs, h1, h2, h3, h4, _⟩ := h
  refine ⟨lv, ov, m, h1, ?_, h4⟩
  have hl : (hAll s.2).length = s.2.length := by simp [hAll]
  rcases id h2.2 with ⟨rfl, h0⟩ | ⟨b, cap, cur, rfl, _, g1, g2, _⟩
  · exact .inl ⟨rfl, List.eq_nil_of_length_eq_zero (by omega)⟩
  · refine .inr ⟨_, cap, by rw [hl], by omega, g2, fun _ => ⟨rfl, trivial⟩, ?_⟩
    refine Elems.of_row (h3.fr (fun _ _ _ => rfl) (fun _ _ _ => trivial)) fun j u hu => ?_
    rw [Nat.zero_add]
    exact h2.cells rfl j u hu

set_option maxRecDepth 100000 in
set_option maxHeartbeats 1000000 in
/-- All. -/
theorem all_at {c : Nat → Nat} {k : Nat} {w : World} {hb : Nat} {s : MHist} (h : HistAt c k w hb s) (hok : HistOk s) :
    Calls Try.prog 47 #[.pointer (some ⟨hb, 0, none⟩)] w fun e w' => ∃ v, e = .returned v ∧ Build kHap 76 w' v (hAll s.2) ∧ Fr Non w w' ∧ ∀ b, v.ownBlock = some b → w.heap.size ≤ b := by
  obtain ⟨lv, ov, m, h1, h2, _⟩ := h.sl
  have hn : (hAll s.2).length ≤ 200000 := by have := hok.len; have := hok.most; simp [hAll]; omega
  have HC := Lib.hid (cloneHap_any h2 hn)
  have HM := Lib.hid (made_any h1)
  obtain ⟨a, n, rfl, _⟩ := h2.frm
  obtain ⟨x0, z0⟩ := box_facts h1
  have c0 : w.cell? ⟨hb, 0, none⟩ = some (.slice a (hAll s.2).length n) := by rw [x0]; rfl
  clear h h1 h2 x0 z0 hn hok
  generalize hAll s.2 = l at HC c0 ⊢
  go_enter Try.func47, Try.ntmps47
  go_wp2_with fail
  refine HM.out.mono ?_
  rintro e w' ⟨rfl, rfl⟩
  go_wp2_with fail
  refine HC.out.mono ?_
  rintro e w1 ⟨v, rfl, r1, r2, r3⟩
  go_wp2_with fail
  refine bodyPost_ret (v := v) (by simp [results, Try.results47, go_sem]) rfl ⟨v, rfl, r1, r2, r3⟩

set_option maxRecDepth 100000 in
set_option maxHeartbeats 1000000 in
/-- Open. -/
theorem open_at {c : Nat → Nat} {k : Nat} {w : World} {hb : Nat} {s : MHist} (h : HistAt c k w hb s) (hok : HistOk s) :
    Calls Try.prog 57 #[.pointer (some ⟨hb, 0, none⟩)] w fun e w' => ∃ v, e = .returned v ∧ GRow w' 3 1 v (hOpens s.2).length (ints (hOpens s.2)) ∧ Fr Non w w' := by
  obtain ⟨lv, ov, m, h1, _, h2⟩ := h.sl
  have hn : (hOpens s.2).length ≤ 200000 := by have := hok.len; have := hok.most; have := hOpens_len s.2; omega
  have HC := Lib.hid (cloneInts_any h2 hn)
  have HM := Lib.hid (made_any h1)
  obtain ⟨a, n, rfl⟩ := h2.form
  obtain ⟨x0, z0⟩ := box_facts h1
  have c3 : w.cell? ⟨hb, 3, none⟩ = some (.slice a (hOpens s.2).length n) := by rw [x0]; rfl
  clear h h1 h2 x0 z0 hn hok
  generalize hOpens s.2 = l at HC c3 ⊢
  go_enter Try.func57, Try.ntmps57
  go_wp2_with fail
  refine HM.out.mono ?_
  rintro e w' ⟨rfl, rfl⟩
  go_wp2_with fail
  refine HC.out.mono ?_
  rintro e w1 ⟨v, rfl, r1, r2, r3⟩
  go_wp2_with fail
  refine bodyPost_ret (v := v) (by simp [results, Try.results57, go_sem]) rfl ⟨v, rfl, r1, r2⟩
end Go.Proofs.Ytplhcfaonhkegaa
