/-
  Keys: read back out of bytes, on both sides.
-/
import Derived.Test.YthjfnpojelfekaaDoorK24
namespace Go.Proofs.YthjfnpojelfekaaDoor
open Go.RowKit

def rdStep (m : Nat) (c : UInt8) : Nat := m * 256 % 18446744073709551616 + c.toNat
def rdVal (l : List UInt8) : Nat := l.foldl rdStep 0
theorem rdStep_lt (m : Nat) (c : UInt8) : rdStep m c < 18446744073709551616 := by
  have := c.toNat_lt
  unfold rdStep
  omega
theorem rdStep_int (m : Nat) (c : UInt8) : bits .or .u64 (IntKind.u64.wrap ((m : Int) * 256)) (c.toNat : Int) = ((rdStep m c : Nat) : Int) := by
  have hc := c.toNat_lt
  have e : IntKind.u64.wrap ((m : Int) * 256) = ((m * 256 % 18446744073709551616 : Nat) : Int) := by rw [IntKind.wrap_u64]; omega
  rw [e, u64_or_nat _ _ (by omega) (by omega), nat_join 8 _ _ (by omega) (by omega)]
  rfl
theorem rdVal_next {l : List UInt8} {j : Nat} (h : j < l.length) : rdVal (l.take (j + 1)) = rdStep (rdVal (l.take j)) l[j] := by
  unfold rdVal
  rw [← List.take_append_getElem h, List.foldl_append]
  rfl
theorem block_set {w : World} {g : Nat} {cs : Array Value} {t : TypeId} {fr : Nat × Nat} (h : w.heap[g]? = some (.cells cs t fr)) (i : Nat) (v : Value) : (w.setCell ⟨g, i, none⟩ v).heap[g]? = some (.cells (cs.setIfInBounds i v) t fr) := by
  rw [setCell_eq_setRow w g i cs t fr v h]; exact setRow_heap w g _ _ t _ h
def kRead (l : List UInt8) : MK × Int :=
  if l.length = 9 then (if kOk (((l.headD 0).toNat : Int), (rdVal l.tail : Int)) then ((((l.headD 0).toNat : Int), (rdVal l.tail : Int)), 0) else ((0, 0), 20)) else ((0, 0), 20)
set_option maxRecDepth 100000 in
set_option maxHeartbeats 4000000 in
theorem read_any {S : Nat → Prop} {w : World} {v : Value} {l : List UInt8} (hl : Sl kByte S w v l) : Calls Tryd.prog 37 #[v] w fun e w' => e = .returned (pV (kRead l)) ∧ Fr Non w w' := by
  by_cases h9 : l.length = 9
  rotate_left
  · have HS := Lib.hid (show kRead l = ((0, 0), 20) by unfold kRead; rw [if_neg h9])
    obtain ⟨a, c, rfl⟩ : ∃ a c, v = .slice a l.length c := by
      rcases hl with ⟨rfl, rfl⟩ | ⟨a, c, rfl, _⟩
      · exact ⟨none, 0, rfl⟩
      · exact ⟨_, _, rfl⟩
    have n9 : ((l.length : Int) == 9) = false := by simp; omega
    have n9' : (l.length == 9) = false := by simpa using h9
    clear hl
    go_enter Tryd.func37, Tryd.ntmps37
    go_wp2_with fail
    refine bodyPost_ret (v := .tuple #[.agg #[.int .i64 0, .int .u64 0], .int .i64 20]) (by rw [results_cell_tmp rfl]; go_simp) rfl ⟨by rw [HS.out]; rfl, ?_⟩
    first | exact (Fr.refl _ _).alloc _ | exact ((Fr.refl _ _).alloc _).put2 (by omega) _ _
  obtain ⟨g, o, c, rfl, hc9, hE⟩ : ∃ g o c, v = .slice (some ⟨g, o, none⟩) 9 c ∧ 9 ≤ c ∧ ∀ j (h : j < l.length), w.cell? ⟨g, o + j, none⟩ = some (.int .u8 (l[j].toNat : Int)) := by
    rcases hl with ⟨rfl, rfl⟩ | ⟨⟨g, o, sp⟩, c, rfl, h1, h2, h3, h4⟩
    · simp at h9
    · have h0 := (h3 (by rintro rfl; simp at h9)).1
      simp only at h0
      subst h0
      refine ⟨g, o, c, by rw [h9], by omega, fun j hj => ?_⟩
      obtain ⟨cs, hr, hx⟩ := h4 j hj
      obtain rfl : cs = _ := hr
      have := hx 0 (by simp)
      simpa [kByte] using this
  obtain ⟨b0, t, rfl⟩ : ∃ b0 t, l = b0 :: t := by
    cases l with
    | nil => simp at h9
    | cons x y => exact ⟨x, y, rfl⟩
  have ht : t.length = 8 := by simpa using h9
  have x0 : w.cell? ⟨g, o, none⟩ = some (.int .u8 (b0.toNat : Int)) := by exact hE 0 (by simp)
  have HE := Lib.hid (show ∀ j (h : j < t.length), w.cell? ⟨g, o + 1 + j, none⟩ = some (.int .u8 (t[j].toNat : Int)) from fun j hj => by
    have := hE (j + 1) (by simpa using hj)
    rw [show o + 1 + j = o + (j + 1) by omega]
    exact this)
  have HT := Lib.hid ht
  have HS : ∀ W' : World, True := fun _ => trivial
  clear HS
  have HK := Lib.hid (show kRead (b0 :: t) = if kOk ((b0.toNat : Int), (rdVal t : Int)) then (((b0.toNat : Int), (rdVal t : Int)), 0) else ((0, 0), 20) by unfold kRead; rw [if_pos h9]; rfl)
  have hb := b0.toNat_lt
  have f0 : Fr Non w (w.alloc (.cells #[.int .i64 0, .int .u64 0] 25)) := (Fr.refl _ _).alloc _
  have x1 := f0.cell x0 id
  clear x0 f0
  have bm : ((b0.toNat : Nat) : Int) % 18446744073709551616 = b0.toNat := by omega
  have bW : IntKind.i64.wrap (b0.toNat : Int) = b0.toNat := by rw [IntWalk.i64_in _ (by omega)]
  clear hl hE h9 ht
  go_enter Tryd.func37, Tryd.ntmps37
  go_wp2_with fail
  have fA : Fr Non w ((w.alloc (.cells #[.int .i64 0, .int .u64 0] 25)).alloc (.cells #[.int .i64 b0.toNat, .int .u64 0] 25)) := ((Fr.refl _ _).alloc _).alloc _
  have bA := alloc_at2 w (.cells #[.int .i64 0, .int .u64 0] 25) (.cells #[.int .i64 b0.toNat, .int .u64 0] 25)
  have bB := alloc_at2' w (.cells #[.int .i64 0, .int .u64 0] 25) (.cells #[.int .i64 b0.toNat, .int .u64 0] 25)
  clear x1 bm bW
  go_loopw [20] (fun i wr => ∃ j : Nat, j ≤ 8 ∧ i = .int .i64 j ∧ Hid (Fr Non w wr ∧ wr.heap[w.heap.size]? = some (.cells #[.int .i64 0, .int .u64 0] 25 (0, 0)) ∧ wr.heap[w.heap.size + 1]? = some (.cells #[.int .i64 b0.toNat, .int .u64 (rdVal (t.take j))] 25 (0, 0)))) (fun i _ => (8 - RowKit.intOf i).toNat)
  case atStart => exact ⟨0, by omega, rfl, fA, bA, bB⟩
  case round =>
    obtain ⟨j, hj, rfl, HI⟩ := hrel
    clear fA bA bB
    by_cases hlt : j < 8
    · have hjt : j < t.length := by rw [HT.out]; exact hlt
      have x1 := HI.out.1.cell (HE.out j hjt) id
      obtain ⟨y, hy⟩ : ∃ y, y = t[j] := ⟨_, rfl⟩
      rw [← hy] at x1
      obtain ⟨m, hm⟩ : ∃ m, m = rdVal (t.take j) := ⟨_, rfl⟩
      have HN := Lib.hid (show rdVal (t.take (j + 1)) = rdStep m y by rw [rdVal_next hjt, ← hm, ← hy])
      obtain ⟨f1, wA, wB⟩ := HI.out
      rw [← hm] at wB
      have HS1 := Lib.hid (rdStep_int m y)
      have FA := Lib.hid f1
      have WA := Lib.hid wA
      have WB := Lib.hid wB
      have hb2 := y.toNat_lt
      have bm : ((y.toNat : Nat) : Int) % 18446744073709551616 = y.toNat := by omega
      obtain ⟨q0, q1⟩ := box_facts wB
      have c1 : wr.cell? ⟨w.heap.size + 1, 1, none⟩ = some (.int .u64 (m : Int)) := by rw [q0]; rfl
      have z1 := q1 1
      clear hm hy f1 wA wB q0 q1 HI
      have i1 : (j : Int) < 8 := by omega
      have i0 : (0 : Int) ≤ (j : Int) := by omega
      have g1 : decide (j < 8) = true := decide_eq_true hlt
      go_wp2_with fail
      go_roundw
      case rel =>
        refine ⟨j + 1, by omega, by simp, ?_⟩
        rw [HS1.out, HN.out]
        refine ⟨FA.out.setCell (.inr (by show w.heap.size ≤ w.heap.size + 1; omega)) _, ?_, ?_⟩
        · rw [Below.heap_setCell _ _ _ _ (by show w.heap.size ≠ w.heap.size + 1; omega)]
          exact WA.out
        · have := block_set WB.out 1 (.int .u64 (rdStep m y : Int))
          simpa using this
      case measure => simp [RowKit.intOf]; omega
    · obtain rfl : j = 8 := by omega
      obtain ⟨f1, wA, wB⟩ := HI.out
      rw [List.take_of_length_le (by rw [HT.out]; omega)] at wB
      obtain ⟨m, hm⟩ : ∃ m, m = rdVal t := ⟨_, rfl⟩
      rw [← hm] at wB
      rw [← hm] at HK
      have HC := Lib.hid (check_any wr ((b0.toNat : Int), (m : Int)))
      have FA := Lib.hid f1
      have WA := Lib.hid wA
      have WB := Lib.hid wB
      obtain ⟨q0, q1⟩ := box_facts wB
      have c0 : wr.cell? ⟨w.heap.size + 1, 0, none⟩ = some (.int .i64 (b0.toNat : Int)) := by rw [q0]; rfl
      have c1 : wr.cell? ⟨w.heap.size + 1, 1, none⟩ = some (.int .u64 (m : Int)) := by rw [q0]; rfl
      have z0 := q1 0
      have z1 := q1 1
      clear hm f1 wA wB q0 q1 HI hlt HE HT
      unfold kV at HC
      go_wp2_with fail
      refine (HC.out).mono ?_
      rintro e w2 ⟨rfl, f2⟩
      obtain ⟨q0, q1⟩ := box_facts (f2.heap WB.out id)
      have c0 : w2.cell? ⟨w.heap.size + 1, 0, none⟩ = some (.int .i64 (b0.toNat : Int)) := by rw [q0]; rfl
      have c1 : w2.cell? ⟨w.heap.size + 1, 1, none⟩ = some (.int .u64 (m : Int)) := by rw [q0]; rfl
      have z0 := q1 0
      have z1 := q1 1
      obtain ⟨q2, q3⟩ := box_facts (f2.heap WA.out id)
      have d0 : w2.cell? ⟨w.heap.size, 0, none⟩ = some (.int .i64 0) := by rw [q2]; rfl
      have d1 : w2.cell? ⟨w.heap.size, 1, none⟩ = some (.int .u64 0) := by rw [q2]; rfl
      have y0 := q3 0
      have y1 := q3 1
      have F2 := Lib.hid (FA.out.trans f2)
      clear q0 q1 q2 q3 f2 HC WA WB FA
      by_cases hk : kOk ((b0.toNat : Int), (m : Int)) = true
      · have HS := Lib.hid (show kRead (b0 :: t) = (((b0.toNat : Int), (m : Int)), 0) by rw [HK.out, if_pos hk])
        rw [show kChk ((b0.toNat : Int), (m : Int)) = 0 by unfold kChk; rw [if_pos hk]]
        clear hk HK
        go_wp2_with fail
        refine bodyPost_ret (v := .tuple #[.agg #[.int .i64 b0.toNat, .int .u64 m], .int .i64 0]) (by rw [results_cell_tmp rfl]; go_simp) rfl ⟨by rw [HS.out]; rfl, F2.out.put2 (by omega) _ _⟩
      · have HS := Lib.hid (show kRead (b0 :: t) = ((0, 0), 20) by rw [HK.out, if_neg hk])
        rw [show kChk ((b0.toNat : Int), (m : Int)) = 20 by unfold kChk; rw [if_neg hk]]
        clear hk HK
        go_wp2_with fail
        refine bodyPost_ret (v := .tuple #[.agg #[.int .i64 0, .int .u64 0], .int .i64 20]) (by rw [results_cell_tmp rfl]; go_simp) rfl ⟨by rw [HS.out]; rfl, F2.out.put2 (by omega) _ _⟩
set_option maxRecDepth 100000 in
set_option maxHeartbeats 4000000 in
theorem rread_any {S : Nat → Prop} {w : World} {v : Value} {l : List UInt8} (hl : Sl kByte S w v l) : Calls Tryd.prog 38 #[v] w fun e w' => e = .returned (pV (kRead l)) ∧ Fr Non w w' := by
  by_cases h9 : l.length = 9
  rotate_left
  · have HS := Lib.hid (show kRead l = ((0, 0), 20) by unfold kRead; rw [if_neg h9])
    obtain ⟨a, c, rfl⟩ : ∃ a c, v = .slice a l.length c := by
      rcases hl with ⟨rfl, rfl⟩ | ⟨a, c, rfl, _⟩
      · exact ⟨none, 0, rfl⟩
      · exact ⟨_, _, rfl⟩
    have n9 : ((l.length : Int) == 9) = false := by simp; omega
    have n9' : (l.length == 9) = false := by simpa using h9
    clear hl
    go_enter Tryd.func38, Tryd.ntmps38
    go_wp2_with fail
    refine bodyPost_ret (v := .tuple #[.agg #[.int .i64 0, .int .u64 0], .int .i64 20]) (by rw [results_cell_tmp rfl]; go_simp) rfl ⟨by rw [HS.out]; rfl, ?_⟩
    first | exact (Fr.refl _ _).alloc _ | exact ((Fr.refl _ _).alloc _).put2 (by omega) _ _
  obtain ⟨g, o, c, rfl, hc9, hE⟩ : ∃ g o c, v = .slice (some ⟨g, o, none⟩) 9 c ∧ 9 ≤ c ∧ ∀ j (h : j < l.length), w.cell? ⟨g, o + j, none⟩ = some (.int .u8 (l[j].toNat : Int)) := by
    rcases hl with ⟨rfl, rfl⟩ | ⟨⟨g, o, sp⟩, c, rfl, h1, h2, h3, h4⟩
    · simp at h9
    · have h0 := (h3 (by rintro rfl; simp at h9)).1
      simp only at h0
      subst h0
      refine ⟨g, o, c, by rw [h9], by omega, fun j hj => ?_⟩
      obtain ⟨cs, hr, hx⟩ := h4 j hj
      obtain rfl : cs = _ := hr
      have := hx 0 (by simp)
      simpa [kByte] using this
  obtain ⟨b0, t, rfl⟩ : ∃ b0 t, l = b0 :: t := by
    cases l with
    | nil => simp at h9
    | cons x y => exact ⟨x, y, rfl⟩
  have ht : t.length = 8 := by simpa using h9
  have x0 : w.cell? ⟨g, o, none⟩ = some (.int .u8 (b0.toNat : Int)) := by exact hE 0 (by simp)
  have HE := Lib.hid (show ∀ j (h : j < t.length), w.cell? ⟨g, o + 1 + j, none⟩ = some (.int .u8 (t[j].toNat : Int)) from fun j hj => by
    have := hE (j + 1) (by simpa using hj)
    rw [show o + 1 + j = o + (j + 1) by omega]
    exact this)
  have HT := Lib.hid ht
  have HS : ∀ W' : World, True := fun _ => trivial
  clear HS
  have HK := Lib.hid (show kRead (b0 :: t) = if kOk ((b0.toNat : Int), (rdVal t : Int)) then (((b0.toNat : Int), (rdVal t : Int)), 0) else ((0, 0), 20) by unfold kRead; rw [if_pos h9]; rfl)
  have hb := b0.toNat_lt
  have f0 : Fr Non w (w.alloc (.cells #[.int .i64 0, .int .u64 0] 25)) := (Fr.refl _ _).alloc _
  have x1 := f0.cell x0 id
  clear x0 f0
  have bm : ((b0.toNat : Nat) : Int) % 18446744073709551616 = b0.toNat := by omega
  have bW : IntKind.i64.wrap (b0.toNat : Int) = b0.toNat := by rw [IntWalk.i64_in _ (by omega)]
  clear hl hE h9 ht
  go_enter Tryd.func38, Tryd.ntmps38
  go_wp2_with fail
  have fA : Fr Non w ((w.alloc (.cells #[.int .i64 0, .int .u64 0] 25)).alloc (.cells #[.int .i64 b0.toNat, .int .u64 0] 25)) := ((Fr.refl _ _).alloc _).alloc _
  have bA := alloc_at2 w (.cells #[.int .i64 0, .int .u64 0] 25) (.cells #[.int .i64 b0.toNat, .int .u64 0] 25)
  have bB := alloc_at2' w (.cells #[.int .i64 0, .int .u64 0] 25) (.cells #[.int .i64 b0.toNat, .int .u64 0] 25)
  clear x1 bm bW
  go_loopw [5] (fun i wr => ∃ j : Nat, j ≤ 8 ∧ i = .int .i64 (j + 1) ∧ Hid (Fr Non w wr ∧ wr.heap[w.heap.size]? = some (.cells #[.int .i64 0, .int .u64 0] 25 (0, 0)) ∧ wr.heap[w.heap.size + 1]? = some (.cells #[.int .i64 b0.toNat, .int .u64 (rdVal (t.take j))] 25 (0, 0)))) (fun i _ => (9 - RowKit.intOf i).toNat)
  case atStart => exact ⟨0, by omega, rfl, fA, bA, bB⟩
  case round =>
    obtain ⟨j, hj, rfl, HI⟩ := hrel
    clear fA bA bB
    by_cases hlt : j < 8
    · have hjt : j < t.length := by rw [HT.out]; exact hlt
      have x1 := HI.out.1.cell (HE.out j hjt) id
      obtain ⟨y, hy⟩ : ∃ y, y = t[j] := ⟨_, rfl⟩
      rw [← hy] at x1
      obtain ⟨m, hm⟩ : ∃ m, m = rdVal (t.take j) := ⟨_, rfl⟩
      have HN := Lib.hid (show rdVal (t.take (j + 1)) = rdStep m y by rw [rdVal_next hjt, ← hm, ← hy])
      obtain ⟨f1, wA, wB⟩ := HI.out
      rw [← hm] at wB
      have HS1 := Lib.hid (rdStep_int m y)
      have FA := Lib.hid f1
      have WA := Lib.hid wA
      have WB := Lib.hid wB
      have hb2 := y.toNat_lt
      have bm : ((y.toNat : Nat) : Int) % 18446744073709551616 = y.toNat := by omega
      obtain ⟨q0, q1⟩ := box_facts wB
      have c1 : wr.cell? ⟨w.heap.size + 1, 1, none⟩ = some (.int .u64 (m : Int)) := by rw [q0]; rfl
      have z1 := q1 1
      clear hm hy f1 wA wB q0 q1 HI
      have i1 : (j : Int) < 8 := by omega
      have i0 : (0 : Int) ≤ (j : Int) := by omega
      have g1 : decide (j < 8) = true := decide_eq_true hlt
      go_wp2_with fail
      rw [show o + 1 + j = o + (j + 1) by omega] at x1
      have fd : Fr Non wr wr.drew := (Fr.refl _ _).drew
      refine wp_draw [((fun y => Fr Non wr y), [(.free, 0), (.held, 1), (.free, 2), (.free, 3), (.free, 4), (.free, 5), (.held, 6), (.held, 7), (.free, 8), (.free, 9)])] 10 (by kernel_rfl) (by kernel_rfl) (fun _ _ _ _ _ h => h) ⟨fd, ?_⟩
      generalize wr.drew = wd at fd ⊢
      repeat (first
        | (refine' wpPlan_free (v := _) rfl (by rfl) ?_ ?_
           rotate_left
           · (intro w'; skip; go_simp; try rfl)
           simp only [List.getElem_toArray, List.getElem_cons_zero, List.getElem_cons_succ, Act.put, List.setIfInBounds_toArray, List.set_cons_zero, List.set_cons_succ])
        | (refine' wpPlan_held (v := _) rfl (by rfl) ?_ ?_
           rotate_left
           · (intro w' hS; skip; (have x1 := hS.cell x1 id; have c1 := hS.cell c1 id; clear hS); go_simp; try rfl)
           simp only [List.getElem_toArray, List.getElem_cons_zero, List.getElem_cons_succ, Act.put, List.setIfInBounds_toArray, List.set_cons_zero, List.set_cons_succ])
        | (refine' wpPlan_skip rfl (by rfl) ?_
           simp only [List.getElem_toArray, List.getElem_cons_zero, List.getElem_cons_succ, Act.put, List.setIfInBounds_toArray, List.set_cons_zero, List.set_cons_succ])
        | (refine' wpPlan_skipHeld rfl (by rfl) ?_
           simp only [List.getElem_toArray, List.getElem_cons_zero, List.getElem_cons_succ, Act.put, List.setIfInBounds_toArray, List.set_cons_zero, List.set_cons_succ]))
      refine wpPlan_end ?_
      simp only [wpSegs, List.drop_succ_cons, List.drop_zero]
      have WA := Lib.hid (fd.heap WA.out id)
      have WB := Lib.hid (fd.heap WB.out id)
      have FA := Lib.hid (FA.out.trans fd)
      have z1 := (box_facts WB.out).2 1
      have c1 : wd.cell? ⟨w.heap.size + 1, 1, none⟩ = some (.int .u64 (m : Int)) := by rw [(box_facts WB.out).1]; rfl
      have bW : IntKind.u64.wrap (y.toNat : Int) = y.toNat := by rw [IntWalk.u64_in _ (by omega)]
      clear fd
      go_wp2_with fail
      go_roundw
      case rel =>
        refine ⟨j + 1, by omega, by simp, ?_⟩
        (try rw [bW])
        rw [HS1.out, HN.out]
        refine ⟨FA.out.setCell (.inr (by show w.heap.size ≤ w.heap.size + 1; omega)) _, ?_, ?_⟩
        · rw [Below.heap_setCell _ _ _ _ (by show w.heap.size ≠ w.heap.size + 1; omega)]
          exact WA.out
        · have := block_set WB.out 1 (.int .u64 (rdStep m y : Int))
          simpa using this
      case measure => simp [RowKit.intOf]; omega
    · obtain rfl : j = 8 := by omega
      obtain ⟨f1, wA, wB⟩ := HI.out
      rw [List.take_of_length_le (by rw [HT.out]; omega)] at wB
      obtain ⟨m, hm⟩ : ∃ m, m = rdVal t := ⟨_, rfl⟩
      rw [← hm] at wB
      rw [← hm] at HK
      have HC := Lib.hid (rcheck_any wr ((b0.toNat : Int), (m : Int)))
      have FA := Lib.hid f1
      have WA := Lib.hid wA
      have WB := Lib.hid wB
      obtain ⟨q0, q1⟩ := box_facts wB
      have c0 : wr.cell? ⟨w.heap.size + 1, 0, none⟩ = some (.int .i64 (b0.toNat : Int)) := by rw [q0]; rfl
      have c1 : wr.cell? ⟨w.heap.size + 1, 1, none⟩ = some (.int .u64 (m : Int)) := by rw [q0]; rfl
      have z0 := q1 0
      have z1 := q1 1
      clear hm f1 wA wB q0 q1 HI hlt HE HT
      unfold kV at HC
      go_wp2_with fail
      refine (HC.out).mono ?_
      rintro e w2 ⟨rfl, f2⟩
      obtain ⟨q0, q1⟩ := box_facts (f2.heap WB.out id)
      have c0 : w2.cell? ⟨w.heap.size + 1, 0, none⟩ = some (.int .i64 (b0.toNat : Int)) := by rw [q0]; rfl
      have c1 : w2.cell? ⟨w.heap.size + 1, 1, none⟩ = some (.int .u64 (m : Int)) := by rw [q0]; rfl
      have z0 := q1 0
      have z1 := q1 1
      obtain ⟨q2, q3⟩ := box_facts (f2.heap WA.out id)
      have d0 : w2.cell? ⟨w.heap.size, 0, none⟩ = some (.int .i64 0) := by rw [q2]; rfl
      have d1 : w2.cell? ⟨w.heap.size, 1, none⟩ = some (.int .u64 0) := by rw [q2]; rfl
      have y0 := q3 0
      have y1 := q3 1
      have F2 := Lib.hid (FA.out.trans f2)
      clear q0 q1 q2 q3 f2 HC WA WB FA
      by_cases hk : kOk ((b0.toNat : Int), (m : Int)) = true
      · have HS := Lib.hid (show kRead (b0 :: t) = (((b0.toNat : Int), (m : Int)), 0) by rw [HK.out, if_pos hk])
        rw [show kChk ((b0.toNat : Int), (m : Int)) = 0 by unfold kChk; rw [if_pos hk]]
        clear hk HK
        go_wp2_with fail
        refine bodyPost_ret (v := .tuple #[.agg #[.int .i64 b0.toNat, .int .u64 m], .int .i64 0]) (by rw [results_cell_tmp rfl]; go_simp) rfl ⟨by rw [HS.out]; rfl, F2.out.put2 (by omega) _ _⟩
      · have HS := Lib.hid (show kRead (b0 :: t) = ((0, 0), 20) by rw [HK.out, if_neg hk])
        rw [show kChk ((b0.toNat : Int), (m : Int)) = 20 by unfold kChk; rw [if_neg hk]]
        clear hk HK
        go_wp2_with fail
        refine bodyPost_ret (v := .tuple #[.agg #[.int .i64 0, .int .u64 0], .int .i64 20]) (by rw [results_cell_tmp rfl]; go_simp) rfl ⟨by rw [HS.out]; rfl, F2.out.put2 (by omega) _ _⟩
end Go.Proofs.YthjfnpojelfekaaDoor
