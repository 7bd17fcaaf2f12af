/-
  Model: SameResult.
-/
import Derived.Test.YtplhcfaonhkegaaM5
namespace Go.Proofs.Ytplhcfaonhkegaa
open Go.RowKit Go.Maps

instance decRes : DecidableEq MRes := @instDecidableEqProd _ _ _ (@instDecidableEqProd _ _ _ (@instDecidableEqProd _ _ _ (@instDecidableEqProd _ _ _ (@instDecidableEqProd _ _ _ (@instDecidableEqProd _ _ _ _)))))

set_option maxHeartbeats 1000000 in
theorem run_eql50 (w : World) (x y : MRef) : Sem.run Try.prog (binOp BinOp.eql 50 (.agg (refCells x).toArray) (.agg (refCells y).toArray)) w = .ok (.bool (decide (x = y))) w := by
  obtain ⟨a1, ⟨a2, a3⟩, a4, a5⟩ := x
  obtain ⟨p1, ⟨p2, p3⟩, p4, p5⟩ := y
  simp only [refCells]
  by_cases h1 : a1 = p1
  rotate_left
  · have n : (a1 == p1) = false := by simpa using h1
    simp [go_sem, n, h1]
  subst h1
  by_cases h1 : a2 = p2
  rotate_left
  · have n : (a2 == p2) = false := by simpa using h1
    simp [go_sem, n, h1]
  subst h1
  by_cases h1 : a3 = p3
  rotate_left
  · have n : (a3 == p3) = false := by simpa using h1
    simp [go_sem, n, h1]
  subst h1
  by_cases h1 : a4 = p4
  rotate_left
  · have n : (a4 == p4) = false := by simpa using h1
    simp [go_sem, n, h1]
  subst h1
  by_cases h1 : a5 = p5
  rotate_left
  · have n : (a5 == p5) = false := by simpa using h1
    simp [go_sem, n, h1]
  subst h1
  simp [go_sem]

set_option maxRecDepth 100000 in
set_option maxHeartbeats 8000000 in
theorem msres_any {w : World} (x y : MRes) {u1 v1 u2 v2 : Value} (hu1 : Sl kByte All w u1 x.2.2.1) (hv1 : Sl kItem All w v1 x.2.2.2.1) (hu2 : Sl kByte All w u2 y.2.2.1) (hv2 : Sl kItem All w v2 y.2.2.2.1) :
    Calls Try.prog 42 #[.agg (resCells x u1 v1).toArray, .agg (resCells y u2 v2).toArray] w fun e w' => e = .returned (.bool (decide (x = y))) ∧ Fr Non w w' := by
  obtain ⟨e1, k1, b1, l1, ⟨a1, ⟨a2, a3⟩, a4, a5⟩, ⟨c1, ⟨c2, c3⟩, c4, c5⟩, t1⟩ := x
  obtain ⟨e2, k2, b2, l2, ⟨p1, ⟨p2, p3⟩, p4, p5⟩, ⟨q1, ⟨q2, q3⟩, q4, q5⟩, t2⟩ := y
  obtain ⟨ua, uc, rfl, _⟩ := hu1.frm
  obtain ⟨va, vc, rfl, _⟩ := hv1.frm
  obtain ⟨ub, ud, rfl, _⟩ := hu2.frm
  obtain ⟨vb, vd, rfl, _⟩ := hv2.frm
  simp only [resCells, refCells, List.cons_append, List.nil_append] at hu1 hv1 hu2 hv2 ⊢
  have HL := fun w => run_eql50 w (a1, (a2, a3), (a4, a5)) (p1, (p2, p3), (p4, p5))
  have HR := fun w => run_eql50 w (c1, (c2, c3), (c4, c5)) (q1, (q2, q3), (q4, q5))
  simp only [refCells] at HL HR
  obtain ⟨bl, hbl⟩ : ∃ b, decide ((a1, (a2, a3), (a4, a5)) = ((p1, (p2, p3), (p4, p5)) : MRef)) = b := ⟨_, rfl⟩
  obtain ⟨br, hbr⟩ : ∃ b, decide ((c1, (c2, c3), (c4, c5)) = ((q1, (q2, q3), (q4, q5)) : MRef)) = b := ⟨_, rfl⟩
  rw [hbl] at HL
  rw [hbr] at HR
  have HB5 := Lib.hid hbl
  have HB6 := Lib.hid hbr
  clear hbl hbr
  have f0 : Fr Non w ((w.alloc (.cells #[.int .i64 e1, .int .u64 k1, .slice ua b1.length uc, .slice va l1.length vc, .int .i64 a1, .int .i64 a2, .int .u64 a3, .int .i64 a4, .int .u64 a5, .int .i64 c1, .int .i64 c2, .int .u64 c3, .int .i64 c4, .int .u64 c5, .bool t1] 52)).alloc (.cells #[.int .i64 e2, .int .u64 k2, .slice ub b2.length ud, .slice vb l2.length vd, .int .i64 p1, .int .i64 p2, .int .u64 p3, .int .i64 p4, .int .u64 p5, .int .i64 q1, .int .i64 q2, .int .u64 q3, .int .i64 q4, .int .u64 q5, .bool t2] 52)) := ((Fr.refl _ _).alloc _).alloc _
  have H1 := Lib.hid (hu1.stay f0)
  have H2 := Lib.hid (hu2.stay f0)
  have H3 := Lib.hid (hv1.stay f0)
  have H4 := Lib.hid (hv2.stay f0)
  clear hu1 hu2 hv1 hv2
  by_cases g1 : e1 = e2
  rotate_left
  · have n1 : (e1 == e2) = false := by simpa using g1
    go_enter Try.func42, Try.ntmps42
    go_wp2_with fail
    go_ret
    exact ⟨by first | (rw [decide_eq_false (fun e => (g1) (congrArg (·.1) e))]; rfl) | rfl, f0⟩
  subst g1
  by_cases g2 : k1 = k2
  rotate_left
  · have n2 : (k1 == k2) = false := by simpa using g2
    go_enter Try.func42, Try.ntmps42
    go_wp2_with fail
    go_ret
    exact ⟨by first | (rw [decide_eq_false (fun e => (g2) (congrArg (·.2.1) e))]; rfl) | rfl, f0⟩
  subst g2
  by_cases G3 : b1 = b2
  rotate_left
  · go_enter Try.func42, Try.ntmps42
    go_wp2_with fail
    refine (bytes_equal H1.out H2.out).mono ?_
    rintro e w3 ⟨rfl, hw3⟩
    obtain rfl := hw3.symm
    rw [decide_eq_false G3]
    go_wp2_with fail
    go_ret
    exact ⟨by first | (rw [decide_eq_false (fun e => (G3) (congrArg (·.2.2.1) e))]; rfl) | rfl, f0⟩
  have HG3 := Lib.hid G3
  clear G3
  by_cases G4 : l1 = l2
  rotate_left
  · go_enter Try.func42, Try.ntmps42
    go_wp2_with fail
    refine (bytes_equal H1.out H2.out).mono ?_
    rintro e w3 ⟨rfl, hw3⟩
    obtain rfl := hw3.symm
    rw [decide_eq_true HG3.out]
    go_wp2_with fail
    refine (msame_any H3.out H4.out).mono ?_
    rintro e w4 ⟨rfl, f4⟩
    rw [decide_eq_false G4]
    obtain ⟨q1, _⟩ := f4.box (alloc_at2 w _ _) id
    obtain ⟨q2, _⟩ := f4.box (alloc_at2' w _ _) id
    go_wp2_with fail
    go_ret
    exact ⟨by first | (rw [decide_eq_false (fun e => (G4) (congrArg (·.2.2.2.1) e))]; rfl) | rfl, f0.trans f4⟩
  have HG4 := Lib.hid G4
  clear G4
  cases bl with
  | false =>
    go_enter Try.func42, Try.ntmps42
    go_wp2_with fail
    refine (bytes_equal H1.out H2.out).mono ?_
    rintro e w3 ⟨rfl, hw3⟩
    obtain rfl := hw3.symm
    rw [decide_eq_true HG3.out]
    go_wp2_with fail
    refine (msame_any H3.out H4.out).mono ?_
    rintro e w4 ⟨rfl, f4⟩
    rw [decide_eq_true HG4.out]
    obtain ⟨q1, _⟩ := f4.box (alloc_at2 w _ _) id
    obtain ⟨q2, _⟩ := f4.box (alloc_at2' w _ _) id
    go_wp2_with fail
    go_ret
    exact ⟨by first | (rw [decide_eq_false (fun e => (of_decide_eq_false HB5.out) (congrArg (·.2.2.2.2.1) e))]; rfl) | rfl, f0.trans f4⟩
  | true =>
    cases br with
    | false =>
      go_enter Try.func42, Try.ntmps42
      go_wp2_with fail
      refine (bytes_equal H1.out H2.out).mono ?_
      rintro e w3 ⟨rfl, hw3⟩
      obtain rfl := hw3.symm
      rw [decide_eq_true HG3.out]
      go_wp2_with fail
      refine (msame_any H3.out H4.out).mono ?_
      rintro e w4 ⟨rfl, f4⟩
      rw [decide_eq_true HG4.out]
      obtain ⟨q1, _⟩ := f4.box (alloc_at2 w _ _) id
      obtain ⟨q2, _⟩ := f4.box (alloc_at2' w _ _) id
      go_wp2_with fail
      go_ret
      exact ⟨by first | (rw [decide_eq_false (fun e => (of_decide_eq_false HB6.out) (congrArg (·.2.2.2.2.2.1) e))]; rfl) | rfl, f0.trans f4⟩
    | true =>
      by_cases g7 : t1 = t2
      · subst g7
        have hEq : ((e1, k1, b1, l1, (a1, (a2, a3), a4, a5), (c1, (c2, c3), c4, c5), t1) : MRes) = (e1, k1, b2, l2, (p1, (p2, p3), p4, p5), (q1, (q2, q3), q4, q5), t1) := Prod.ext rfl (Prod.ext rfl (Prod.ext HG3.out (Prod.ext HG4.out (Prod.ext (of_decide_eq_true HB5.out) (Prod.ext (of_decide_eq_true HB6.out) rfl)))))
        rw [decide_eq_true hEq]
        clear hEq
        go_enter Try.func42, Try.ntmps42
        go_wp2_with fail
        refine (bytes_equal H1.out H2.out).mono ?_
        rintro e w3 ⟨rfl, hw3⟩
        obtain rfl := hw3.symm
        rw [decide_eq_true HG3.out]
        go_wp2_with fail
        refine (msame_any H3.out H4.out).mono ?_
        rintro e w4 ⟨rfl, f4⟩
        rw [decide_eq_true HG4.out]
        obtain ⟨q1, _⟩ := f4.box (alloc_at2 w _ _) id
        obtain ⟨q2, _⟩ := f4.box (alloc_at2' w _ _) id
        go_wp2_with fail
        go_ret
        exact ⟨by trivial, f0.trans f4⟩
      · have n7 : (t1 == t2) = false := by simpa using g7
        go_enter Try.func42, Try.ntmps42
        go_wp2_with fail
        refine (bytes_equal H1.out H2.out).mono ?_
        rintro e w3 ⟨rfl, hw3⟩
        obtain rfl := hw3.symm
        rw [decide_eq_true HG3.out]
        go_wp2_with fail
        refine (msame_any H3.out H4.out).mono ?_
        rintro e w4 ⟨rfl, f4⟩
        rw [decide_eq_true HG4.out]
        obtain ⟨q1, _⟩ := f4.box (alloc_at2 w _ _) id
        obtain ⟨q2, _⟩ := f4.box (alloc_at2' w _ _) id
        go_wp2_with fail
        go_ret
        exact ⟨by first | (rw [decide_eq_false (fun e => (g7) (congrArg (·.2.2.2.2.2.2) e))]; rfl) | rfl, f0.trans f4⟩

set_option maxRecDepth 100000 in
set_option maxHeartbeats 8000000 in
theorem rsres_any {w : World} (x y : MRes) {u1 v1 u2 v2 : Value} (hu1 : Sl kByte All w u1 x.2.2.1) (hv1 : Sl kItem All w v1 x.2.2.2.1) (hu2 : Sl kByte All w u2 y.2.2.1) (hv2 : Sl kItem All w v2 y.2.2.2.1) :
    Calls Try.prog 31 #[.agg (resCells x u1 v1).toArray, .agg (resCells y u2 v2).toArray] w fun e w' => e = .returned (.bool (decide (x = y))) ∧ Fr Non w w' := by
  obtain ⟨e1, k1, b1, l1, ⟨a1, ⟨a2, a3⟩, a4, a5⟩, ⟨c1, ⟨c2, c3⟩, c4, c5⟩, t1⟩ := x
  obtain ⟨e2, k2, b2, l2, ⟨p1, ⟨p2, p3⟩, p4, p5⟩, ⟨q1, ⟨q2, q3⟩, q4, q5⟩, t2⟩ := y
  obtain ⟨ua, uc, rfl, _⟩ := hu1.frm
  obtain ⟨va, vc, rfl, _⟩ := hv1.frm
  obtain ⟨ub, ud, rfl, _⟩ := hu2.frm
  obtain ⟨vb, vd, rfl, _⟩ := hv2.frm
  simp only [resCells, refCells, List.cons_append, List.nil_append] at hu1 hv1 hu2 hv2 ⊢
  have HL := fun w => run_eql50 w (a1, (a2, a3), (a4, a5)) (p1, (p2, p3), (p4, p5))
  have HR := fun w => run_eql50 w (c1, (c2, c3), (c4, c5)) (q1, (q2, q3), (q4, q5))
  simp only [refCells] at HL HR
  obtain ⟨bl, hbl⟩ : ∃ b, decide ((a1, (a2, a3), (a4, a5)) = ((p1, (p2, p3), (p4, p5)) : MRef)) = b := ⟨_, rfl⟩
  obtain ⟨br, hbr⟩ : ∃ b, decide ((c1, (c2, c3), (c4, c5)) = ((q1, (q2, q3), (q4, q5)) : MRef)) = b := ⟨_, rfl⟩
  rw [hbl] at HL
  rw [hbr] at HR
  have HB5 := Lib.hid hbl
  have HB6 := Lib.hid hbr
  clear hbl hbr
  have f0 : Fr Non w ((w.alloc (.cells #[.int .i64 e1, .int .u64 k1, .slice ua b1.length uc, .slice va l1.length vc, .int .i64 a1, .int .i64 a2, .int .u64 a3, .int .i64 a4, .int .u64 a5, .int .i64 c1, .int .i64 c2, .int .u64 c3, .int .i64 c4, .int .u64 c5, .bool t1] 52)).alloc (.cells #[.int .i64 e2, .int .u64 k2, .slice ub b2.length ud, .slice vb l2.length vd, .int .i64 p1, .int .i64 p2, .int .u64 p3, .int .i64 p4, .int .u64 p5, .int .i64 q1, .int .i64 q2, .int .u64 q3, .int .i64 q4, .int .u64 q5, .bool t2] 52)) := ((Fr.refl _ _).alloc _).alloc _
  have H1 := Lib.hid (hu1.stay f0)
  have H2 := Lib.hid (hu2.stay f0)
  have H3 := Lib.hid (hv1.stay f0)
  have H4 := Lib.hid (hv2.stay f0)
  have K1 := conv_src (sl_src H1.out)
  have K2 := conv_src (sl_src H2.out)
  clear hu1 hu2 hv1 hv2
  by_cases g1 : e1 = e2
  rotate_left
  · have n1 : (e1 == e2) = false := by simpa using g1
    go_enter Try.func31, Try.ntmps31
    go_wp2_with fail
    go_ret
    exact ⟨by first | (rw [decide_eq_false (fun e => (g1) (congrArg (·.1) e))]; rfl) | rfl, f0⟩
  subst g1
  by_cases g2 : k1 = k2
  rotate_left
  · have n2 : (k1 == k2) = false := by simpa using g2
    go_enter Try.func31, Try.ntmps31
    go_wp2_with fail
    go_ret
    exact ⟨by first | (rw [decide_eq_false (fun e => (g2) (congrArg (·.2.1) e))]; rfl) | rfl, f0⟩
  subst g2
  by_cases G3 : b1 = b2
  rotate_left
  · have n3 : (b1 == b2) = false := by simpa using G3
    go_enter Try.func31, Try.ntmps31
    go_wp2_with fail
    go_ret
    exact ⟨by first | (rw [decide_eq_false (fun e => (G3) (congrArg (·.2.2.1) e))]; rfl) | rfl, f0⟩
  have HG3 := Lib.hid (show b1 = b1 from rfl)
  subst G3
  by_cases G4 : l1 = l2
  rotate_left
  · go_enter Try.func31, Try.ntmps31
    go_wp2_with fail
    refine (rsame_any H3.out H4.out).mono ?_
    rintro e w4 ⟨rfl, f4⟩
    rw [decide_eq_false G4]
    obtain ⟨q1, _⟩ := f4.box (alloc_at2 w _ _) id
    obtain ⟨q2, _⟩ := f4.box (alloc_at2' w _ _) id
    go_wp2_with fail
    go_ret
    exact ⟨by first | (rw [decide_eq_false (fun e => (G4) (congrArg (·.2.2.2.1) e))]; rfl) | rfl, f0.trans f4⟩
  have HG4 := Lib.hid G4
  clear G4
  cases bl with
  | false =>
    go_enter Try.func31, Try.ntmps31
    go_wp2_with fail
    refine (rsame_any H3.out H4.out).mono ?_
    rintro e w4 ⟨rfl, f4⟩
    rw [decide_eq_true HG4.out]
    obtain ⟨q1, _⟩ := f4.box (alloc_at2 w _ _) id
    obtain ⟨q2, _⟩ := f4.box (alloc_at2' w _ _) id
    go_wp2_with fail
    go_ret
    exact ⟨by first | (rw [decide_eq_false (fun e => (of_decide_eq_false HB5.out) (congrArg (·.2.2.2.2.1) e))]; rfl) | rfl, f0.trans f4⟩
  | true =>
    cases br with
    | false =>
      go_enter Try.func31, Try.ntmps31
      go_wp2_with fail
      refine (rsame_any H3.out H4.out).mono ?_
      rintro e w4 ⟨rfl, f4⟩
      rw [decide_eq_true HG4.out]
      obtain ⟨q1, _⟩ := f4.box (alloc_at2 w _ _) id
      obtain ⟨q2, _⟩ := f4.box (alloc_at2' w _ _) id
      go_wp2_with fail
      go_ret
      exact ⟨by first | (rw [decide_eq_false (fun e => (of_decide_eq_false HB6.out) (congrArg (·.2.2.2.2.2.1) e))]; rfl) | rfl, f0.trans f4⟩
    | true =>
      by_cases g7 : t1 = t2
      · subst g7
        have hEq : ((e1, k1, b1, l1, (a1, (a2, a3), a4, a5), (c1, (c2, c3), c4, c5), t1) : MRes) = (e1, k1, b1, l2, (p1, (p2, p3), p4, p5), (q1, (q2, q3), q4, q5), t1) := Prod.ext rfl (Prod.ext rfl (Prod.ext HG3.out (Prod.ext HG4.out (Prod.ext (of_decide_eq_true HB5.out) (Prod.ext (of_decide_eq_true HB6.out) rfl)))))
        rw [decide_eq_true hEq]
        clear hEq
        go_enter Try.func31, Try.ntmps31
        go_wp2_with fail
        refine (rsame_any H3.out H4.out).mono ?_
        rintro e w4 ⟨rfl, f4⟩
        rw [decide_eq_true HG4.out]
        obtain ⟨q1, _⟩ := f4.box (alloc_at2 w _ _) id
        obtain ⟨q2, _⟩ := f4.box (alloc_at2' w _ _) id
        go_wp2_with fail
        go_ret
        exact ⟨by trivial, f0.trans f4⟩
      · have n7 : (t1 == t2) = false := by simpa using g7
        go_enter Try.func31, Try.ntmps31
        go_wp2_with fail
        refine (rsame_any H3.out H4.out).mono ?_
        rintro e w4 ⟨rfl, f4⟩
        rw [decide_eq_true HG4.out]
        obtain ⟨q1, _⟩ := f4.box (alloc_at2 w _ _) id
        obtain ⟨q2, _⟩ := f4.box (alloc_at2' w _ _) id
        go_wp2_with fail
        go_ret
        exact ⟨by first | (rw [decide_eq_false (fun e => (g7) (congrArg (·.2.2.2.2.2.2) e))]; rfl) | rfl, f0.trans f4⟩
end Go.Proofs.Ytplhcfaonhkegaa
