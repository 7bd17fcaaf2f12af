/-
  Net: NetTells.
-/
import Derived.Test.YtkmpmibjenodlaaN18
import Derived.Test.YtkmpmibjenodlaaQ0
namespace Go.Proofs.Ytkmpmibjenodlaa
open Go.RowKit Go.Maps

theorem nPut_cases (st : NetSt) (p : Parcel) : ((nPut st p).1 = 0 ∧ (nPut st p).2.l.length = st.l.length + 1 ∧ (nPut st p).2.c 0 = st.c 0 + 1) ∨
    (((nPut st p).1 == 0) = false ∧ (nPut st p).2.l.length = st.l.length ∧ (nPut st p).2.c 0 = st.c 0) := by
  unfold nPut
  split
  · exact .inr ⟨rfl, rfl, rfl⟩
  split
  · exact .inr ⟨rfl, rfl, rfl⟩
  split
  · exact .inr ⟨rfl, rfl, rfl⟩
  split
  · exact .inr ⟨rfl, rfl, by simp [upd]⟩
  · exact .inl ⟨rfl, by simp, by simp [upd]⟩
theorem off_cases (st : NetSt) (i : Int) : (cAt st i = 0 ∧ (nTake st i).l.length + 1 = st.l.length ∧ (nTake st i).c 0 = st.c 0 ∧ (nDrop st i).l.length + 1 = st.l.length ∧ (nDrop st i).c 0 = st.c 0) ∨
    ((cAt st i == 0) = false ∧ (nTake st i).l.length = st.l.length ∧ (nTake st i).c 0 = st.c 0 ∧ (nDrop st i).l.length = st.l.length ∧ (nDrop st i).c 0 = st.c 0) := by
  by_cases hi : isI st i
  · obtain ⟨j, rfl, hj⟩ := isI_nat hi
    unfold cAt nTake nDrop
    simp only [if_pos hi]
    refine .inl ⟨by trivial, ?_, by simp [upd], ?_, by simp [upd]⟩
    · simp only [Int.toNat_natCast]; rw [List.length_eraseIdx_of_lt hj]; omega
    · simp only [Int.toNat_natCast]; rw [List.length_eraseIdx_of_lt hj]; omega
  · unfold cAt nTake nDrop
    simp only [if_neg hi]
    exact .inr ⟨by trivial, by trivial, by trivial, by trivial, by trivial⟩
theorem twin_cases (st : NetSt) (i : Int) : (nTwin st i).l.length = st.l.length ∧ (nTwin st i).c 0 = st.c 0 := by
  unfold nTwin; split <;> simp [upd]
theorem swap_cases (st : NetSt) (i j : Int) : (nSwap st i j).l.length = st.l.length ∧ (nSwap st i j).c 0 = st.c 0 := by
  unfold nSwap; split <;> simp
theorem cut_cases (st : NetSt) (a : Bool) (n : Int) : ((nCut st a n).l.length : Int) = st.l.length - kCut st a n ∧ (nCut st a n).c 0 = st.c 0 ∧ (nCut st a n).l.length ≤ st.l.length ∧ 0 ≤ kCut st a n ∧ kCut st a n ≤ st.l.length := by
  unfold nCut kCut
  split
  · have := List.length_filter_le (stays a n) st.l
    refine ⟨by simp only [cutSt]; omega, by simp [cutSt, upd], this, by omega, by omega⟩
  · exact ⟨by omega, rfl, Nat.le_refl _, by omega, by omega⟩

/-- An act of a row, cell by cell. -/
theorem act_at {S : Nat → Prop} {w : World} {b o : Nat} {l : List (Int × (((Bool × Int) × ((Bool × Int) × List UInt8)) × (Int × Int)))} (h : Elems kOp S w b o l) (j : Nat) (hj : j < l.length) :
    ∃ v, Sl kByte S w v l[j].2.1.2.2 ∧ w.cell? ⟨b, o + j * 8, none⟩ = some (.int .i64 l[j].1) ∧ w.cell? ⟨b, o + j * 8 + 1, none⟩ = some (.bool l[j].2.1.1.1) ∧ w.cell? ⟨b, o + j * 8 + 2, none⟩ = some (.int .i64 l[j].2.1.1.2) ∧
      w.cell? ⟨b, o + j * 8 + 3, none⟩ = some (.bool l[j].2.1.2.1.1) ∧ w.cell? ⟨b, o + j * 8 + 4, none⟩ = some (.int .i64 l[j].2.1.2.1.2) ∧ w.cell? ⟨b, o + j * 8 + 5, none⟩ = some v ∧
      w.cell? ⟨b, o + j * 8 + 6, none⟩ = some (.int .i64 l[j].2.2.1) ∧ w.cell? ⟨b, o + j * 8 + 7, none⟩ = some (.int .i64 l[j].2.2.2) := by
  obtain ⟨cs, hr, hc⟩ := h j hj
  obtain ⟨v, rfl, hv, _⟩ := op_cells hr
  have hsz : kOp.sz = 8 := rfl
  rw [hsz] at hc
  exact ⟨v, hv, hc 0 (by simp), hc 1 (by simp), hc 2 (by simp), hc 3 (by simp), hc 4 (by simp), hc 5 (by simp), hc 6 (by simp), hc 7 (by simp)⟩
theorem act_len {S : Nat → Prop} {w : World} {b o : Nat} {l : List (Int × (((Bool × Int) × ((Bool × Int) × List UInt8)) × (Int × Int)))} (h : Elems kOp S w b o l) (j : Nat) (hj : j < l.length) : l[j].2.1.2.2.length ≤ 140737488355328 := by
  obtain ⟨cs, hr, _⟩ := h j hj
  obtain ⟨v, _, _, h⟩ := op_cells hr
  exact Nat.le_trans h (by decide)
theorem Sl.len {α : Type} {k : Kd α} {S : Nat → Prop} {w : World} {v : Value} {l : List α} (h : Sl k S w v l) : l.length ≤ maxLen := by
  rcases h with ⟨_, rfl⟩ | ⟨a, c, _, h1, h2, _⟩
  · simp
  · omega

set_option maxRecDepth 100000 in
set_option maxHeartbeats 4000000 in
theorem tells_any {w : World} {v : Value} {l : List (Int × (((Bool × Int) × ((Bool × Int) × List UInt8)) × (Int × Int)))} (h : Sl kOp (Old w) w v l) :
    Calls Try.prog 5 #[v] w fun e w' => e = .returned (.bool true) ∧ Fr Non w w' := by
  have hmax := h.len
  unfold maxLen at hmax
  obtain ⟨va, vc, rfl⟩ := h.form
  have HS := Lib.hid h
  clear h
  have hfd : ∀ (w : World) (a b c d : Int), (Instr.field 44 (.agg #[.int .i64 a, .int .i64 b, .int .i64 c, .int .i64 d]) 0).run Try.prog w = .ok (.int .i64 a) w := fun _ _ _ _ _ => by kernel_rfl
  go_enter Try.func5, Try.ntmps5
  go_wp2_with fail
  refine (x_new w).mono ?_
  rintro e w1 ⟨bn, N, rfl, m1⟩
  go_wp2_with fail
  go_loopw [4, 5, 6] (fun x y i wr => ∃ (j : Nat) (a b : Int), j ≤ l.length ∧ j ≤ 100 ∧ 0 ≤ a ∧ a ≤ j ∧ x = .int .i64 a ∧ y = .int .i64 b ∧ i = .int .i64 j ∧ Hid (∃ N st, MineX w wr N bn j st ∧ st.c 0 = a ∧ (st.l.length : Int) = a - b ∧ st.l.length ≤ j)) (fun _ _ i _ => 100 - (intOf i).toNat)
  case atStart => exact ⟨0, 0, 0, by omega, by omega, by omega, by omega, rfl, rfl, rfl, N, net0, m1, rfl, rfl, Nat.le_refl _⟩
  case round =>
    obtain ⟨j, a, b, hj, hj1, ha0, ha1, rfl, rfl, rfl, HI⟩ := hrel
    obtain ⟨N, st, m, hA, hL, hl⟩ := HI.out
    have H0 := Lib.hid (And.intro hA (And.intro hL hl))
    have hlen := H0.out.2.1
    have hb0 : -100 ≤ b ∧ b ≤ 100 := by omega
    clear hA hL hl hlen
    by_cases hlt : j < l.length ∧ j < 100
    · obtain ⟨hlt, hlt1⟩ := hlt
      have j0 : (0 : Int) ≤ (j : Int) := by omega
      have j1 : (j : Int) < (l.length : Int) := by omega
      have j2 : (j : Int) < 100 := by omega
      obtain ⟨B, O, rfl⟩ : ∃ B O, va = some ⟨B, O, none⟩ := by
        rcases HS.out with ⟨_, e⟩ | ⟨ad, c, he, _, _, h3, _⟩
        · rw [e] at hlt; simp at hlt
        · cases he
          obtain ⟨B, O, sp⟩ := ad
          obtain ⟨hsp, _⟩ := h3 (by intro e; rw [e] at hlt; simp at hlt)
          simp only at hsp
          subst hsp
          exact ⟨B, O, rfl⟩
      have hE : Elems kOp (Old w) wr B O l := by
        rcases HS.out.frame m.fr (fun _ _ _ => id) with ⟨he, _⟩ | ⟨ad, c, he, _, _, _, h4⟩
        · cases he
        · cases he; exact h4
      obtain ⟨u, hu, c0, c1, c2, c3, c4, c5, c6, c7⟩ := act_at hE j hlt
      generalize l[j] = x at hu c0 c1 c2 c3 c4 c5 c6 c7
      obtain ⟨kd, ⟨⟨fa, fn⟩, ⟨ta, tn⟩, bs⟩, i, k⟩ := x
      simp only at hu c0 c1 c2 c3 c4 c5 c6 c7
      obtain ⟨ua, uc, rfl⟩ := hu.form
      have HU := Lib.hid hu
      clear hu hE
      have f2 : Fr Non wr (wr.alloc (.cells #[.int .i64 kd, .bool fa, .int .i64 fn, .bool ta, .int .i64 tn, .slice ua bs.length uc, .int .i64 i, .int .i64 k] 32)) := (Fr.refl _ _).alloc _
      have m2 := m.quiet f2
      have W0 : IntKind.i64.wrap (a + 1) = a + 1 := IntWalk.i64_in _ (by omega)
      have W1 : IntKind.i64.wrap (b + 1) = b + 1 := IntWalk.i64_in _ (by omega)
      by_cases k1 : kd = 1
      · subst k1
        go_wp2_with fail
        refine (cut_any ((HU.out.frame f2 (fun _ _ _ => id))) (HU.out.len) fa ta fn tn).mono ?_
        rintro e w3 ⟨qa, qc, rfl, hq, f3, _⟩
        have m3 := m2.quiet f3
        go_wp2_with fail
        refine (x_put m3.net (by omega) ⟨fa, fn, ta, tn, cutB bs⟩ _ hq).mono ?_
        rintro e w4 ⟨rfl, hp⟩
        obtain ⟨N4, m4, _⟩ := m3.post hp
        have hcases := nPut_cases st ⟨fa, fn, ta, tn, cutB bs⟩
        generalize nPut st ⟨fa, fn, ta, tn, cutB bs⟩ = R at m4 hcases ⊢
        obtain ⟨r, st4⟩ := R
        simp only at m4 hcases ⊢
        rcases hcases with ⟨rfl, h1, h2⟩ | ⟨hr, h1, h2⟩
        · have HT : Hid (st4.c 0 = a + 1 ∧ (a + 1) - b = st4.l.length ∧ st4.l.length ≤ j + 1 ∧ -200 ≤ b ∧ b ≤ 200) := Lib.hid (by have := H0.out; refine ⟨?_, ?_, ?_, ?_, ?_⟩ <;> omega)
          clear h1 h2
          obtain ⟨hA, hL, hl, hw⟩ := HT.out
          have W9 : IntKind.i64.wrap ((a + 1) - (b)) = (a + 1) - (b) := IntWalk.i64_in _ (by omega)
          rw [hL] at W9
          clear hw hl
          go_wp2_with fail
          refine (x_len m4.net).mono ?_
          rintro e w8 ⟨rfl, rfl⟩
          go_wp2_with fail
          refine (x_stats m4.net).mono ?_
          rintro e w9 ⟨rfl, f9⟩
          simp only [statsOf, hA]
          go_wp2_with fail
          go_roundw
          case rel => exact ⟨j + 1, a + 1, b, by omega, by omega, by omega, by omega, rfl, rfl, by go_num, _, _, m4.quiet f9, hA, hL.symm, HT.out.2.2.1⟩
          case measure => simp [intOf]; omega
        · have HT : Hid (st4.c 0 = a ∧ a - b = st4.l.length ∧ st4.l.length ≤ j + 1 ∧ -200 ≤ b ∧ b ≤ 200) := Lib.hid (by have := H0.out; refine ⟨?_, ?_, ?_, ?_, ?_⟩ <;> omega)
          clear h1 h2
          obtain ⟨hA, hL, hl, hw⟩ := HT.out
          have W9 : IntKind.i64.wrap ((a) - (b)) = (a) - (b) := IntWalk.i64_in _ (by omega)
          rw [hL] at W9
          clear hw hl
          go_wp2_with fail
          refine (x_len m4.net).mono ?_
          rintro e w8 ⟨rfl, rfl⟩
          go_wp2_with fail
          refine (x_stats m4.net).mono ?_
          rintro e w9 ⟨rfl, f9⟩
          simp only [statsOf, hA]
          go_wp2_with fail
          go_roundw
          case rel => exact ⟨j + 1, a, b, by omega, by omega, by omega, by omega, rfl, rfl, by go_num, _, _, m4.quiet f9, hA, hL.symm, HT.out.2.2.1⟩
          case measure => simp [intOf]; omega
      have g1 : (kd == 1) = false := by simpa using k1
      by_cases k2 : kd = 2
      · subst k2
        go_wp2_with fail
        refine (x_take m2.net (by omega) i).mono ?_
        rintro e w3 ⟨qa, qc, rfl, hq, f3, N3, n3, s3, _⟩
        obtain ⟨N4, m4, _⟩ := m2.post ⟨f3, N3, n3, s3⟩
        have hcases := off_cases st i
        generalize nTake st i = st4 at m4 hcases
        generalize cAt st i = r at hcases ⊢
        simp only [pcs]
        generalize pAt st i = p at hq ⊢
        have m5 := m4.quiet ((Fr.refl Non w3).alloc (.cells #[.bool p.fa, .int .i64 p.fn, .bool p.ta, .int .i64 p.tn, .slice qa p.b.length qc] 30))
        rcases hcases with ⟨rfl, h1, h2, _, _⟩ | ⟨hr, h1, h2, _, _⟩
        · skip
          have HT : Hid (st4.c 0 = a ∧ (a) - (b + 1) = st4.l.length ∧ st4.l.length ≤ j + 1 ∧ -200 ≤ b + 1 ∧ b + 1 ≤ 200) := Lib.hid (by have := H0.out; refine ⟨?_, ?_, ?_, ?_, ?_⟩ <;> omega)
          clear h1 h2
          obtain ⟨hA, hL, hl, hw⟩ := HT.out
          have W9 : IntKind.i64.wrap ((a) - (b + 1)) = (a) - (b + 1) := IntWalk.i64_in _ (by omega)
          rw [hL] at W9
          clear hw hl
          go_wp2_with fail
          refine (x_len m5.net).mono ?_
          rintro e w8 ⟨rfl, rfl⟩
          go_wp2_with fail
          refine (x_stats m5.net).mono ?_
          rintro e w9 ⟨rfl, f9⟩
          simp only [statsOf, hA]
          go_wp2_with fail
          go_roundw
          case rel => exact ⟨j + 1, a, b + 1, by omega, by omega, by omega, by omega, rfl, rfl, by go_num, _, _, m5.quiet f9, hA, hL.symm, HT.out.2.2.1⟩
          case measure => simp [intOf]; omega
        · skip
          have HT : Hid (st4.c 0 = a ∧ (a) - (b) = st4.l.length ∧ st4.l.length ≤ j + 1 ∧ -200 ≤ b ∧ b ≤ 200) := Lib.hid (by have := H0.out; refine ⟨?_, ?_, ?_, ?_, ?_⟩ <;> omega)
          clear h1 h2
          obtain ⟨hA, hL, hl, hw⟩ := HT.out
          have W9 : IntKind.i64.wrap ((a) - (b)) = (a) - (b) := IntWalk.i64_in _ (by omega)
          rw [hL] at W9
          clear hw hl
          go_wp2_with fail
          refine (x_len m5.net).mono ?_
          rintro e w8 ⟨rfl, rfl⟩
          go_wp2_with fail
          refine (x_stats m5.net).mono ?_
          rintro e w9 ⟨rfl, f9⟩
          simp only [statsOf, hA]
          go_wp2_with fail
          go_roundw
          case rel => exact ⟨j + 1, a, b, by omega, by omega, by omega, by omega, rfl, rfl, by go_num, _, _, m5.quiet f9, hA, hL.symm, HT.out.2.2.1⟩
          case measure => simp [intOf]; omega
      have g2 : (kd == 2) = false := by simpa using k2
      by_cases k3 : kd = 3
      · subst k3
        go_wp2_with fail
        refine (x_twin m2.net (by omega) i).mono ?_
        rintro e w3 ⟨qa, qc, rfl, hq, f3, n3, _⟩
        obtain ⟨N4, m4, _⟩ := m2.post ⟨f3, _, n3, fun b hb => .inl hb⟩
        obtain ⟨h1, h2⟩ := twin_cases st i
        generalize nTwin st i = st4 at m4 h1 h2
        generalize cAt st i = r
        simp only [pcs]
        have HT : Hid (st4.c 0 = a ∧ (a) - (b) = st4.l.length ∧ st4.l.length ≤ j + 1 ∧ -200 ≤ b ∧ b ≤ 200) := Lib.hid (by have := H0.out; refine ⟨?_, ?_, ?_, ?_, ?_⟩ <;> omega)
        clear h1 h2
        obtain ⟨hA, hL, hl, hw⟩ := HT.out
        have W9 : IntKind.i64.wrap ((a) - (b)) = (a) - (b) := IntWalk.i64_in _ (by omega)
        rw [hL] at W9
        clear hw hl
        go_wp2_with fail
        refine (x_len m4.net).mono ?_
        rintro e w8 ⟨rfl, rfl⟩
        go_wp2_with fail
        refine (x_stats m4.net).mono ?_
        rintro e w9 ⟨rfl, f9⟩
        simp only [statsOf, hA]
        go_wp2_with fail
        go_roundw
        case rel => exact ⟨j + 1, a, b, by omega, by omega, by omega, by omega, rfl, rfl, by go_num, _, _, m4.quiet f9, hA, hL.symm, HT.out.2.2.1⟩
        case measure => simp [intOf]; omega
      have g3 : (kd == 3) = false := by simpa using k3
      by_cases k4 : kd = 4
      · subst k4
        go_wp2_with fail
        refine (x_drop m2.net (by omega) i).mono ?_
        rintro e w3 ⟨rfl, hp⟩
        obtain ⟨N4, m4, _⟩ := m2.post hp
        have hcases := off_cases st i
        generalize nDrop st i = st4 at m4 hcases
        generalize cAt st i = r at hcases ⊢
        rcases hcases with ⟨rfl, _, _, h1, h2⟩ | ⟨hr, _, _, h1, h2⟩
        · skip
          have HT : Hid (st4.c 0 = a ∧ (a) - (b + 1) = st4.l.length ∧ st4.l.length ≤ j + 1 ∧ -200 ≤ b + 1 ∧ b + 1 ≤ 200) := Lib.hid (by have := H0.out; refine ⟨?_, ?_, ?_, ?_, ?_⟩ <;> omega)
          clear h1 h2
          obtain ⟨hA, hL, hl, hw⟩ := HT.out
          have W9 : IntKind.i64.wrap ((a) - (b + 1)) = (a) - (b + 1) := IntWalk.i64_in _ (by omega)
          rw [hL] at W9
          clear hw hl
          go_wp2_with fail
          refine (x_len m4.net).mono ?_
          rintro e w8 ⟨rfl, rfl⟩
          go_wp2_with fail
          refine (x_stats m4.net).mono ?_
          rintro e w9 ⟨rfl, f9⟩
          simp only [statsOf, hA]
          go_wp2_with fail
          go_roundw
          case rel => exact ⟨j + 1, a, b + 1, by omega, by omega, by omega, by omega, rfl, rfl, by go_num, _, _, m4.quiet f9, hA, hL.symm, HT.out.2.2.1⟩
          case measure => simp [intOf]; omega
        · skip
          have HT : Hid (st4.c 0 = a ∧ (a) - (b) = st4.l.length ∧ st4.l.length ≤ j + 1 ∧ -200 ≤ b ∧ b ≤ 200) := Lib.hid (by have := H0.out; refine ⟨?_, ?_, ?_, ?_, ?_⟩ <;> omega)
          clear h1 h2
          obtain ⟨hA, hL, hl, hw⟩ := HT.out
          have W9 : IntKind.i64.wrap ((a) - (b)) = (a) - (b) := IntWalk.i64_in _ (by omega)
          rw [hL] at W9
          clear hw hl
          go_wp2_with fail
          refine (x_len m4.net).mono ?_
          rintro e w8 ⟨rfl, rfl⟩
          go_wp2_with fail
          refine (x_stats m4.net).mono ?_
          rintro e w9 ⟨rfl, f9⟩
          simp only [statsOf, hA]
          go_wp2_with fail
          go_roundw
          case rel => exact ⟨j + 1, a, b, by omega, by omega, by omega, by omega, rfl, rfl, by go_num, _, _, m4.quiet f9, hA, hL.symm, HT.out.2.2.1⟩
          case measure => simp [intOf]; omega
      have g4 : (kd == 4) = false := by simpa using k4
      by_cases k5 : kd = 5
      · subst k5
        go_wp2_with fail
        refine (x_swap m2.net i k).mono ?_
        rintro e w3 ⟨rfl, hp⟩
        obtain ⟨N4, m4, _⟩ := m2.post hp
        obtain ⟨h1, h2⟩ := swap_cases st i k
        generalize nSwap st i k = st4 at m4 h1 h2
        generalize cSwap st i k = r
        have HT : Hid (st4.c 0 = a ∧ (a) - (b) = st4.l.length ∧ st4.l.length ≤ j + 1 ∧ -200 ≤ b ∧ b ≤ 200) := Lib.hid (by have := H0.out; refine ⟨?_, ?_, ?_, ?_, ?_⟩ <;> omega)
        clear h1 h2
        obtain ⟨hA, hL, hl, hw⟩ := HT.out
        have W9 : IntKind.i64.wrap ((a) - (b)) = (a) - (b) := IntWalk.i64_in _ (by omega)
        rw [hL] at W9
        clear hw hl
        go_wp2_with fail
        refine (x_len m4.net).mono ?_
        rintro e w8 ⟨rfl, rfl⟩
        go_wp2_with fail
        refine (x_stats m4.net).mono ?_
        rintro e w9 ⟨rfl, f9⟩
        simp only [statsOf, hA]
        go_wp2_with fail
        go_roundw
        case rel => exact ⟨j + 1, a, b, by omega, by omega, by omega, by omega, rfl, rfl, by go_num, _, _, m4.quiet f9, hA, hL.symm, HT.out.2.2.1⟩
        case measure => simp [intOf]; omega
      have g5 : (kd == 5) = false := by simpa using k5
      by_cases k6 : kd = 6
      · subst k6
        go_wp2_with fail
        refine (x_cut m2.net (by omega) fa fn).mono ?_
        rintro e w3 ⟨rfl, hp⟩
        obtain ⟨N4, m4, _⟩ := m2.post hp
        obtain ⟨h1, h2, h3, h4, h5⟩ := cut_cases st fa fn
        generalize nCut st fa fn = st4 at m4 h1 h2 h3
        generalize cCut fn = r
        generalize kCut st fa fn = d at h1 h4 h5 ⊢
        have W3 : IntKind.i64.wrap (b + d) = b + d := IntWalk.i64_in _ (by have := H0.out; omega)
        have HT : Hid (st4.c 0 = a ∧ (a) - (b + d) = st4.l.length ∧ st4.l.length ≤ j + 1 ∧ -200 ≤ b + d ∧ b + d ≤ 200) := Lib.hid (by have := H0.out; refine ⟨?_, ?_, ?_, ?_, ?_⟩ <;> omega)
        clear h1 h2 h3
        obtain ⟨hA, hL, hl, hw⟩ := HT.out
        have W9 : IntKind.i64.wrap ((a) - (b + d)) = (a) - (b + d) := IntWalk.i64_in _ (by omega)
        rw [hL] at W9
        clear hw hl
        go_wp2_with fail
        refine (x_len m4.net).mono ?_
        rintro e w8 ⟨rfl, rfl⟩
        go_wp2_with fail
        refine (x_stats m4.net).mono ?_
        rintro e w9 ⟨rfl, f9⟩
        simp only [statsOf, hA]
        go_wp2_with fail
        go_roundw
        case rel => exact ⟨j + 1, a, b + d, by omega, by omega, by omega, by omega, rfl, rfl, by go_num, _, _, m4.quiet f9, hA, hL.symm, HT.out.2.2.1⟩
        case measure => simp [intOf]; omega
      have g6 : (kd == 6) = false := by simpa using k6
      go_wp2_with fail
      go_roundw
      case rel => exact ⟨j + 1, a, b, by omega, by omega, by omega, by omega, rfl, rfl, by go_num, _, _, ⟨m2.fr, m2.net.mono (Nat.le_succ _), m2.new⟩, H0.out.1, H0.out.2.1, by have := H0.out.2.2; omega⟩
      case measure => simp [intOf]; omega
    · have fin : ∀ x, Fr Non wr x → Fr Non w x := fun x f => m.fr.trans f
      by_cases hl1 : j < l.length
      · have j1 : (j : Int) < (l.length : Int) := by omega
        have j2 : ¬ (j : Int) < 100 := by omega
        go_wp2_with fail
        refine (alive_any _).mono ?_
        rintro e w2 ⟨rfl, f2⟩
        go_wp2_with fail
        go_ret
        exact ⟨rfl, fin _ f2⟩
      · have j1 : ¬ (j : Int) < (l.length : Int) := by omega
        go_wp2_with fail
        refine (alive_any _).mono ?_
        rintro e w2 ⟨rfl, f2⟩
        go_wp2_with fail
        go_ret
        exact ⟨rfl, fin _ f2⟩
end Go.Proofs.Ytkmpmibjenodlaa
