/-
  Model: ModelApart.
-/
import Derived.Test.YtplhcfaonhkegaaM24
import Derived.Test.YtplhcfaonhkegaaM0b
namespace Go.Proofs.Ytplhcfaonhkegaa
open Go.RowKit Go.Maps

theorem Build.some {α : Type} {k : Kd α} {e : TypeId} {w : World} {a : Option Addr} {n c : Nat} {l : List α} (h : Build k e w (.slice a n c) l) (hn : l ≠ []) : ∃ g, a = some ⟨g, 0, none⟩ := by
  obtain ⟨cs, gr, _⟩ := h
  rcases gr.2 with ⟨he, h0⟩ | ⟨G, cap, cur, he, _⟩
  · exact absurd (List.eq_nil_of_length_eq_zero h0) hn
  · cases he; exact ⟨G, rfl⟩
theorem Build.cap {α : Type} {k : Kd α} {e : TypeId} {w : World} {a : Option Addr} {n c : Nat} {l : List α} (h : Build k e w (.slice a n c) l) : n ≤ c ∧ c ≤ maxLen := by
  obtain ⟨a', c', e, h1, h2, _⟩ := h.sl.frm
  cases e
  exact ⟨h1, h2⟩
/-- Two results. -/
theorem res_pair {w : World} {g c : Nat} {R R' : MRes} (h : Build kRes 52 w (.slice (some ⟨g, 0, none⟩) 2 c) [R, R']) : ∃ u v u' v', (∀ j x, (resCells R u v)[j]? = some x → w.cell? ⟨g, j, none⟩ = some x) ∧ (∀ j x, (resCells R' u' v')[j]? = some x → w.cell? ⟨g, 15 + j, none⟩ = some x) ∧
    Sl kByte All w u R.2.2.1 ∧ Sl kItem All w v R.2.2.2.1 ∧ Sl kByte All w u' R'.2.2.1 ∧ Sl kItem All w v' R'.2.2.2.1 := by
  obtain ⟨_, _, u, v, e, _, _, _, h1, h2, h3⟩ := res_at h.sl 0 (by simp)
  cases e
  obtain ⟨_, _, u', v', e, _, _, _, h4, h5, h6⟩ := res_at h.sl 1 (by simp)
  cases e
  refine ⟨u, v, u', v', fun j x hx => ?_, fun j x hx => ?_, h2, h3, h5, h6⟩
  · have := h1 j x hx
    simpa using this
  · have := h4 j x hx
    simpa using this

set_option maxRecDepth 100000 in
set_option maxHeartbeats 2000000 in
theorem apart1 {w : World} {vl : Value} {l : List MItem} (hl : Sl kItem All w vl l) (a b : MCall) {aa ba : Option Addr} {ac bc : Nat} (ha : Sl kByte All w (.slice aa a.2.2.2.length ac) a.2.2.2) (hb : Sl kByte All w (.slice ba b.2.2.2.length bc) b.2.2.2) (h1 : mWrites a = false) :
    Calls Try.prog 4 #[vl, .agg #[.int .i64 a.1, .int .u64 a.2.1, .int .u64 a.2.2.1, .slice aa a.2.2.2.length ac], .agg #[.int .i64 b.1, .int .u64 b.2.1, .int .u64 b.2.2.1, .slice ba b.2.2.2.length bc]] w fun e w' => e = .returned (.bool true) ∧ Fr Non w w' := by
  obtain ⟨a1, n1, rfl, _⟩ := hl.frm
  have f0 : Fr Non w ((w.alloc (.cells #[.int .i64 a.1, .int .u64 a.2.1, .int .u64 a.2.2.1, .slice aa a.2.2.2.length ac] 39)).alloc (.cells #[.int .i64 b.1, .int .u64 b.2.1, .int .u64 b.2.2.1, .slice ba b.2.2.2.length bc] 39)) := ((Fr.refl _ _).alloc _).alloc _
  have bA := alloc_at2 w (.cells #[.int .i64 a.1, .int .u64 a.2.1, .int .u64 a.2.2.1, .slice aa a.2.2.2.length ac] 39) (.cells #[.int .i64 b.1, .int .u64 b.2.1, .int .u64 b.2.2.1, .slice ba b.2.2.2.length bc] 39)
  have bB := alloc_at2' w (.cells #[.int .i64 a.1, .int .u64 a.2.1, .int .u64 a.2.2.1, .slice aa a.2.2.2.length ac] 39) (.cells #[.int .i64 b.1, .int .u64 b.2.1, .int .u64 b.2.2.1, .slice ba b.2.2.2.length bc] 39)
  have HL := Lib.hid (hl.stay f0)
  have HA := Lib.hid (ha.stay f0)
  have HB := Lib.hid (hb.stay f0)
  obtain ⟨C, hC⟩ : ∃ C, w.heap.size = C := ⟨_, rfl⟩
  rw [hC] at bA bB
  have hwa := fun w => rwrites_any w a (.slice aa a.2.2.2.length ac) ⟨_, _, _, rfl⟩
  have hwb := fun w => rwrites_any w b (.slice ba b.2.2.2.length bc) ⟨_, _, _, rfl⟩
  rw [h1] at hwa
  clear h1
  have HWA := Lib.hid hwa
  have HWB := Lib.hid hwb
  clear hl ha hb hwa hwb
  go_enter Try.func4, Try.ntmps4
  go_wp2_with fail
  refine (awake_any _).mono ?_
  rintro e w1 ⟨rfl, f1⟩
  go_wp2_with fail
  refine (few_any (HL.out.stay f1)).mono ?_
  rintro e w2 ⟨x1, y1, rfl, h1, hw⟩
  obtain rfl := hw.symm
  obtain ⟨qA, zA⟩ := f1.box bA id
  have f01 := f0.trans f1
  skip
  have H1 := Lib.hid h1
  clear h1
  go_wp2_with fail
  refine (HWA.out _).mono ?_
  rintro e w3 ⟨rfl, f3⟩
  go_wp2_with fail
  go_ret
  exact ⟨by trivial, f01.trans f3⟩

set_option maxRecDepth 100000 in
set_option maxHeartbeats 2000000 in
theorem apart2 {w : World} {vl : Value} {l : List MItem} (hl : Sl kItem All w vl l) (a b : MCall) {aa ba : Option Addr} {ac bc : Nat} (ha : Sl kByte All w (.slice aa a.2.2.2.length ac) a.2.2.2) (hb : Sl kByte All w (.slice ba b.2.2.2.length bc) b.2.2.2) (h1 : mWrites a = true) (h2 : mWrites b = false) :
    Calls Try.prog 4 #[vl, .agg #[.int .i64 a.1, .int .u64 a.2.1, .int .u64 a.2.2.1, .slice aa a.2.2.2.length ac], .agg #[.int .i64 b.1, .int .u64 b.2.1, .int .u64 b.2.2.1, .slice ba b.2.2.2.length bc]] w fun e w' => e = .returned (.bool true) ∧ Fr Non w w' := by
  obtain ⟨a1, n1, rfl, _⟩ := hl.frm
  have f0 : Fr Non w ((w.alloc (.cells #[.int .i64 a.1, .int .u64 a.2.1, .int .u64 a.2.2.1, .slice aa a.2.2.2.length ac] 39)).alloc (.cells #[.int .i64 b.1, .int .u64 b.2.1, .int .u64 b.2.2.1, .slice ba b.2.2.2.length bc] 39)) := ((Fr.refl _ _).alloc _).alloc _
  have bA := alloc_at2 w (.cells #[.int .i64 a.1, .int .u64 a.2.1, .int .u64 a.2.2.1, .slice aa a.2.2.2.length ac] 39) (.cells #[.int .i64 b.1, .int .u64 b.2.1, .int .u64 b.2.2.1, .slice ba b.2.2.2.length bc] 39)
  have bB := alloc_at2' w (.cells #[.int .i64 a.1, .int .u64 a.2.1, .int .u64 a.2.2.1, .slice aa a.2.2.2.length ac] 39) (.cells #[.int .i64 b.1, .int .u64 b.2.1, .int .u64 b.2.2.1, .slice ba b.2.2.2.length bc] 39)
  have HL := Lib.hid (hl.stay f0)
  have HA := Lib.hid (ha.stay f0)
  have HB := Lib.hid (hb.stay f0)
  obtain ⟨C, hC⟩ : ∃ C, w.heap.size = C := ⟨_, rfl⟩
  rw [hC] at bA bB
  have hwa := fun w => rwrites_any w a (.slice aa a.2.2.2.length ac) ⟨_, _, _, rfl⟩
  have hwb := fun w => rwrites_any w b (.slice ba b.2.2.2.length bc) ⟨_, _, _, rfl⟩
  rw [h1] at hwa
  rw [h2] at hwb
  clear h1 h2
  have HWA := Lib.hid hwa
  have HWB := Lib.hid hwb
  clear hl ha hb hwa hwb
  go_enter Try.func4, Try.ntmps4
  go_wp2_with fail
  refine (awake_any _).mono ?_
  rintro e w1 ⟨rfl, f1⟩
  go_wp2_with fail
  refine (few_any (HL.out.stay f1)).mono ?_
  rintro e w2 ⟨x1, y1, rfl, h1, hw⟩
  obtain rfl := hw.symm
  obtain ⟨qA, zA⟩ := f1.box bA id
  have f01 := f0.trans f1
  skip
  have H1 := Lib.hid h1
  clear h1
  go_wp2_with fail
  refine (HWA.out _).mono ?_
  rintro e w3 ⟨rfl, f3⟩
  have f13 := f1.trans f3
  have bA3 := f13.heap bA id
  have bB3 := f13.heap bB id
  clear qA zA
  obtain ⟨qA, zA⟩ := box_facts bA3
  obtain ⟨qB, zB⟩ := box_facts bB3
  go_wp2_with fail
  refine (HWB.out _).mono ?_
  rintro e w4 ⟨rfl, f4⟩
  go_wp2_with fail
  go_ret
  exact ⟨by trivial, (f01.trans f3).trans f4⟩

set_option maxRecDepth 100000 in
set_option maxHeartbeats 2000000 in
theorem apart3 {w : World} {vl : Value} {l : List MItem} (hl : Sl kItem All w vl l) (a b : MCall) {aa ba : Option Addr} {ac bc : Nat} (ha : Sl kByte All w (.slice aa a.2.2.2.length ac) a.2.2.2) (hb : Sl kByte All w (.slice ba b.2.2.2.length bc) b.2.2.2) (h1 : mWrites a = true) (h2 : mWrites b = true) (h3 : a.2.1 = b.2.1) :
    Calls Try.prog 4 #[vl, .agg #[.int .i64 a.1, .int .u64 a.2.1, .int .u64 a.2.2.1, .slice aa a.2.2.2.length ac], .agg #[.int .i64 b.1, .int .u64 b.2.1, .int .u64 b.2.2.1, .slice ba b.2.2.2.length bc]] w fun e w' => e = .returned (.bool true) ∧ Fr Non w w' := by
  obtain ⟨a1, n1, rfl, _⟩ := hl.frm
  have f0 : Fr Non w ((w.alloc (.cells #[.int .i64 a.1, .int .u64 a.2.1, .int .u64 a.2.2.1, .slice aa a.2.2.2.length ac] 39)).alloc (.cells #[.int .i64 b.1, .int .u64 b.2.1, .int .u64 b.2.2.1, .slice ba b.2.2.2.length bc] 39)) := ((Fr.refl _ _).alloc _).alloc _
  have bA := alloc_at2 w (.cells #[.int .i64 a.1, .int .u64 a.2.1, .int .u64 a.2.2.1, .slice aa a.2.2.2.length ac] 39) (.cells #[.int .i64 b.1, .int .u64 b.2.1, .int .u64 b.2.2.1, .slice ba b.2.2.2.length bc] 39)
  have bB := alloc_at2' w (.cells #[.int .i64 a.1, .int .u64 a.2.1, .int .u64 a.2.2.1, .slice aa a.2.2.2.length ac] 39) (.cells #[.int .i64 b.1, .int .u64 b.2.1, .int .u64 b.2.2.1, .slice ba b.2.2.2.length bc] 39)
  have HL := Lib.hid (hl.stay f0)
  have HA := Lib.hid (ha.stay f0)
  have HB := Lib.hid (hb.stay f0)
  obtain ⟨C, hC⟩ : ∃ C, w.heap.size = C := ⟨_, rfl⟩
  rw [hC] at bA bB
  have hwa := fun w => rwrites_any w a (.slice aa a.2.2.2.length ac) ⟨_, _, _, rfl⟩
  have hwb := fun w => rwrites_any w b (.slice ba b.2.2.2.length bc) ⟨_, _, _, rfl⟩
  rw [h1] at hwa
  rw [h2] at hwb
  have g3 : (a.2.1 == b.2.1) = true := by simpa using h3
  have G3 := Lib.hid g3
  clear h1 h2 h3 g3
  have HWA := Lib.hid hwa
  have HWB := Lib.hid hwb
  clear hl ha hb hwa hwb
  go_enter Try.func4, Try.ntmps4
  go_wp2_with fail
  refine (awake_any _).mono ?_
  rintro e w1 ⟨rfl, f1⟩
  go_wp2_with fail
  refine (few_any (HL.out.stay f1)).mono ?_
  rintro e w2 ⟨x1, y1, rfl, h1, hw⟩
  obtain rfl := hw.symm
  obtain ⟨qA, zA⟩ := f1.box bA id
  have f01 := f0.trans f1
  skip
  have H1 := Lib.hid h1
  clear h1
  go_wp2_with fail
  refine (HWA.out _).mono ?_
  rintro e w3 ⟨rfl, f3⟩
  have f13 := f1.trans f3
  have bA3 := f13.heap bA id
  have bB3 := f13.heap bB id
  clear qA zA
  obtain ⟨qA, zA⟩ := box_facts bA3
  obtain ⟨qB, zB⟩ := box_facts bB3
  go_wp2_with fail
  refine (HWB.out _).mono ?_
  rintro e w4 ⟨rfl, f4⟩
  have f14 := f13.trans f4
  have k14 := f3.trans f4
  have bA4 := f4.heap bA3 id
  have bB4 := f4.heap bB3 id
  clear qA zA qB zB bA3 bB3
  obtain ⟨qA, zA⟩ := box_facts bA4
  obtain ⟨qB, zB⟩ := box_facts bB4
  have g3 := G3.out
  go_wp2_with fail
  go_ret
  exact ⟨by trivial, (f01.trans f3).trans f4⟩

set_option maxRecDepth 100000 in
set_option maxHeartbeats 2000000 in
theorem apart4 {w : World} {vl : Value} {l : List MItem} (hl : Sl kItem All w vl l) (a b : MCall) {aa ba : Option Addr} {ac bc : Nat} (ha : Sl kByte All w (.slice aa a.2.2.2.length ac) a.2.2.2) (hb : Sl kByte All w (.slice ba b.2.2.2.length bc) b.2.2.2)
    (hal : a.2.2.2.length ≤ reachBytes) (hbl : b.2.2.2.length ≤ reachBytes) (hak : 0 ≤ a.2.1 ∧ a.2.1 ≤ 18446744073709551615) (hbk : 0 ≤ b.2.1 ∧ b.2.1 ≤ 18446744073709551615) (ham : 0 ≤ a.2.2.1 ∧ a.2.2.1 ≤ 18446744073709551615) (hbm : 0 ≤ b.2.2.1 ∧ b.2.2.1 ≤ 18446744073709551615) (hai : (Lit.int .i64 a.1).wf = true) (hbi : (Lit.int .i64 b.1).wf = true) (h1 : mWrites a = true) (h2 : mWrites b = true) (h3 : ¬ a.2.1 = b.2.1) (h4 : ¬ mOk none (l.take 200) = true) :
    Calls Try.prog 4 #[vl, .agg #[.int .i64 a.1, .int .u64 a.2.1, .int .u64 a.2.2.1, .slice aa a.2.2.2.length ac], .agg #[.int .i64 b.1, .int .u64 b.2.1, .int .u64 b.2.2.1, .slice ba b.2.2.2.length bc]] w fun e w' => e = .returned (.bool true) ∧ Fr Non w w' := by
  obtain ⟨D1, hD1⟩ : ∃ D, mRun (l.take 200) [a, b] = D := ⟨_, rfl⟩
  obtain ⟨D2, hD2⟩ : ∃ D, mRun (l.take 200) [b, a] = D := ⟨_, rfl⟩
  have hl200 : (l.take 200).length ≤ 200 := by rw [List.length_take]; omega
  have e1 : D1 = ([], [], 103) := by rw [← hD1]; unfold mRun; rw [if_neg h4]
  have e2 : D2 = ([], [], 103) := by rw [← hD2]; unfold mRun; rw [if_neg h4]
  subst e1 e2
  have HD1 := Lib.hid hD1
  have HD2 := Lib.hid hD2
  clear hD1 hD2
  obtain ⟨a1, n1, rfl, _⟩ := hl.frm
  have f0 : Fr Non w ((w.alloc (.cells #[.int .i64 a.1, .int .u64 a.2.1, .int .u64 a.2.2.1, .slice aa a.2.2.2.length ac] 39)).alloc (.cells #[.int .i64 b.1, .int .u64 b.2.1, .int .u64 b.2.2.1, .slice ba b.2.2.2.length bc] 39)) := ((Fr.refl _ _).alloc _).alloc _
  have bA := alloc_at2 w (.cells #[.int .i64 a.1, .int .u64 a.2.1, .int .u64 a.2.2.1, .slice aa a.2.2.2.length ac] 39) (.cells #[.int .i64 b.1, .int .u64 b.2.1, .int .u64 b.2.2.1, .slice ba b.2.2.2.length bc] 39)
  have bB := alloc_at2' w (.cells #[.int .i64 a.1, .int .u64 a.2.1, .int .u64 a.2.2.1, .slice aa a.2.2.2.length ac] 39) (.cells #[.int .i64 b.1, .int .u64 b.2.1, .int .u64 b.2.2.1, .slice ba b.2.2.2.length bc] 39)
  have HL := Lib.hid (hl.stay f0)
  have HA := Lib.hid (ha.stay f0)
  have HB := Lib.hid (hb.stay f0)
  obtain ⟨C, hC⟩ : ∃ C, w.heap.size = C := ⟨_, rfl⟩
  rw [hC] at bA bB
  have hwa := fun w => rwrites_any w a (.slice aa a.2.2.2.length ac) ⟨_, _, _, rfl⟩
  have hwb := fun w => rwrites_any w b (.slice ba b.2.2.2.length bc) ⟨_, _, _, rfl⟩
  rw [h1] at hwa
  rw [h2] at hwb
  have g3 : (a.2.1 == b.2.1) = false := by simpa using h3
  have G3 := Lib.hid g3
  have hck := fun (w : World) (h : Sl kItem All w (.slice a1 l.length n1) l) => trivial
  clear hck
  clear h1 h2 h3 g3
  have HWA := Lib.hid hwa
  have HWB := Lib.hid hwb
  clear hl ha hb hwa hwb
  go_enter Try.func4, Try.ntmps4
  go_wp2_with fail
  refine (awake_any _).mono ?_
  rintro e w1 ⟨rfl, f1⟩
  go_wp2_with fail
  refine (few_any (HL.out.stay f1)).mono ?_
  rintro e w2 ⟨x1, y1, rfl, h1, hw⟩
  obtain rfl := hw.symm
  obtain ⟨qA, zA⟩ := f1.box bA id
  have f01 := f0.trans f1
  obtain ⟨L, hL⟩ : ∃ L, l.take 200 = L := ⟨_, rfl⟩
  rw [hL] at h1 HD1 HD2 hl200 h4 ⊢
  clear hL
  have H1 := Lib.hid h1
  clear h1
  go_wp2_with fail
  refine (HWA.out _).mono ?_
  rintro e w3 ⟨rfl, f3⟩
  have f13 := f1.trans f3
  have bA3 := f13.heap bA id
  have bB3 := f13.heap bB id
  clear qA zA
  obtain ⟨qA, zA⟩ := box_facts bA3
  obtain ⟨qB, zB⟩ := box_facts bB3
  go_wp2_with fail
  refine (HWB.out _).mono ?_
  rintro e w4 ⟨rfl, f4⟩
  have f14 := f13.trans f4
  have k14 := f3.trans f4
  have bA4 := f4.heap bA3 id
  have bB4 := f4.heap bB3 id
  clear qA zA qB zB bA3 bB3
  obtain ⟨qA, zA⟩ := box_facts bA4
  obtain ⟨qB, zB⟩ := box_facts bB4
  have g3 := G3.out
  clear qA zA qB zB
  obtain ⟨qA, zA⟩ := box_facts bA4
  obtain ⟨qB, zB⟩ := box_facts bB4
  have fr1 : Fr Non w4 (w4.alloc (.cells #[.int .i64 a.1, .int .u64 a.2.1, .int .u64 a.2.2.1, .slice aa a.2.2.2.length ac, .int .i64 b.1, .int .u64 b.2.1, .int .u64 b.2.2.1, .slice ba b.2.2.2.length bc] 39)) := (Fr.refl _ _).alloc _
  have br1 := alloc_at w4 (.cells #[.int .i64 a.1, .int .u64 a.2.1, .int .u64 a.2.2.1, .slice aa a.2.2.2.length ac, .int .i64 b.1, .int .u64 b.2.1, .int .u64 b.2.2.1, .slice ba b.2.2.2.length bc] 39)
  have hsl1 : Sl kCall All (w4.alloc (.cells #[.int .i64 a.1, .int .u64 a.2.1, .int .u64 a.2.2.1, .slice aa a.2.2.2.length ac, .int .i64 b.1, .int .u64 b.2.1, .int .u64 b.2.2.1, .slice ba b.2.2.2.length bc] 39)) (.slice (some ⟨w4.heap.size, 0, none⟩) 2 2) [a, b] := .inr ⟨_, 2, rfl, by simp, by unfold maxLen; omega, fun _ => ⟨rfl, trivial⟩,
    Elems.of_row (cs := [.int .i64 a.1, .int .u64 a.2.1, .int .u64 a.2.2.1, .slice aa a.2.2.2.length ac] ++ [.int .i64 b.1, .int .u64 b.2.1, .int .u64 b.2.2.1, .slice ba b.2.2.2.length bc])
      ((Row.single (cells_call (HA.out.stay (f14.trans fr1)) hal hak ham hai)).append (Row.single (cells_call (HB.out.stay (f14.trans fr1)) hbl hbk hbm hbi)))
      (fun j u hu => by rw [Nat.zero_add, cell_of_row _ _ _ _ _ _ br1]; simpa using hu)⟩
  have hrn1 := run_any (H1.out.stay ((k14).trans fr1)) hsl1 hl200 (by simp) (fun c _ => doneC_all c)
  rw [HD1.out] at hrn1
  have HR1 := Lib.hid hrn1
  have HFR1 := Lib.hid fr1
  clear hsl1 hrn1 br1 fr1
  go_wp2_with fail
  refine HR1.out.mono ?_
  rintro e w5 ⟨x13, y13, rfl, hx1, hy1, fo1⟩
  have fz1 := HFR1.out.trans fo1
  obtain ⟨xa1, xc1, rfl⟩ := hx1.form
  obtain ⟨ya1, yc1, rfl⟩ := hy1.form
  have HXM1 := Lib.hid hx1
  have HYM1 := Lib.hid hy1
  clear hx1 hy1 fo1 HFR1
  have f15 := f14.trans fz1
  have k15 := k14.trans fz1
  have bA5 := fz1.heap bA4 id
  have bB5 := fz1.heap bB4 id
  clear qA zA qB zB bA4 bB4
  obtain ⟨qA, zA⟩ := box_facts bA5
  obtain ⟨qB, zB⟩ := box_facts bB5
  have fr2 : Fr Non w5 (w5.alloc (.cells #[.int .i64 b.1, .int .u64 b.2.1, .int .u64 b.2.2.1, .slice ba b.2.2.2.length bc, .int .i64 a.1, .int .u64 a.2.1, .int .u64 a.2.2.1, .slice aa a.2.2.2.length ac] 39)) := (Fr.refl _ _).alloc _
  have br2 := alloc_at w5 (.cells #[.int .i64 b.1, .int .u64 b.2.1, .int .u64 b.2.2.1, .slice ba b.2.2.2.length bc, .int .i64 a.1, .int .u64 a.2.1, .int .u64 a.2.2.1, .slice aa a.2.2.2.length ac] 39)
  have hsl2 : Sl kCall All (w5.alloc (.cells #[.int .i64 b.1, .int .u64 b.2.1, .int .u64 b.2.2.1, .slice ba b.2.2.2.length bc, .int .i64 a.1, .int .u64 a.2.1, .int .u64 a.2.2.1, .slice aa a.2.2.2.length ac] 39)) (.slice (some ⟨w5.heap.size, 0, none⟩) 2 2) [b, a] := .inr ⟨_, 2, rfl, by simp, by unfold maxLen; omega, fun _ => ⟨rfl, trivial⟩,
    Elems.of_row (cs := [.int .i64 b.1, .int .u64 b.2.1, .int .u64 b.2.2.1, .slice ba b.2.2.2.length bc] ++ [.int .i64 a.1, .int .u64 a.2.1, .int .u64 a.2.2.1, .slice aa a.2.2.2.length ac])
      ((Row.single (cells_call (HB.out.stay (f15.trans fr2)) hbl hbk hbm hbi)).append (Row.single (cells_call (HA.out.stay (f15.trans fr2)) hal hak ham hai)))
      (fun j u hu => by rw [Nat.zero_add, cell_of_row _ _ _ _ _ _ br2]; simpa using hu)⟩
  have hrn2 := run_any (H1.out.stay ((k15).trans fr2)) hsl2 hl200 (by simp) (fun c _ => doneC_all c)
  rw [HD2.out] at hrn2
  have HR2 := Lib.hid hrn2
  have HFR2 := Lib.hid fr2
  clear hsl2 hrn2 br2 fr2
  go_wp2_with fail
  refine HR2.out.mono ?_
  rintro e w6 ⟨x23, y23, rfl, hx2, hy2, fo2⟩
  have fz2 := HFR2.out.trans fo2
  obtain ⟨xa2, xc2, rfl⟩ := hx2.form
  obtain ⟨ya2, yc2, rfl⟩ := hy2.form
  have HXM2 := Lib.hid hx2
  have HYM2 := Lib.hid hy2
  clear hx2 hy2 fo2 HFR2
  have f16 := f15.trans fz2
  have k16 := k15.trans fz2
  have bA6 := fz2.heap bA5 id
  have bB6 := fz2.heap bB5 id
  clear qA zA qB zB bA5 bB5
  have hck := rcheck_any (H1.out.stay k16)
  rw [show mCheck L = 103 from if_neg h4] at hck
  have HCK := Lib.hid hck
  clear hck
  obtain ⟨qA, zA⟩ := box_facts bA6
  obtain ⟨qB, zB⟩ := box_facts bB6
  go_wp2_with fail
  refine HCK.out.mono ?_
  rintro e w7 ⟨rfl, f7⟩
  go_wp2_with fail
  go_ret
  exact ⟨by trivial, (f0.trans f16).trans f7⟩

set_option maxRecDepth 100000 in
set_option maxHeartbeats 2000000 in
theorem apart5 {w : World} {vl : Value} {l : List MItem} (hl : Sl kItem All w vl l) (a b : MCall) {aa ba : Option Addr} {ac bc : Nat} (ha : Sl kByte All w (.slice aa a.2.2.2.length ac) a.2.2.2) (hb : Sl kByte All w (.slice ba b.2.2.2.length bc) b.2.2.2)
    (hal : a.2.2.2.length ≤ reachBytes) (hbl : b.2.2.2.length ≤ reachBytes) (hak : 0 ≤ a.2.1 ∧ a.2.1 ≤ 18446744073709551615) (hbk : 0 ≤ b.2.1 ∧ b.2.1 ≤ 18446744073709551615) (ham : 0 ≤ a.2.2.1 ∧ a.2.2.1 ≤ 18446744073709551615) (hbm : 0 ≤ b.2.2.1 ∧ b.2.2.1 ≤ 18446744073709551615) (hai : (Lit.int .i64 a.1).wf = true) (hbi : (Lit.int .i64 b.1).wf = true) (h1 : mWrites a = true) (h2 : mWrites b = true) (h3 : ¬ a.2.1 = b.2.1) (h4 : mOk none (l.take 200) = true) (h5 : ¬ mCallOk a = true) :
    Calls Try.prog 4 #[vl, .agg #[.int .i64 a.1, .int .u64 a.2.1, .int .u64 a.2.2.1, .slice aa a.2.2.2.length ac], .agg #[.int .i64 b.1, .int .u64 b.2.1, .int .u64 b.2.2.1, .slice ba b.2.2.2.length bc]] w fun e w' => e = .returned (.bool true) ∧ Fr Non w w' := by
  obtain ⟨D1, hD1⟩ : ∃ D, mRun (l.take 200) [a, b] = D := ⟨_, rfl⟩
  obtain ⟨D2, hD2⟩ : ∃ D, mRun (l.take 200) [b, a] = D := ⟨_, rfl⟩
  have hl200 : (l.take 200).length ≤ 200 := by rw [List.length_take]; omega
  have e1 : D1 = (l.take 200, [], 104) := by rw [← hD1]; unfold mRun; rw [if_pos h4, mRun_stop h5]
  obtain ⟨m2, o2, e2⟩ : ∃ m o, D2 = (m, o, 104) := by
    rw [← hD2]
    unfold mRun
    rw [if_pos h4]
    by_cases h6 : mCallOk b = true
    · rw [mRun_next h6, mRun_stop h5]; exact ⟨_, _, rfl⟩
    · rw [mRun_stop h6]; exact ⟨_, _, rfl⟩
  subst e1 e2
  have HD1 := Lib.hid hD1
  have HD2 := Lib.hid hD2
  clear hD1 hD2
  obtain ⟨a1, n1, rfl, _⟩ := hl.frm
  have f0 : Fr Non w ((w.alloc (.cells #[.int .i64 a.1, .int .u64 a.2.1, .int .u64 a.2.2.1, .slice aa a.2.2.2.length ac] 39)).alloc (.cells #[.int .i64 b.1, .int .u64 b.2.1, .int .u64 b.2.2.1, .slice ba b.2.2.2.length bc] 39)) := ((Fr.refl _ _).alloc _).alloc _
  have bA := alloc_at2 w (.cells #[.int .i64 a.1, .int .u64 a.2.1, .int .u64 a.2.2.1, .slice aa a.2.2.2.length ac] 39) (.cells #[.int .i64 b.1, .int .u64 b.2.1, .int .u64 b.2.2.1, .slice ba b.2.2.2.length bc] 39)
  have bB := alloc_at2' w (.cells #[.int .i64 a.1, .int .u64 a.2.1, .int .u64 a.2.2.1, .slice aa a.2.2.2.length ac] 39) (.cells #[.int .i64 b.1, .int .u64 b.2.1, .int .u64 b.2.2.1, .slice ba b.2.2.2.length bc] 39)
  have HL := Lib.hid (hl.stay f0)
  have HA := Lib.hid (ha.stay f0)
  have HB := Lib.hid (hb.stay f0)
  obtain ⟨C, hC⟩ : ∃ C, w.heap.size = C := ⟨_, rfl⟩
  rw [hC] at bA bB
  have hwa := fun w => rwrites_any w a (.slice aa a.2.2.2.length ac) ⟨_, _, _, rfl⟩
  have hwb := fun w => rwrites_any w b (.slice ba b.2.2.2.length bc) ⟨_, _, _, rfl⟩
  rw [h1] at hwa
  rw [h2] at hwb
  have g3 : (a.2.1 == b.2.1) = false := by simpa using h3
  have G3 := Lib.hid g3
  clear h1 h2 h3 g3
  have HWA := Lib.hid hwa
  have HWB := Lib.hid hwb
  clear hl ha hb hwa hwb
  go_enter Try.func4, Try.ntmps4
  go_wp2_with fail
  refine (awake_any _).mono ?_
  rintro e w1 ⟨rfl, f1⟩
  go_wp2_with fail
  refine (few_any (HL.out.stay f1)).mono ?_
  rintro e w2 ⟨x1, y1, rfl, h1, hw⟩
  obtain rfl := hw.symm
  obtain ⟨qA, zA⟩ := f1.box bA id
  have f01 := f0.trans f1
  obtain ⟨L, hL⟩ : ∃ L, l.take 200 = L := ⟨_, rfl⟩
  rw [hL] at h1 HD1 HD2 hl200 h4 ⊢
  clear hL
  have H1 := Lib.hid h1
  clear h1
  go_wp2_with fail
  refine (HWA.out _).mono ?_
  rintro e w3 ⟨rfl, f3⟩
  have f13 := f1.trans f3
  have bA3 := f13.heap bA id
  have bB3 := f13.heap bB id
  clear qA zA
  obtain ⟨qA, zA⟩ := box_facts bA3
  obtain ⟨qB, zB⟩ := box_facts bB3
  go_wp2_with fail
  refine (HWB.out _).mono ?_
  rintro e w4 ⟨rfl, f4⟩
  have f14 := f13.trans f4
  have k14 := f3.trans f4
  have bA4 := f4.heap bA3 id
  have bB4 := f4.heap bB3 id
  clear qA zA qB zB bA3 bB3
  obtain ⟨qA, zA⟩ := box_facts bA4
  obtain ⟨qB, zB⟩ := box_facts bB4
  have g3 := G3.out
  clear qA zA qB zB
  obtain ⟨qA, zA⟩ := box_facts bA4
  obtain ⟨qB, zB⟩ := box_facts bB4
  have fr1 : Fr Non w4 (w4.alloc (.cells #[.int .i64 a.1, .int .u64 a.2.1, .int .u64 a.2.2.1, .slice aa a.2.2.2.length ac, .int .i64 b.1, .int .u64 b.2.1, .int .u64 b.2.2.1, .slice ba b.2.2.2.length bc] 39)) := (Fr.refl _ _).alloc _
  have br1 := alloc_at w4 (.cells #[.int .i64 a.1, .int .u64 a.2.1, .int .u64 a.2.2.1, .slice aa a.2.2.2.length ac, .int .i64 b.1, .int .u64 b.2.1, .int .u64 b.2.2.1, .slice ba b.2.2.2.length bc] 39)
  have hsl1 : Sl kCall All (w4.alloc (.cells #[.int .i64 a.1, .int .u64 a.2.1, .int .u64 a.2.2.1, .slice aa a.2.2.2.length ac, .int .i64 b.1, .int .u64 b.2.1, .int .u64 b.2.2.1, .slice ba b.2.2.2.length bc] 39)) (.slice (some ⟨w4.heap.size, 0, none⟩) 2 2) [a, b] := .inr ⟨_, 2, rfl, by simp, by unfold maxLen; omega, fun _ => ⟨rfl, trivial⟩,
    Elems.of_row (cs := [.int .i64 a.1, .int .u64 a.2.1, .int .u64 a.2.2.1, .slice aa a.2.2.2.length ac] ++ [.int .i64 b.1, .int .u64 b.2.1, .int .u64 b.2.2.1, .slice ba b.2.2.2.length bc])
      ((Row.single (cells_call (HA.out.stay (f14.trans fr1)) hal hak ham hai)).append (Row.single (cells_call (HB.out.stay (f14.trans fr1)) hbl hbk hbm hbi)))
      (fun j u hu => by rw [Nat.zero_add, cell_of_row _ _ _ _ _ _ br1]; simpa using hu)⟩
  have hrn1 := run_any (H1.out.stay ((k14).trans fr1)) hsl1 hl200 (by simp) (fun c _ => doneC_all c)
  rw [HD1.out] at hrn1
  have HR1 := Lib.hid hrn1
  have HFR1 := Lib.hid fr1
  clear hsl1 hrn1 br1 fr1
  go_wp2_with fail
  refine HR1.out.mono ?_
  rintro e w5 ⟨x13, y13, rfl, hx1, hy1, fo1⟩
  have fz1 := HFR1.out.trans fo1
  obtain ⟨xa1, xc1, rfl⟩ := hx1.form
  obtain ⟨ya1, yc1, rfl⟩ := hy1.form
  have HXM1 := Lib.hid hx1
  have HYM1 := Lib.hid hy1
  clear hx1 hy1 fo1 HFR1
  have f15 := f14.trans fz1
  have k15 := k14.trans fz1
  have bA5 := fz1.heap bA4 id
  have bB5 := fz1.heap bB4 id
  clear qA zA qB zB bA4 bB4
  obtain ⟨qA, zA⟩ := box_facts bA5
  obtain ⟨qB, zB⟩ := box_facts bB5
  have fr2 : Fr Non w5 (w5.alloc (.cells #[.int .i64 b.1, .int .u64 b.2.1, .int .u64 b.2.2.1, .slice ba b.2.2.2.length bc, .int .i64 a.1, .int .u64 a.2.1, .int .u64 a.2.2.1, .slice aa a.2.2.2.length ac] 39)) := (Fr.refl _ _).alloc _
  have br2 := alloc_at w5 (.cells #[.int .i64 b.1, .int .u64 b.2.1, .int .u64 b.2.2.1, .slice ba b.2.2.2.length bc, .int .i64 a.1, .int .u64 a.2.1, .int .u64 a.2.2.1, .slice aa a.2.2.2.length ac] 39)
  have hsl2 : Sl kCall All (w5.alloc (.cells #[.int .i64 b.1, .int .u64 b.2.1, .int .u64 b.2.2.1, .slice ba b.2.2.2.length bc, .int .i64 a.1, .int .u64 a.2.1, .int .u64 a.2.2.1, .slice aa a.2.2.2.length ac] 39)) (.slice (some ⟨w5.heap.size, 0, none⟩) 2 2) [b, a] := .inr ⟨_, 2, rfl, by simp, by unfold maxLen; omega, fun _ => ⟨rfl, trivial⟩,
    Elems.of_row (cs := [.int .i64 b.1, .int .u64 b.2.1, .int .u64 b.2.2.1, .slice ba b.2.2.2.length bc] ++ [.int .i64 a.1, .int .u64 a.2.1, .int .u64 a.2.2.1, .slice aa a.2.2.2.length ac])
      ((Row.single (cells_call (HB.out.stay (f15.trans fr2)) hbl hbk hbm hbi)).append (Row.single (cells_call (HA.out.stay (f15.trans fr2)) hal hak ham hai)))
      (fun j u hu => by rw [Nat.zero_add, cell_of_row _ _ _ _ _ _ br2]; simpa using hu)⟩
  have hrn2 := run_any (H1.out.stay ((k15).trans fr2)) hsl2 hl200 (by simp) (fun c _ => doneC_all c)
  rw [HD2.out] at hrn2
  have HR2 := Lib.hid hrn2
  have HFR2 := Lib.hid fr2
  clear hsl2 hrn2 br2 fr2
  go_wp2_with fail
  refine HR2.out.mono ?_
  rintro e w6 ⟨x23, y23, rfl, hx2, hy2, fo2⟩
  have fz2 := HFR2.out.trans fo2
  obtain ⟨xa2, xc2, rfl⟩ := hx2.form
  obtain ⟨ya2, yc2, rfl⟩ := hy2.form
  have HXM2 := Lib.hid hx2
  have HYM2 := Lib.hid hy2
  clear hx2 hy2 fo2 HFR2
  have f16 := f15.trans fz2
  have k16 := k15.trans fz2
  have bA6 := fz2.heap bA5 id
  have bB6 := fz2.heap bB5 id
  clear qA zA qB zB bA5 bB5
  have hck := rcheck_any (H1.out.stay k16)
  rw [show mCheck L = 0 from if_pos h4] at hck
  have HCK := Lib.hid hck
  have hca := fun w => rcall_any w a aa ac
  have hcb := fun w => rcall_any w b ba bc
  rw [show mCall a = 104 from if_neg h5] at hca
  have HCA := Lib.hid hca
  have HCB := Lib.hid hcb
  clear hck hca hcb
  obtain ⟨qA, zA⟩ := box_facts bA6
  obtain ⟨qB, zB⟩ := box_facts bB6
  go_wp2_with fail
  refine HCK.out.mono ?_
  rintro e w7 ⟨rfl, f7⟩
  have bA7 := f7.heap bA6 id
  have bB7 := f7.heap bB6 id
  clear qA zA qB zB
  obtain ⟨qA, zA⟩ := box_facts bA7
  obtain ⟨qB, zB⟩ := box_facts bB7
  go_wp2_with fail
  refine (HCA.out _).mono ?_
  rintro e w8 ⟨rfl, f8⟩
  go_wp2_with fail
  go_ret
  exact ⟨by trivial, ((f0.trans f16).trans f7).trans f8⟩

set_option maxRecDepth 100000 in
set_option maxHeartbeats 2000000 in
theorem apart6 {w : World} {vl : Value} {l : List MItem} (hl : Sl kItem All w vl l) (a b : MCall) {aa ba : Option Addr} {ac bc : Nat} (ha : Sl kByte All w (.slice aa a.2.2.2.length ac) a.2.2.2) (hb : Sl kByte All w (.slice ba b.2.2.2.length bc) b.2.2.2)
    (hal : a.2.2.2.length ≤ reachBytes) (hbl : b.2.2.2.length ≤ reachBytes) (hak : 0 ≤ a.2.1 ∧ a.2.1 ≤ 18446744073709551615) (hbk : 0 ≤ b.2.1 ∧ b.2.1 ≤ 18446744073709551615) (ham : 0 ≤ a.2.2.1 ∧ a.2.2.1 ≤ 18446744073709551615) (hbm : 0 ≤ b.2.2.1 ∧ b.2.2.1 ≤ 18446744073709551615) (hai : (Lit.int .i64 a.1).wf = true) (hbi : (Lit.int .i64 b.1).wf = true) (h1 : mWrites a = true) (h2 : mWrites b = true) (h3 : ¬ a.2.1 = b.2.1) (h4 : mOk none (l.take 200) = true) (h5 : mCallOk a = true) (h6 : ¬ mCallOk b = true) :
    Calls Try.prog 4 #[vl, .agg #[.int .i64 a.1, .int .u64 a.2.1, .int .u64 a.2.2.1, .slice aa a.2.2.2.length ac], .agg #[.int .i64 b.1, .int .u64 b.2.1, .int .u64 b.2.2.1, .slice ba b.2.2.2.length bc]] w fun e w' => e = .returned (.bool true) ∧ Fr Non w w' := by
  obtain ⟨D1, hD1⟩ : ∃ D, mRun (l.take 200) [a, b] = D := ⟨_, rfl⟩
  obtain ⟨D2, hD2⟩ : ∃ D, mRun (l.take 200) [b, a] = D := ⟨_, rfl⟩
  have hl200 : (l.take 200).length ≤ 200 := by rw [List.length_take]; omega
  obtain ⟨m1, o1, e1⟩ : ∃ m o, D1 = (m, o, 104) := by
    rw [← hD1]
    unfold mRun
    rw [if_pos h4, mRun_next h5, mRun_stop h6]
    exact ⟨_, _, rfl⟩
  have e2 : D2 = (l.take 200, [], 104) := by rw [← hD2]; unfold mRun; rw [if_pos h4, mRun_stop h6]
  subst e1 e2
  have HD1 := Lib.hid hD1
  have HD2 := Lib.hid hD2
  clear hD1 hD2
  obtain ⟨a1, n1, rfl, _⟩ := hl.frm
  have f0 : Fr Non w ((w.alloc (.cells #[.int .i64 a.1, .int .u64 a.2.1, .int .u64 a.2.2.1, .slice aa a.2.2.2.length ac] 39)).alloc (.cells #[.int .i64 b.1, .int .u64 b.2.1, .int .u64 b.2.2.1, .slice ba b.2.2.2.length bc] 39)) := ((Fr.refl _ _).alloc _).alloc _
  have bA := alloc_at2 w (.cells #[.int .i64 a.1, .int .u64 a.2.1, .int .u64 a.2.2.1, .slice aa a.2.2.2.length ac] 39) (.cells #[.int .i64 b.1, .int .u64 b.2.1, .int .u64 b.2.2.1, .slice ba b.2.2.2.length bc] 39)
  have bB := alloc_at2' w (.cells #[.int .i64 a.1, .int .u64 a.2.1, .int .u64 a.2.2.1, .slice aa a.2.2.2.length ac] 39) (.cells #[.int .i64 b.1, .int .u64 b.2.1, .int .u64 b.2.2.1, .slice ba b.2.2.2.length bc] 39)
  have HL := Lib.hid (hl.stay f0)
  have HA := Lib.hid (ha.stay f0)
  have HB := Lib.hid (hb.stay f0)
  obtain ⟨C, hC⟩ : ∃ C, w.heap.size = C := ⟨_, rfl⟩
  rw [hC] at bA bB
  have hwa := fun w => rwrites_any w a (.slice aa a.2.2.2.length ac) ⟨_, _, _, rfl⟩
  have hwb := fun w => rwrites_any w b (.slice ba b.2.2.2.length bc) ⟨_, _, _, rfl⟩
  rw [h1] at hwa
  rw [h2] at hwb
  have g3 : (a.2.1 == b.2.1) = false := by simpa using h3
  have G3 := Lib.hid g3
  clear h1 h2 h3 g3
  have HWA := Lib.hid hwa
  have HWB := Lib.hid hwb
  clear hl ha hb hwa hwb
  go_enter Try.func4, Try.ntmps4
  go_wp2_with fail
  refine (awake_any _).mono ?_
  rintro e w1 ⟨rfl, f1⟩
  go_wp2_with fail
  refine (few_any (HL.out.stay f1)).mono ?_
  rintro e w2 ⟨x1, y1, rfl, h1, hw⟩
  obtain rfl := hw.symm
  obtain ⟨qA, zA⟩ := f1.box bA id
  have f01 := f0.trans f1
  obtain ⟨L, hL⟩ : ∃ L, l.take 200 = L := ⟨_, rfl⟩
  rw [hL] at h1 HD1 HD2 hl200 h4 ⊢
  clear hL
  have H1 := Lib.hid h1
  clear h1
  go_wp2_with fail
  refine (HWA.out _).mono ?_
  rintro e w3 ⟨rfl, f3⟩
  have f13 := f1.trans f3
  have bA3 := f13.heap bA id
  have bB3 := f13.heap bB id
  clear qA zA
  obtain ⟨qA, zA⟩ := box_facts bA3
  obtain ⟨qB, zB⟩ := box_facts bB3
  go_wp2_with fail
  refine (HWB.out _).mono ?_
  rintro e w4 ⟨rfl, f4⟩
  have f14 := f13.trans f4
  have k14 := f3.trans f4
  have bA4 := f4.heap bA3 id
  have bB4 := f4.heap bB3 id
  clear qA zA qB zB bA3 bB3
  obtain ⟨qA, zA⟩ := box_facts bA4
  obtain ⟨qB, zB⟩ := box_facts bB4
  have g3 := G3.out
  clear qA zA qB zB
  obtain ⟨qA, zA⟩ := box_facts bA4
  obtain ⟨qB, zB⟩ := box_facts bB4
  have fr1 : Fr Non w4 (w4.alloc (.cells #[.int .i64 a.1, .int .u64 a.2.1, .int .u64 a.2.2.1, .slice aa a.2.2.2.length ac, .int .i64 b.1, .int .u64 b.2.1, .int .u64 b.2.2.1, .slice ba b.2.2.2.length bc] 39)) := (Fr.refl _ _).alloc _
  have br1 := alloc_at w4 (.cells #[.int .i64 a.1, .int .u64 a.2.1, .int .u64 a.2.2.1, .slice aa a.2.2.2.length ac, .int .i64 b.1, .int .u64 b.2.1, .int .u64 b.2.2.1, .slice ba b.2.2.2.length bc] 39)
  have hsl1 : Sl kCall All (w4.alloc (.cells #[.int .i64 a.1, .int .u64 a.2.1, .int .u64 a.2.2.1, .slice aa a.2.2.2.length ac, .int .i64 b.1, .int .u64 b.2.1, .int .u64 b.2.2.1, .slice ba b.2.2.2.length bc] 39)) (.slice (some ⟨w4.heap.size, 0, none⟩) 2 2) [a, b] := .inr ⟨_, 2, rfl, by simp, by unfold maxLen; omega, fun _ => ⟨rfl, trivial⟩,
    Elems.of_row (cs := [.int .i64 a.1, .int .u64 a.2.1, .int .u64 a.2.2.1, .slice aa a.2.2.2.length ac] ++ [.int .i64 b.1, .int .u64 b.2.1, .int .u64 b.2.2.1, .slice ba b.2.2.2.length bc])
      ((Row.single (cells_call (HA.out.stay (f14.trans fr1)) hal hak ham hai)).append (Row.single (cells_call (HB.out.stay (f14.trans fr1)) hbl hbk hbm hbi)))
      (fun j u hu => by rw [Nat.zero_add, cell_of_row _ _ _ _ _ _ br1]; simpa using hu)⟩
  have hrn1 := run_any (H1.out.stay ((k14).trans fr1)) hsl1 hl200 (by simp) (fun c _ => doneC_all c)
  rw [HD1.out] at hrn1
  have HR1 := Lib.hid hrn1
  have HFR1 := Lib.hid fr1
  clear hsl1 hrn1 br1 fr1
  go_wp2_with fail
  refine HR1.out.mono ?_
  rintro e w5 ⟨x13, y13, rfl, hx1, hy1, fo1⟩
  have fz1 := HFR1.out.trans fo1
  obtain ⟨xa1, xc1, rfl⟩ := hx1.form
  obtain ⟨ya1, yc1, rfl⟩ := hy1.form
  have HXM1 := Lib.hid hx1
  have HYM1 := Lib.hid hy1
  clear hx1 hy1 fo1 HFR1
  have f15 := f14.trans fz1
  have k15 := k14.trans fz1
  have bA5 := fz1.heap bA4 id
  have bB5 := fz1.heap bB4 id
  clear qA zA qB zB bA4 bB4
  obtain ⟨qA, zA⟩ := box_facts bA5
  obtain ⟨qB, zB⟩ := box_facts bB5
  have fr2 : Fr Non w5 (w5.alloc (.cells #[.int .i64 b.1, .int .u64 b.2.1, .int .u64 b.2.2.1, .slice ba b.2.2.2.length bc, .int .i64 a.1, .int .u64 a.2.1, .int .u64 a.2.2.1, .slice aa a.2.2.2.length ac] 39)) := (Fr.refl _ _).alloc _
  have br2 := alloc_at w5 (.cells #[.int .i64 b.1, .int .u64 b.2.1, .int .u64 b.2.2.1, .slice ba b.2.2.2.length bc, .int .i64 a.1, .int .u64 a.2.1, .int .u64 a.2.2.1, .slice aa a.2.2.2.length ac] 39)
  have hsl2 : Sl kCall All (w5.alloc (.cells #[.int .i64 b.1, .int .u64 b.2.1, .int .u64 b.2.2.1, .slice ba b.2.2.2.length bc, .int .i64 a.1, .int .u64 a.2.1, .int .u64 a.2.2.1, .slice aa a.2.2.2.length ac] 39)) (.slice (some ⟨w5.heap.size, 0, none⟩) 2 2) [b, a] := .inr ⟨_, 2, rfl, by simp, by unfold maxLen; omega, fun _ => ⟨rfl, trivial⟩,
    Elems.of_row (cs := [.int .i64 b.1, .int .u64 b.2.1, .int .u64 b.2.2.1, .slice ba b.2.2.2.length bc] ++ [.int .i64 a.1, .int .u64 a.2.1, .int .u64 a.2.2.1, .slice aa a.2.2.2.length ac])
      ((Row.single (cells_call (HB.out.stay (f15.trans fr2)) hbl hbk hbm hbi)).append (Row.single (cells_call (HA.out.stay (f15.trans fr2)) hal hak ham hai)))
      (fun j u hu => by rw [Nat.zero_add, cell_of_row _ _ _ _ _ _ br2]; simpa using hu)⟩
  have hrn2 := run_any (H1.out.stay ((k15).trans fr2)) hsl2 hl200 (by simp) (fun c _ => doneC_all c)
  rw [HD2.out] at hrn2
  have HR2 := Lib.hid hrn2
  have HFR2 := Lib.hid fr2
  clear hsl2 hrn2 br2 fr2
  go_wp2_with fail
  refine HR2.out.mono ?_
  rintro e w6 ⟨x23, y23, rfl, hx2, hy2, fo2⟩
  have fz2 := HFR2.out.trans fo2
  obtain ⟨xa2, xc2, rfl⟩ := hx2.form
  obtain ⟨ya2, yc2, rfl⟩ := hy2.form
  have HXM2 := Lib.hid hx2
  have HYM2 := Lib.hid hy2
  clear hx2 hy2 fo2 HFR2
  have f16 := f15.trans fz2
  have k16 := k15.trans fz2
  have bA6 := fz2.heap bA5 id
  have bB6 := fz2.heap bB5 id
  clear qA zA qB zB bA5 bB5
  have hck := rcheck_any (H1.out.stay k16)
  rw [show mCheck L = 0 from if_pos h4] at hck
  have HCK := Lib.hid hck
  have hca := fun w => rcall_any w a aa ac
  have hcb := fun w => rcall_any w b ba bc
  rw [show mCall a = 0 from if_pos h5] at hca
  rw [show mCall b = 104 from if_neg h6] at hcb
  have HCA := Lib.hid hca
  have HCB := Lib.hid hcb
  clear hck hca hcb
  obtain ⟨qA, zA⟩ := box_facts bA6
  obtain ⟨qB, zB⟩ := box_facts bB6
  go_wp2_with fail
  refine HCK.out.mono ?_
  rintro e w7 ⟨rfl, f7⟩
  have bA7 := f7.heap bA6 id
  have bB7 := f7.heap bB6 id
  clear qA zA qB zB
  obtain ⟨qA, zA⟩ := box_facts bA7
  obtain ⟨qB, zB⟩ := box_facts bB7
  go_wp2_with fail
  refine (HCA.out _).mono ?_
  rintro e w8 ⟨rfl, f8⟩
  clear qA zA qB zB
  obtain ⟨qB, zB⟩ := f8.box bB7 id
  go_wp2_with fail
  refine (HCB.out _).mono ?_
  rintro e w9 ⟨rfl, f9⟩
  go_wp2_with fail
  go_ret
  exact ⟨by trivial, (((f0.trans f16).trans f7).trans f8).trans f9⟩

set_option maxRecDepth 100000 in
set_option maxHeartbeats 2000000 in
theorem apart7 {w : World} {vl : Value} {l : List MItem} (hl : Sl kItem All w vl l) (a b : MCall) {aa ba : Option Addr} {ac bc : Nat} (ha : Sl kByte All w (.slice aa a.2.2.2.length ac) a.2.2.2) (hb : Sl kByte All w (.slice ba b.2.2.2.length bc) b.2.2.2)
    (hal : a.2.2.2.length ≤ reachBytes) (hbl : b.2.2.2.length ≤ reachBytes) (hak : 0 ≤ a.2.1 ∧ a.2.1 ≤ 18446744073709551615) (hbk : 0 ≤ b.2.1 ∧ b.2.1 ≤ 18446744073709551615) (ham : 0 ≤ a.2.2.1 ∧ a.2.2.1 ≤ 18446744073709551615) (hbm : 0 ≤ b.2.2.1 ∧ b.2.2.1 ≤ 18446744073709551615) (hai : (Lit.int .i64 a.1).wf = true) (hbi : (Lit.int .i64 b.1).wf = true) (h1 : mWrites a = true) (h2 : mWrites b = true) (h3 : ¬ a.2.1 = b.2.1) (h4 : mOk none (l.take 200) = true) (h5 : mCallOk a = true) (h6 : mCallOk b = true) :
    Calls Try.prog 4 #[vl, .agg #[.int .i64 a.1, .int .u64 a.2.1, .int .u64 a.2.2.1, .slice aa a.2.2.2.length ac], .agg #[.int .i64 b.1, .int .u64 b.2.1, .int .u64 b.2.2.1, .slice ba b.2.2.2.length bc]] w fun e w' => e = .returned (.bool true) ∧ Fr Non w w' := by
  obtain ⟨D1, hD1⟩ : ∃ D, mRun (l.take 200) [a, b] = D := ⟨_, rfl⟩
  obtain ⟨D2, hD2⟩ : ∃ D, mRun (l.take 200) [b, a] = D := ⟨_, rfl⟩
  have hl200 : (l.take 200).length ≤ 200 := by rw [List.length_take]; omega
  obtain ⟨hs1, hs2, hs3⟩ := mDone_swap h1 h2 h5 h6 h3 h4
  have e1 : D1 = ((mDone (mDone (l.take 200) a).1 b).1, [(mDone (l.take 200) a).2, (mDone (mDone (l.take 200) a).1 b).2], 0) := by
    rw [← hD1]
    unfold mRun
    rw [if_pos h4, mRun_next h5, mRun_next h6, mRunFrom]
    rfl
  have e2 : D2 = ((mDone (mDone (l.take 200) a).1 b).1, [(mDone (mDone (l.take 200) a).1 b).2, (mDone (l.take 200) a).2], 0) := by
    rw [← hD2]
    unfold mRun
    rw [if_pos h4, mRun_next h6, mRun_next h5, mRunFrom, hs1, hs2, ← hs3]
    rfl
  clear hs1 hs2 hs3
  obtain ⟨hr1, hr2, _⟩ := mDone_refs (l.take 200) a
  obtain ⟨hr3, hr4, _⟩ := mDone_refs (mDone (l.take 200) a).1 b
  generalize (mDone (mDone (l.take 200) a).1 b).1 = m at e1 e2
  generalize (mDone (mDone (l.take 200) a).1 b).2 = R2 at e1 e2 hr3 hr4
  generalize (mDone (l.take 200) a).2 = R1 at e1 e2 hr1 hr2
  subst e1 e2
  have HD1 := Lib.hid hD1
  have HD2 := Lib.hid hD2
  clear hD1 hD2
  obtain ⟨a1, n1, rfl, _⟩ := hl.frm
  have f0 : Fr Non w ((w.alloc (.cells #[.int .i64 a.1, .int .u64 a.2.1, .int .u64 a.2.2.1, .slice aa a.2.2.2.length ac] 39)).alloc (.cells #[.int .i64 b.1, .int .u64 b.2.1, .int .u64 b.2.2.1, .slice ba b.2.2.2.length bc] 39)) := ((Fr.refl _ _).alloc _).alloc _
  have bA := alloc_at2 w (.cells #[.int .i64 a.1, .int .u64 a.2.1, .int .u64 a.2.2.1, .slice aa a.2.2.2.length ac] 39) (.cells #[.int .i64 b.1, .int .u64 b.2.1, .int .u64 b.2.2.1, .slice ba b.2.2.2.length bc] 39)
  have bB := alloc_at2' w (.cells #[.int .i64 a.1, .int .u64 a.2.1, .int .u64 a.2.2.1, .slice aa a.2.2.2.length ac] 39) (.cells #[.int .i64 b.1, .int .u64 b.2.1, .int .u64 b.2.2.1, .slice ba b.2.2.2.length bc] 39)
  have HL := Lib.hid (hl.stay f0)
  have HA := Lib.hid (ha.stay f0)
  have HB := Lib.hid (hb.stay f0)
  obtain ⟨C, hC⟩ : ∃ C, w.heap.size = C := ⟨_, rfl⟩
  rw [hC] at bA bB
  have hwa := fun w => rwrites_any w a (.slice aa a.2.2.2.length ac) ⟨_, _, _, rfl⟩
  have hwb := fun w => rwrites_any w b (.slice ba b.2.2.2.length bc) ⟨_, _, _, rfl⟩
  rw [h1] at hwa
  rw [h2] at hwb
  have g3 : (a.2.1 == b.2.1) = false := by simpa using h3
  have G3 := Lib.hid g3
  clear h1 h2 h3 g3
  have HWA := Lib.hid hwa
  have HWB := Lib.hid hwb
  clear hl ha hb hwa hwb
  go_enter Try.func4, Try.ntmps4
  go_wp2_with fail
  refine (awake_any _).mono ?_
  rintro e w1 ⟨rfl, f1⟩
  go_wp2_with fail
  refine (few_any (HL.out.stay f1)).mono ?_
  rintro e w2 ⟨x1, y1, rfl, h1, hw⟩
  obtain rfl := hw.symm
  obtain ⟨qA, zA⟩ := f1.box bA id
  have f01 := f0.trans f1
  obtain ⟨L, hL⟩ : ∃ L, l.take 200 = L := ⟨_, rfl⟩
  rw [hL] at h1 HD1 HD2 hl200 ⊢
  clear hL
  have H1 := Lib.hid h1
  clear h1
  go_wp2_with fail
  refine (HWA.out _).mono ?_
  rintro e w3 ⟨rfl, f3⟩
  have f13 := f1.trans f3
  have bA3 := f13.heap bA id
  have bB3 := f13.heap bB id
  clear qA zA
  obtain ⟨qA, zA⟩ := box_facts bA3
  obtain ⟨qB, zB⟩ := box_facts bB3
  go_wp2_with fail
  refine (HWB.out _).mono ?_
  rintro e w4 ⟨rfl, f4⟩
  have f14 := f13.trans f4
  have k14 := f3.trans f4
  have bA4 := f4.heap bA3 id
  have bB4 := f4.heap bB3 id
  clear qA zA qB zB bA3 bB3
  obtain ⟨qA, zA⟩ := box_facts bA4
  obtain ⟨qB, zB⟩ := box_facts bB4
  have g3 := G3.out
  clear qA zA qB zB
  obtain ⟨qA, zA⟩ := box_facts bA4
  obtain ⟨qB, zB⟩ := box_facts bB4
  have fr1 : Fr Non w4 (w4.alloc (.cells #[.int .i64 a.1, .int .u64 a.2.1, .int .u64 a.2.2.1, .slice aa a.2.2.2.length ac, .int .i64 b.1, .int .u64 b.2.1, .int .u64 b.2.2.1, .slice ba b.2.2.2.length bc] 39)) := (Fr.refl _ _).alloc _
  have br1 := alloc_at w4 (.cells #[.int .i64 a.1, .int .u64 a.2.1, .int .u64 a.2.2.1, .slice aa a.2.2.2.length ac, .int .i64 b.1, .int .u64 b.2.1, .int .u64 b.2.2.1, .slice ba b.2.2.2.length bc] 39)
  have hsl1 : Sl kCall All (w4.alloc (.cells #[.int .i64 a.1, .int .u64 a.2.1, .int .u64 a.2.2.1, .slice aa a.2.2.2.length ac, .int .i64 b.1, .int .u64 b.2.1, .int .u64 b.2.2.1, .slice ba b.2.2.2.length bc] 39)) (.slice (some ⟨w4.heap.size, 0, none⟩) 2 2) [a, b] := .inr ⟨_, 2, rfl, by simp, by unfold maxLen; omega, fun _ => ⟨rfl, trivial⟩,
    Elems.of_row (cs := [.int .i64 a.1, .int .u64 a.2.1, .int .u64 a.2.2.1, .slice aa a.2.2.2.length ac] ++ [.int .i64 b.1, .int .u64 b.2.1, .int .u64 b.2.2.1, .slice ba b.2.2.2.length bc])
      ((Row.single (cells_call (HA.out.stay (f14.trans fr1)) hal hak ham hai)).append (Row.single (cells_call (HB.out.stay (f14.trans fr1)) hbl hbk hbm hbi)))
      (fun j u hu => by rw [Nat.zero_add, cell_of_row _ _ _ _ _ _ br1]; simpa using hu)⟩
  have hrn1 := run_any (H1.out.stay ((k14).trans fr1)) hsl1 hl200 (by simp) (fun c _ => doneC_all c)
  rw [HD1.out] at hrn1
  have HR1 := Lib.hid hrn1
  have HFR1 := Lib.hid fr1
  clear hsl1 hrn1 br1 fr1
  go_wp2_with fail
  refine HR1.out.mono ?_
  rintro e w5 ⟨x13, y13, rfl, hx1, hy1, fo1⟩
  have fz1 := HFR1.out.trans fo1
  obtain ⟨xa1, xc1, rfl⟩ := hx1.form
  obtain ⟨ya1, yc1, rfl⟩ := hy1.form
  have HXM1 := Lib.hid hx1
  have HYM1 := Lib.hid hy1
  clear hx1 hy1 fo1 HFR1
  have f15 := f14.trans fz1
  have k15 := k14.trans fz1
  have bA5 := fz1.heap bA4 id
  have bB5 := fz1.heap bB4 id
  clear qA zA qB zB bA4 bB4
  obtain ⟨qA, zA⟩ := box_facts bA5
  obtain ⟨qB, zB⟩ := box_facts bB5
  have fr2 : Fr Non w5 (w5.alloc (.cells #[.int .i64 b.1, .int .u64 b.2.1, .int .u64 b.2.2.1, .slice ba b.2.2.2.length bc, .int .i64 a.1, .int .u64 a.2.1, .int .u64 a.2.2.1, .slice aa a.2.2.2.length ac] 39)) := (Fr.refl _ _).alloc _
  have br2 := alloc_at w5 (.cells #[.int .i64 b.1, .int .u64 b.2.1, .int .u64 b.2.2.1, .slice ba b.2.2.2.length bc, .int .i64 a.1, .int .u64 a.2.1, .int .u64 a.2.2.1, .slice aa a.2.2.2.length ac] 39)
  have hsl2 : Sl kCall All (w5.alloc (.cells #[.int .i64 b.1, .int .u64 b.2.1, .int .u64 b.2.2.1, .slice ba b.2.2.2.length bc, .int .i64 a.1, .int .u64 a.2.1, .int .u64 a.2.2.1, .slice aa a.2.2.2.length ac] 39)) (.slice (some ⟨w5.heap.size, 0, none⟩) 2 2) [b, a] := .inr ⟨_, 2, rfl, by simp, by unfold maxLen; omega, fun _ => ⟨rfl, trivial⟩,
    Elems.of_row (cs := [.int .i64 b.1, .int .u64 b.2.1, .int .u64 b.2.2.1, .slice ba b.2.2.2.length bc] ++ [.int .i64 a.1, .int .u64 a.2.1, .int .u64 a.2.2.1, .slice aa a.2.2.2.length ac])
      ((Row.single (cells_call (HB.out.stay (f15.trans fr2)) hbl hbk hbm hbi)).append (Row.single (cells_call (HA.out.stay (f15.trans fr2)) hal hak ham hai)))
      (fun j u hu => by rw [Nat.zero_add, cell_of_row _ _ _ _ _ _ br2]; simpa using hu)⟩
  have hrn2 := run_any (H1.out.stay ((k15).trans fr2)) hsl2 hl200 (by simp) (fun c _ => doneC_all c)
  rw [HD2.out] at hrn2
  have HR2 := Lib.hid hrn2
  have HFR2 := Lib.hid fr2
  clear hsl2 hrn2 br2 fr2
  go_wp2_with fail
  refine HR2.out.mono ?_
  rintro e w6 ⟨x23, y23, rfl, hx2, hy2, fo2⟩
  have fz2 := HFR2.out.trans fo2
  obtain ⟨xa2, xc2, rfl⟩ := hx2.form
  obtain ⟨ya2, yc2, rfl⟩ := hy2.form
  have HXM2 := Lib.hid hx2
  have HYM2 := Lib.hid hy2
  clear hx2 hy2 fo2 HFR2
  have f16 := f15.trans fz2
  have k16 := k15.trans fz2
  have bA6 := fz2.heap bA5 id
  have bB6 := fz2.heap bB5 id
  clear qA zA qB zB bA5 bB5
  clear bA6 bB6
  obtain ⟨gx, rfl⟩ : ∃ g, ya1 = some ⟨g, 0, none⟩ := HYM1.out.some (by simp)
  obtain ⟨gy, rfl⟩ : ∃ g, ya2 = some ⟨g, 0, none⟩ := HYM2.out.some (by simp)
  obtain ⟨u1, v1, u2, v2, hx0, hx1, hu1, hv1, hu2, hv2⟩ := res_pair (HYM1.out.fr fz2)
  obtain ⟨u3, v3, u4, v4, hy0, hy1, hu3, hv3, hu4, hv4⟩ := res_pair HYM2.out
  have hs1 := fun (w : World) (h1 : Sl kByte All w u1 R1.2.2.1) (h2 : Sl kItem All w v1 R1.2.2.2.1) (h3 : Sl kByte All w u4 R1.2.2.1) (h4 : Sl kItem All w v4 R1.2.2.2.1) => rsres_any R1 R1 h1 h2 h3 h4
  have hs2 := fun (w : World) (h1 : Sl kByte All w u2 R2.2.2.1) (h2 : Sl kItem All w v2 R2.2.2.2.1) (h3 : Sl kByte All w u3 R2.2.2.1) (h4 : Sl kItem All w v3 R2.2.2.2.1) => rsres_any R2 R2 h1 h2 h3 h4
  rw [show decide (R1 = R1) = true from decide_eq_true rfl] at hs1
  rw [show decide (R2 = R2) = true from decide_eq_true rfl] at hs2
  have hsm := fun (w : World) (h : Sl kItem All w (.slice xa1 m.length xc1) m) (h2 : Sl kItem All w (.slice xa2 m.length xc2) m) => rsame_any h h2
  rw [show decide (m = m) = true from decide_eq_true rfl] at hsm
  obtain ⟨e1, k1, b1, i1, rl1, rr1, t1⟩ := R1
  obtain ⟨e2, k2, b2, i2, rl2, rr2, t2⟩ := R2
  simp only at hr1 hr2 hr3 hr4
  subst hr1 hr2 hr3 hr4
  obtain ⟨p1, q1, rfl, _⟩ := hu1.frm
  obtain ⟨p2, q2, rfl, _⟩ := hv1.frm
  obtain ⟨p3, q3, rfl, _⟩ := hu2.frm
  obtain ⟨p4, q4, rfl, _⟩ := hv2.frm
  obtain ⟨p5, q5, rfl, _⟩ := hu3.frm
  obtain ⟨p6, q6, rfl, _⟩ := hv3.frm
  obtain ⟨p7, q7, rfl, _⟩ := hu4.frm
  obtain ⟨p8, q8, rfl, _⟩ := hv4.frm
  simp only [resCells, refCells, r0, List.cons_append, List.nil_append] at hx0 hx1 hy0 hy1 hs1 hs2
  have HX0 := Lib.hid hx0
  have HX1 := Lib.hid hx1
  have HY0 := Lib.hid hy0
  have HYB := Lib.hid hy1
  have HS1 := Lib.hid hs1
  have HS2 := Lib.hid hs2
  have HSM := Lib.hid hsm
  have K1 := Lib.hid hu1
  have K2 := Lib.hid hv1
  have K3 := Lib.hid hu2
  have K4 := Lib.hid hv2
  have K5 := Lib.hid hu3
  have K6 := Lib.hid hv3
  have K7 := Lib.hid hu4
  have K8 := Lib.hid hv4
  have M1 := Lib.hid (HXM1.out.sl.stay fz2)
  have M2 := Lib.hid HXM2.out.sl
  have C1 : 2 ≤ yc1 := (HYM1.out.cap).1
  have C2 : 2 ≤ yc2 := (HYM2.out.cap).1
  clear hx0 hx1 hy0 hy1 hs1 hs2 hsm hu1 hv1 hu2 hv2 hu3 hv3 hu4 hv4
  go_wp2_with fail
  refine wp_draw [((Fr Non w6), [(.free, 0), (.free, 1), (.free, 2), (.free, 3), (.free, 4), (.free, 5), (.free, 6), (.free, 7), (.free, 8), (.free, 9), (.free, 10), (.kept, 11), (.free, 12), (.free, 13), (.free, 14), (.free, 15), (.held, 16), (.free, 17), (.free, 18), (.held, 19), (.kept, 20), (.free, 21), (.free, 22), (.free, 23), (.free, 24), (.held, 25), (.free, 26), (.free, 27), (.held, 28), (.kept, 29), (.free, 30), (.free, 31)])] 32 (by kernel_rfl) (by kernel_rfl) (fun _ _ _ _ _ h => h) ⟨(Fr.refl _ _).drew, ?_⟩
  have fd : Fr Non w6 w6.drew := (Fr.refl _ _).drew
  generalize w6.drew = wd at fd ⊢
  repeat (first
    | (refine' wpPlan_free (v := _) rfl (by rfl) ?_ ?_
       rotate_left
       · (intro w'; go_simp; try rfl)
       simp only [List.getElem_toArray, List.getElem_cons_zero, List.getElem_cons_succ, Act.put, List.setIfInBounds_toArray, List.set_cons_zero, List.set_cons_succ])
    | (refine' wpPlan_held (v := _) rfl (by rfl) ?_ ?_
       rotate_left
       · (intro w' hS; have gx0 : w'.cell? ⟨gx, 0, none⟩ = some _ := hS.cell (HX0.out 0 _ rfl) id; have gx1 : w'.cell? ⟨gx, 1, none⟩ = some _ := hS.cell (HX0.out 1 _ rfl) id; have gx2 : w'.cell? ⟨gx, 2, none⟩ = some _ := hS.cell (HX0.out 2 _ rfl) id; have gx3 : w'.cell? ⟨gx, 3, none⟩ = some _ := hS.cell (HX0.out 3 _ rfl) id; have gx4 : w'.cell? ⟨gx, 4, none⟩ = some _ := hS.cell (HX0.out 4 _ rfl) id; have gx5 : w'.cell? ⟨gx, 5, none⟩ = some _ := hS.cell (HX0.out 5 _ rfl) id; have gx6 : w'.cell? ⟨gx, 6, none⟩ = some _ := hS.cell (HX0.out 6 _ rfl) id; have gx7 : w'.cell? ⟨gx, 7, none⟩ = some _ := hS.cell (HX0.out 7 _ rfl) id; have gx8 : w'.cell? ⟨gx, 8, none⟩ = some _ := hS.cell (HX0.out 8 _ rfl) id; have gx9 : w'.cell? ⟨gx, 9, none⟩ = some _ := hS.cell (HX0.out 9 _ rfl) id; have gx10 : w'.cell? ⟨gx, 10, none⟩ = some _ := hS.cell (HX0.out 10 _ rfl) id; have gx11 : w'.cell? ⟨gx, 11, none⟩ = some _ := hS.cell (HX0.out 11 _ rfl) id; have gx12 : w'.cell? ⟨gx, 12, none⟩ = some _ := hS.cell (HX0.out 12 _ rfl) id; have gx13 : w'.cell? ⟨gx, 13, none⟩ = some _ := hS.cell (HX0.out 13 _ rfl) id; have gx14 : w'.cell? ⟨gx, 14, none⟩ = some _ := hS.cell (HX0.out 14 _ rfl) id; have gx15 : w'.cell? ⟨gx, 15, none⟩ = some _ := hS.cell (HX1.out 0 _ rfl) id; have gx16 : w'.cell? ⟨gx, 16, none⟩ = some _ := hS.cell (HX1.out 1 _ rfl) id; have gx17 : w'.cell? ⟨gx, 17, none⟩ = some _ := hS.cell (HX1.out 2 _ rfl) id; have gx18 : w'.cell? ⟨gx, 18, none⟩ = some _ := hS.cell (HX1.out 3 _ rfl) id; have gx19 : w'.cell? ⟨gx, 19, none⟩ = some _ := hS.cell (HX1.out 4 _ rfl) id; have gx20 : w'.cell? ⟨gx, 20, none⟩ = some _ := hS.cell (HX1.out 5 _ rfl) id; have gx21 : w'.cell? ⟨gx, 21, none⟩ = some _ := hS.cell (HX1.out 6 _ rfl) id; have gx22 : w'.cell? ⟨gx, 22, none⟩ = some _ := hS.cell (HX1.out 7 _ rfl) id; have gx23 : w'.cell? ⟨gx, 23, none⟩ = some _ := hS.cell (HX1.out 8 _ rfl) id; have gx24 : w'.cell? ⟨gx, 24, none⟩ = some _ := hS.cell (HX1.out 9 _ rfl) id; have gx25 : w'.cell? ⟨gx, 25, none⟩ = some _ := hS.cell (HX1.out 10 _ rfl) id; have gx26 : w'.cell? ⟨gx, 26, none⟩ = some _ := hS.cell (HX1.out 11 _ rfl) id; have gx27 : w'.cell? ⟨gx, 27, none⟩ = some _ := hS.cell (HX1.out 12 _ rfl) id; have gx28 : w'.cell? ⟨gx, 28, none⟩ = some _ := hS.cell (HX1.out 13 _ rfl) id; have gx29 : w'.cell? ⟨gx, 29, none⟩ = some _ := hS.cell (HX1.out 14 _ rfl) id; have gy0 : w'.cell? ⟨gy, 0, none⟩ = some _ := hS.cell (HY0.out 0 _ rfl) id; have gy1 : w'.cell? ⟨gy, 1, none⟩ = some _ := hS.cell (HY0.out 1 _ rfl) id; have gy2 : w'.cell? ⟨gy, 2, none⟩ = some _ := hS.cell (HY0.out 2 _ rfl) id; have gy3 : w'.cell? ⟨gy, 3, none⟩ = some _ := hS.cell (HY0.out 3 _ rfl) id; have gy4 : w'.cell? ⟨gy, 4, none⟩ = some _ := hS.cell (HY0.out 4 _ rfl) id; have gy5 : w'.cell? ⟨gy, 5, none⟩ = some _ := hS.cell (HY0.out 5 _ rfl) id; have gy6 : w'.cell? ⟨gy, 6, none⟩ = some _ := hS.cell (HY0.out 6 _ rfl) id; have gy7 : w'.cell? ⟨gy, 7, none⟩ = some _ := hS.cell (HY0.out 7 _ rfl) id; have gy8 : w'.cell? ⟨gy, 8, none⟩ = some _ := hS.cell (HY0.out 8 _ rfl) id; have gy9 : w'.cell? ⟨gy, 9, none⟩ = some _ := hS.cell (HY0.out 9 _ rfl) id; have gy10 : w'.cell? ⟨gy, 10, none⟩ = some _ := hS.cell (HY0.out 10 _ rfl) id; have gy11 : w'.cell? ⟨gy, 11, none⟩ = some _ := hS.cell (HY0.out 11 _ rfl) id; have gy12 : w'.cell? ⟨gy, 12, none⟩ = some _ := hS.cell (HY0.out 12 _ rfl) id; have gy13 : w'.cell? ⟨gy, 13, none⟩ = some _ := hS.cell (HY0.out 13 _ rfl) id; have gy14 : w'.cell? ⟨gy, 14, none⟩ = some _ := hS.cell (HY0.out 14 _ rfl) id; have gy15 : w'.cell? ⟨gy, 15, none⟩ = some _ := hS.cell (HYB.out 0 _ rfl) id; have gy16 : w'.cell? ⟨gy, 16, none⟩ = some _ := hS.cell (HYB.out 1 _ rfl) id; have gy17 : w'.cell? ⟨gy, 17, none⟩ = some _ := hS.cell (HYB.out 2 _ rfl) id; have gy18 : w'.cell? ⟨gy, 18, none⟩ = some _ := hS.cell (HYB.out 3 _ rfl) id; have gy19 : w'.cell? ⟨gy, 19, none⟩ = some _ := hS.cell (HYB.out 4 _ rfl) id; have gy20 : w'.cell? ⟨gy, 20, none⟩ = some _ := hS.cell (HYB.out 5 _ rfl) id; have gy21 : w'.cell? ⟨gy, 21, none⟩ = some _ := hS.cell (HYB.out 6 _ rfl) id; have gy22 : w'.cell? ⟨gy, 22, none⟩ = some _ := hS.cell (HYB.out 7 _ rfl) id; have gy23 : w'.cell? ⟨gy, 23, none⟩ = some _ := hS.cell (HYB.out 8 _ rfl) id; have gy24 : w'.cell? ⟨gy, 24, none⟩ = some _ := hS.cell (HYB.out 9 _ rfl) id; have gy25 : w'.cell? ⟨gy, 25, none⟩ = some _ := hS.cell (HYB.out 10 _ rfl) id; have gy26 : w'.cell? ⟨gy, 26, none⟩ = some _ := hS.cell (HYB.out 11 _ rfl) id; have gy27 : w'.cell? ⟨gy, 27, none⟩ = some _ := hS.cell (HYB.out 12 _ rfl) id; have gy28 : w'.cell? ⟨gy, 28, none⟩ = some _ := hS.cell (HYB.out 13 _ rfl) id; have gy29 : w'.cell? ⟨gy, 29, none⟩ = some _ := hS.cell (HYB.out 14 _ rfl) id; clear hS; go_simp; try rfl)
       simp only [List.getElem_toArray, List.getElem_cons_zero, List.getElem_cons_succ, Act.put, List.setIfInBounds_toArray, List.set_cons_zero, List.set_cons_succ])
    | (refine' wpPlan_skip rfl (by rfl) ?_
       simp only [List.getElem_toArray, List.getElem_cons_zero, List.getElem_cons_succ, Act.put, List.setIfInBounds_toArray, List.set_cons_zero, List.set_cons_succ])
    | (refine' wpPlan_skipHeld rfl (by rfl) ?_
       simp only [List.getElem_toArray, List.getElem_cons_zero, List.getElem_cons_succ, Act.put, List.setIfInBounds_toArray, List.set_cons_zero, List.set_cons_succ]))
  refine' wpPlan_kept rfl ?_
  intro K hK
  go_simp
  refine (HSM.out _ (M1.out.stay fd) (M2.out.stay fd)).mono ?_
  rintro e w7 ⟨rfl, f7⟩
  have fd7 := fd.trans f7
  go_simp
  refine hK _ _ ⟨fd7, ?_⟩
  clear hK K
  repeat (first
    | (refine' wpPlan_free (v := _) rfl (by rfl) ?_ ?_
       rotate_left
       · (intro w'; go_simp; try rfl)
       simp only [List.getElem_toArray, List.getElem_cons_zero, List.getElem_cons_succ, Act.put, List.setIfInBounds_toArray, List.set_cons_zero, List.set_cons_succ])
    | (refine' wpPlan_held (v := _) rfl (by rfl) ?_ ?_
       rotate_left
       · (intro w' hS; have gx0 : w'.cell? ⟨gx, 0, none⟩ = some _ := hS.cell (HX0.out 0 _ rfl) id; have gx1 : w'.cell? ⟨gx, 1, none⟩ = some _ := hS.cell (HX0.out 1 _ rfl) id; have gx2 : w'.cell? ⟨gx, 2, none⟩ = some _ := hS.cell (HX0.out 2 _ rfl) id; have gx3 : w'.cell? ⟨gx, 3, none⟩ = some _ := hS.cell (HX0.out 3 _ rfl) id; have gx4 : w'.cell? ⟨gx, 4, none⟩ = some _ := hS.cell (HX0.out 4 _ rfl) id; have gx5 : w'.cell? ⟨gx, 5, none⟩ = some _ := hS.cell (HX0.out 5 _ rfl) id; have gx6 : w'.cell? ⟨gx, 6, none⟩ = some _ := hS.cell (HX0.out 6 _ rfl) id; have gx7 : w'.cell? ⟨gx, 7, none⟩ = some _ := hS.cell (HX0.out 7 _ rfl) id; have gx8 : w'.cell? ⟨gx, 8, none⟩ = some _ := hS.cell (HX0.out 8 _ rfl) id; have gx9 : w'.cell? ⟨gx, 9, none⟩ = some _ := hS.cell (HX0.out 9 _ rfl) id; have gx10 : w'.cell? ⟨gx, 10, none⟩ = some _ := hS.cell (HX0.out 10 _ rfl) id; have gx11 : w'.cell? ⟨gx, 11, none⟩ = some _ := hS.cell (HX0.out 11 _ rfl) id; have gx12 : w'.cell? ⟨gx, 12, none⟩ = some _ := hS.cell (HX0.out 12 _ rfl) id; have gx13 : w'.cell? ⟨gx, 13, none⟩ = some _ := hS.cell (HX0.out 13 _ rfl) id; have gx14 : w'.cell? ⟨gx, 14, none⟩ = some _ := hS.cell (HX0.out 14 _ rfl) id; have gx15 : w'.cell? ⟨gx, 15, none⟩ = some _ := hS.cell (HX1.out 0 _ rfl) id; have gx16 : w'.cell? ⟨gx, 16, none⟩ = some _ := hS.cell (HX1.out 1 _ rfl) id; have gx17 : w'.cell? ⟨gx, 17, none⟩ = some _ := hS.cell (HX1.out 2 _ rfl) id; have gx18 : w'.cell? ⟨gx, 18, none⟩ = some _ := hS.cell (HX1.out 3 _ rfl) id; have gx19 : w'.cell? ⟨gx, 19, none⟩ = some _ := hS.cell (HX1.out 4 _ rfl) id; have gx20 : w'.cell? ⟨gx, 20, none⟩ = some _ := hS.cell (HX1.out 5 _ rfl) id; have gx21 : w'.cell? ⟨gx, 21, none⟩ = some _ := hS.cell (HX1.out 6 _ rfl) id; have gx22 : w'.cell? ⟨gx, 22, none⟩ = some _ := hS.cell (HX1.out 7 _ rfl) id; have gx23 : w'.cell? ⟨gx, 23, none⟩ = some _ := hS.cell (HX1.out 8 _ rfl) id; have gx24 : w'.cell? ⟨gx, 24, none⟩ = some _ := hS.cell (HX1.out 9 _ rfl) id; have gx25 : w'.cell? ⟨gx, 25, none⟩ = some _ := hS.cell (HX1.out 10 _ rfl) id; have gx26 : w'.cell? ⟨gx, 26, none⟩ = some _ := hS.cell (HX1.out 11 _ rfl) id; have gx27 : w'.cell? ⟨gx, 27, none⟩ = some _ := hS.cell (HX1.out 12 _ rfl) id; have gx28 : w'.cell? ⟨gx, 28, none⟩ = some _ := hS.cell (HX1.out 13 _ rfl) id; have gx29 : w'.cell? ⟨gx, 29, none⟩ = some _ := hS.cell (HX1.out 14 _ rfl) id; have gy0 : w'.cell? ⟨gy, 0, none⟩ = some _ := hS.cell (HY0.out 0 _ rfl) id; have gy1 : w'.cell? ⟨gy, 1, none⟩ = some _ := hS.cell (HY0.out 1 _ rfl) id; have gy2 : w'.cell? ⟨gy, 2, none⟩ = some _ := hS.cell (HY0.out 2 _ rfl) id; have gy3 : w'.cell? ⟨gy, 3, none⟩ = some _ := hS.cell (HY0.out 3 _ rfl) id; have gy4 : w'.cell? ⟨gy, 4, none⟩ = some _ := hS.cell (HY0.out 4 _ rfl) id; have gy5 : w'.cell? ⟨gy, 5, none⟩ = some _ := hS.cell (HY0.out 5 _ rfl) id; have gy6 : w'.cell? ⟨gy, 6, none⟩ = some _ := hS.cell (HY0.out 6 _ rfl) id; have gy7 : w'.cell? ⟨gy, 7, none⟩ = some _ := hS.cell (HY0.out 7 _ rfl) id; have gy8 : w'.cell? ⟨gy, 8, none⟩ = some _ := hS.cell (HY0.out 8 _ rfl) id; have gy9 : w'.cell? ⟨gy, 9, none⟩ = some _ := hS.cell (HY0.out 9 _ rfl) id; have gy10 : w'.cell? ⟨gy, 10, none⟩ = some _ := hS.cell (HY0.out 10 _ rfl) id; have gy11 : w'.cell? ⟨gy, 11, none⟩ = some _ := hS.cell (HY0.out 11 _ rfl) id; have gy12 : w'.cell? ⟨gy, 12, none⟩ = some _ := hS.cell (HY0.out 12 _ rfl) id; have gy13 : w'.cell? ⟨gy, 13, none⟩ = some _ := hS.cell (HY0.out 13 _ rfl) id; have gy14 : w'.cell? ⟨gy, 14, none⟩ = some _ := hS.cell (HY0.out 14 _ rfl) id; have gy15 : w'.cell? ⟨gy, 15, none⟩ = some _ := hS.cell (HYB.out 0 _ rfl) id; have gy16 : w'.cell? ⟨gy, 16, none⟩ = some _ := hS.cell (HYB.out 1 _ rfl) id; have gy17 : w'.cell? ⟨gy, 17, none⟩ = some _ := hS.cell (HYB.out 2 _ rfl) id; have gy18 : w'.cell? ⟨gy, 18, none⟩ = some _ := hS.cell (HYB.out 3 _ rfl) id; have gy19 : w'.cell? ⟨gy, 19, none⟩ = some _ := hS.cell (HYB.out 4 _ rfl) id; have gy20 : w'.cell? ⟨gy, 20, none⟩ = some _ := hS.cell (HYB.out 5 _ rfl) id; have gy21 : w'.cell? ⟨gy, 21, none⟩ = some _ := hS.cell (HYB.out 6 _ rfl) id; have gy22 : w'.cell? ⟨gy, 22, none⟩ = some _ := hS.cell (HYB.out 7 _ rfl) id; have gy23 : w'.cell? ⟨gy, 23, none⟩ = some _ := hS.cell (HYB.out 8 _ rfl) id; have gy24 : w'.cell? ⟨gy, 24, none⟩ = some _ := hS.cell (HYB.out 9 _ rfl) id; have gy25 : w'.cell? ⟨gy, 25, none⟩ = some _ := hS.cell (HYB.out 10 _ rfl) id; have gy26 : w'.cell? ⟨gy, 26, none⟩ = some _ := hS.cell (HYB.out 11 _ rfl) id; have gy27 : w'.cell? ⟨gy, 27, none⟩ = some _ := hS.cell (HYB.out 12 _ rfl) id; have gy28 : w'.cell? ⟨gy, 28, none⟩ = some _ := hS.cell (HYB.out 13 _ rfl) id; have gy29 : w'.cell? ⟨gy, 29, none⟩ = some _ := hS.cell (HYB.out 14 _ rfl) id; clear hS; go_simp; try rfl)
       simp only [List.getElem_toArray, List.getElem_cons_zero, List.getElem_cons_succ, Act.put, List.setIfInBounds_toArray, List.set_cons_zero, List.set_cons_succ])
    | (refine' wpPlan_skip rfl (by rfl) ?_
       simp only [List.getElem_toArray, List.getElem_cons_zero, List.getElem_cons_succ, Act.put, List.setIfInBounds_toArray, List.set_cons_zero, List.set_cons_succ])
    | (refine' wpPlan_skipHeld rfl (by rfl) ?_
       simp only [List.getElem_toArray, List.getElem_cons_zero, List.getElem_cons_succ, Act.put, List.setIfInBounds_toArray, List.set_cons_zero, List.set_cons_succ]))
  refine' wpPlan_kept rfl ?_
  intro K hK
  go_simp
  refine (HS1.out _ (K1.out.stay fd7) (K2.out.stay fd7) (K7.out.stay fd7) (K8.out.stay fd7)).mono ?_
  rintro e w8 ⟨rfl, f8⟩
  have fd8 := fd7.trans f8
  go_simp
  refine hK _ _ ⟨fd8, ?_⟩
  clear hK K
  repeat (first
    | (refine' wpPlan_free (v := _) rfl (by rfl) ?_ ?_
       rotate_left
       · (intro w'; go_simp; try rfl)
       simp only [List.getElem_toArray, List.getElem_cons_zero, List.getElem_cons_succ, Act.put, List.setIfInBounds_toArray, List.set_cons_zero, List.set_cons_succ])
    | (refine' wpPlan_held (v := _) rfl (by rfl) ?_ ?_
       rotate_left
       · (intro w' hS; have gx0 : w'.cell? ⟨gx, 0, none⟩ = some _ := hS.cell (HX0.out 0 _ rfl) id; have gx1 : w'.cell? ⟨gx, 1, none⟩ = some _ := hS.cell (HX0.out 1 _ rfl) id; have gx2 : w'.cell? ⟨gx, 2, none⟩ = some _ := hS.cell (HX0.out 2 _ rfl) id; have gx3 : w'.cell? ⟨gx, 3, none⟩ = some _ := hS.cell (HX0.out 3 _ rfl) id; have gx4 : w'.cell? ⟨gx, 4, none⟩ = some _ := hS.cell (HX0.out 4 _ rfl) id; have gx5 : w'.cell? ⟨gx, 5, none⟩ = some _ := hS.cell (HX0.out 5 _ rfl) id; have gx6 : w'.cell? ⟨gx, 6, none⟩ = some _ := hS.cell (HX0.out 6 _ rfl) id; have gx7 : w'.cell? ⟨gx, 7, none⟩ = some _ := hS.cell (HX0.out 7 _ rfl) id; have gx8 : w'.cell? ⟨gx, 8, none⟩ = some _ := hS.cell (HX0.out 8 _ rfl) id; have gx9 : w'.cell? ⟨gx, 9, none⟩ = some _ := hS.cell (HX0.out 9 _ rfl) id; have gx10 : w'.cell? ⟨gx, 10, none⟩ = some _ := hS.cell (HX0.out 10 _ rfl) id; have gx11 : w'.cell? ⟨gx, 11, none⟩ = some _ := hS.cell (HX0.out 11 _ rfl) id; have gx12 : w'.cell? ⟨gx, 12, none⟩ = some _ := hS.cell (HX0.out 12 _ rfl) id; have gx13 : w'.cell? ⟨gx, 13, none⟩ = some _ := hS.cell (HX0.out 13 _ rfl) id; have gx14 : w'.cell? ⟨gx, 14, none⟩ = some _ := hS.cell (HX0.out 14 _ rfl) id; have gx15 : w'.cell? ⟨gx, 15, none⟩ = some _ := hS.cell (HX1.out 0 _ rfl) id; have gx16 : w'.cell? ⟨gx, 16, none⟩ = some _ := hS.cell (HX1.out 1 _ rfl) id; have gx17 : w'.cell? ⟨gx, 17, none⟩ = some _ := hS.cell (HX1.out 2 _ rfl) id; have gx18 : w'.cell? ⟨gx, 18, none⟩ = some _ := hS.cell (HX1.out 3 _ rfl) id; have gx19 : w'.cell? ⟨gx, 19, none⟩ = some _ := hS.cell (HX1.out 4 _ rfl) id; have gx20 : w'.cell? ⟨gx, 20, none⟩ = some _ := hS.cell (HX1.out 5 _ rfl) id; have gx21 : w'.cell? ⟨gx, 21, none⟩ = some _ := hS.cell (HX1.out 6 _ rfl) id; have gx22 : w'.cell? ⟨gx, 22, none⟩ = some _ := hS.cell (HX1.out 7 _ rfl) id; have gx23 : w'.cell? ⟨gx, 23, none⟩ = some _ := hS.cell (HX1.out 8 _ rfl) id; have gx24 : w'.cell? ⟨gx, 24, none⟩ = some _ := hS.cell (HX1.out 9 _ rfl) id; have gx25 : w'.cell? ⟨gx, 25, none⟩ = some _ := hS.cell (HX1.out 10 _ rfl) id; have gx26 : w'.cell? ⟨gx, 26, none⟩ = some _ := hS.cell (HX1.out 11 _ rfl) id; have gx27 : w'.cell? ⟨gx, 27, none⟩ = some _ := hS.cell (HX1.out 12 _ rfl) id; have gx28 : w'.cell? ⟨gx, 28, none⟩ = some _ := hS.cell (HX1.out 13 _ rfl) id; have gx29 : w'.cell? ⟨gx, 29, none⟩ = some _ := hS.cell (HX1.out 14 _ rfl) id; have gy0 : w'.cell? ⟨gy, 0, none⟩ = some _ := hS.cell (HY0.out 0 _ rfl) id; have gy1 : w'.cell? ⟨gy, 1, none⟩ = some _ := hS.cell (HY0.out 1 _ rfl) id; have gy2 : w'.cell? ⟨gy, 2, none⟩ = some _ := hS.cell (HY0.out 2 _ rfl) id; have gy3 : w'.cell? ⟨gy, 3, none⟩ = some _ := hS.cell (HY0.out 3 _ rfl) id; have gy4 : w'.cell? ⟨gy, 4, none⟩ = some _ := hS.cell (HY0.out 4 _ rfl) id; have gy5 : w'.cell? ⟨gy, 5, none⟩ = some _ := hS.cell (HY0.out 5 _ rfl) id; have gy6 : w'.cell? ⟨gy, 6, none⟩ = some _ := hS.cell (HY0.out 6 _ rfl) id; have gy7 : w'.cell? ⟨gy, 7, none⟩ = some _ := hS.cell (HY0.out 7 _ rfl) id; have gy8 : w'.cell? ⟨gy, 8, none⟩ = some _ := hS.cell (HY0.out 8 _ rfl) id; have gy9 : w'.cell? ⟨gy, 9, none⟩ = some _ := hS.cell (HY0.out 9 _ rfl) id; have gy10 : w'.cell? ⟨gy, 10, none⟩ = some _ := hS.cell (HY0.out 10 _ rfl) id; have gy11 : w'.cell? ⟨gy, 11, none⟩ = some _ := hS.cell (HY0.out 11 _ rfl) id; have gy12 : w'.cell? ⟨gy, 12, none⟩ = some _ := hS.cell (HY0.out 12 _ rfl) id; have gy13 : w'.cell? ⟨gy, 13, none⟩ = some _ := hS.cell (HY0.out 13 _ rfl) id; have gy14 : w'.cell? ⟨gy, 14, none⟩ = some _ := hS.cell (HY0.out 14 _ rfl) id; have gy15 : w'.cell? ⟨gy, 15, none⟩ = some _ := hS.cell (HYB.out 0 _ rfl) id; have gy16 : w'.cell? ⟨gy, 16, none⟩ = some _ := hS.cell (HYB.out 1 _ rfl) id; have gy17 : w'.cell? ⟨gy, 17, none⟩ = some _ := hS.cell (HYB.out 2 _ rfl) id; have gy18 : w'.cell? ⟨gy, 18, none⟩ = some _ := hS.cell (HYB.out 3 _ rfl) id; have gy19 : w'.cell? ⟨gy, 19, none⟩ = some _ := hS.cell (HYB.out 4 _ rfl) id; have gy20 : w'.cell? ⟨gy, 20, none⟩ = some _ := hS.cell (HYB.out 5 _ rfl) id; have gy21 : w'.cell? ⟨gy, 21, none⟩ = some _ := hS.cell (HYB.out 6 _ rfl) id; have gy22 : w'.cell? ⟨gy, 22, none⟩ = some _ := hS.cell (HYB.out 7 _ rfl) id; have gy23 : w'.cell? ⟨gy, 23, none⟩ = some _ := hS.cell (HYB.out 8 _ rfl) id; have gy24 : w'.cell? ⟨gy, 24, none⟩ = some _ := hS.cell (HYB.out 9 _ rfl) id; have gy25 : w'.cell? ⟨gy, 25, none⟩ = some _ := hS.cell (HYB.out 10 _ rfl) id; have gy26 : w'.cell? ⟨gy, 26, none⟩ = some _ := hS.cell (HYB.out 11 _ rfl) id; have gy27 : w'.cell? ⟨gy, 27, none⟩ = some _ := hS.cell (HYB.out 12 _ rfl) id; have gy28 : w'.cell? ⟨gy, 28, none⟩ = some _ := hS.cell (HYB.out 13 _ rfl) id; have gy29 : w'.cell? ⟨gy, 29, none⟩ = some _ := hS.cell (HYB.out 14 _ rfl) id; clear hS; go_simp; try rfl)
       simp only [List.getElem_toArray, List.getElem_cons_zero, List.getElem_cons_succ, Act.put, List.setIfInBounds_toArray, List.set_cons_zero, List.set_cons_succ])
    | (refine' wpPlan_skip rfl (by rfl) ?_
       simp only [List.getElem_toArray, List.getElem_cons_zero, List.getElem_cons_succ, Act.put, List.setIfInBounds_toArray, List.set_cons_zero, List.set_cons_succ])
    | (refine' wpPlan_skipHeld rfl (by rfl) ?_
       simp only [List.getElem_toArray, List.getElem_cons_zero, List.getElem_cons_succ, Act.put, List.setIfInBounds_toArray, List.set_cons_zero, List.set_cons_succ]))
  refine' wpPlan_kept rfl ?_
  intro K hK
  go_simp
  refine (HS2.out _ (K3.out.stay fd8) (K4.out.stay fd8) (K5.out.stay fd8) (K6.out.stay fd8)).mono ?_
  rintro e w9 ⟨rfl, f9⟩
  have fd9 := fd8.trans f9
  go_simp
  refine hK _ _ ⟨fd9, ?_⟩
  clear hK K
  repeat (first
    | (refine' wpPlan_free (v := _) rfl (by rfl) ?_ ?_
       rotate_left
       · (intro w'; go_simp; try rfl)
       simp only [List.getElem_toArray, List.getElem_cons_zero, List.getElem_cons_succ, Act.put, List.setIfInBounds_toArray, List.set_cons_zero, List.set_cons_succ])
    | (refine' wpPlan_held (v := _) rfl (by rfl) ?_ ?_
       rotate_left
       · (intro w' hS; clear hS; go_simp; try rfl)
       simp only [List.getElem_toArray, List.getElem_cons_zero, List.getElem_cons_succ, Act.put, List.setIfInBounds_toArray, List.set_cons_zero, List.set_cons_succ])
    | (refine' wpPlan_skip rfl (by rfl) ?_
       simp only [List.getElem_toArray, List.getElem_cons_zero, List.getElem_cons_succ, Act.put, List.setIfInBounds_toArray, List.set_cons_zero, List.set_cons_succ])
    | (refine' wpPlan_skipHeld rfl (by rfl) ?_
       simp only [List.getElem_toArray, List.getElem_cons_zero, List.getElem_cons_succ, Act.put, List.setIfInBounds_toArray, List.set_cons_zero, List.set_cons_succ]))
  refine wpPlan_end ?_
  simp only [wpSegs, List.drop_succ_cons, List.drop_zero]
  go_wp2_with fail
  go_ret
  exact ⟨by trivial, (f0.trans f16).trans fd9⟩

theorem apart_law {w : World} {vl : Value} {l : List MItem} (hl : Sl kItem All w vl l) (a b : MCall) {aa ba : Option Addr} {ac bc : Nat} (ha : Sl kByte All w (.slice aa a.2.2.2.length ac) a.2.2.2) (hb : Sl kByte All w (.slice ba b.2.2.2.length bc) b.2.2.2)
    (hal : a.2.2.2.length ≤ reachBytes) (hbl : b.2.2.2.length ≤ reachBytes) (hak : 0 ≤ a.2.1 ∧ a.2.1 ≤ 18446744073709551615) (hbk : 0 ≤ b.2.1 ∧ b.2.1 ≤ 18446744073709551615) (ham : 0 ≤ a.2.2.1 ∧ a.2.2.1 ≤ 18446744073709551615) (hbm : 0 ≤ b.2.2.1 ∧ b.2.2.1 ≤ 18446744073709551615) (hai : (Lit.int .i64 a.1).wf = true) (hbi : (Lit.int .i64 b.1).wf = true) :
    Calls Try.prog 4 #[vl, .agg #[.int .i64 a.1, .int .u64 a.2.1, .int .u64 a.2.2.1, .slice aa a.2.2.2.length ac], .agg #[.int .i64 b.1, .int .u64 b.2.1, .int .u64 b.2.2.1, .slice ba b.2.2.2.length bc]] w fun e w' => e = .returned (.bool true) ∧ Fr Non w w' := by
  cases h1 : mWrites a with
  | false => exact apart1 hl a b ha hb h1
  | true =>
    cases h2 : mWrites b with
    | false => exact apart2 hl a b ha hb h1 h2
    | true =>
      by_cases h3 : a.2.1 = b.2.1
      · exact apart3 hl a b ha hb h1 h2 h3
      by_cases h4 : mOk none (l.take 200) = true
      rotate_left
      · exact apart4 hl a b ha hb hal hbl hak hbk ham hbm hai hbi h1 h2 h3 h4
      by_cases h5 : mCallOk a = true
      rotate_left
      · exact apart5 hl a b ha hb hal hbl hak hbk ham hbm hai hbi h1 h2 h3 h4 h5
      by_cases h6 : mCallOk b = true
      · exact apart7 hl a b ha hb hal hbl hak hbk ham hbm hai hbi h1 h2 h3 h4 h5 h6
      · exact apart6 hl a b ha hb hal hbl hak hbk ham hbm hai hbi h1 h2 h3 h4 h5 h6
end Go.Proofs.Ytplhcfaonhkegaa
