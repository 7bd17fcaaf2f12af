/-
  Model: ModelOne.
-/
import Derived.Test.YtplhcfaonhkegaaM24
import Derived.Test.YtplhcfaonhkegaaM0b
import Derived.Deep.DeepCutAuto
namespace Go.Proofs.Ytplhcfaonhkegaa
open Go.RowKit Go.Maps

set_option maxRecDepth 100000 in
set_option maxHeartbeats 4000000 in
theorem one_bad {w : World} {vl : Value} {l : List MItem} (hl : Sl kItem All w vl l) (c : MCall) {ca : Option Addr} {cc : Nat} (hc : Sl kByte All w (.slice ca c.2.2.2.length cc) c.2.2.2) (hck : 0 ≤ c.2.1 ∧ c.2.1 ≤ 18446744073709551615) (k : Int) (h4 : ¬ mOk none (l.take 200) = true) :
    Calls Try.prog 5 #[vl, .agg #[.int .i64 c.1, .int .u64 c.2.1, .int .u64 c.2.2.1, .slice ca c.2.2.2.length cc], .int .u64 k] w fun e w' => e = .returned (.bool true) ∧ Fr Non w w' := by
  obtain ⟨a1, n1, rfl, _⟩ := hl.frm
  have f0 : Fr Non w (w.alloc (.cells #[.int .i64 c.1, .int .u64 c.2.1, .int .u64 c.2.2.1, .slice ca c.2.2.2.length cc] 39)) := (Fr.refl _ _).alloc _
  have bC := alloc_at w (.cells #[.int .i64 c.1, .int .u64 c.2.1, .int .u64 c.2.2.1, .slice ca c.2.2.2.length cc] 39)
  have HL := Lib.hid (hl.stay f0)
  have HV := Lib.hid (hc.stay f0)
  obtain ⟨C, hC⟩ : ∃ C, w.heap.size = C := ⟨_, rfl⟩
  rw [hC] at bC
  have hl200 : (l.take 200).length ≤ 200 := by rw [List.length_take]; omega
  obtain ⟨L, hL⟩ : ∃ L, l.take 200 = L := ⟨_, rfl⟩
  rw [hL] at h4 hl200
  have HLL := Lib.hid hL
  clear hl hc hL
  have hdo := fun (w : World) (a : Option Addr) (n : Nat) (h : Sl kItem All w (.slice a L.length n) L) (hv : Sl kByte All w (.slice ca c.2.2.2.length cc) c.2.2.2) => do_any h (by omega) c hv hck
  rw [mDo_err h4] at hdo
  have HDO := Lib.hid hdo
  clear hdo
  go_enter Try.func5, Try.ntmps5
  go_wp2_with fail
  refine (awake_any _).mono ?_
  rintro e w1 ⟨rfl, f1⟩
  go_wp2_with fail
  refine (few_any (HL.out.stay f1)).mono ?_
  rintro e w2 ⟨x1, y1, rfl, h1, hw⟩
  obtain rfl := hw.symm
  rw [HLL.out] at h1 ⊢
  have H1 := Lib.hid h1
  clear h1
  obtain ⟨qC, zC⟩ := f1.box bC id
  have f01 := f0.trans f1
  have bC1 := f1.heap bC id
  go_wp2_with fail
  refine (HDO.out _ _ _ H1.out (HV.out.stay f1)).mono ?_
  rintro e wd ⟨x, y, rfl, hx, hy, fd⟩
  obtain ⟨u8', v8', rfl, hrd, ⟨p1, p2, p3, rfl⟩, ⟨p4, p5, p6, rfl⟩⟩ := res_rd hy (by simp only [mErr]; decide) rfl rfl
  obtain ⟨xa, xc, rfl⟩ := hx.form
  clear hrd hx hy qC zC
  simp only [resCells, refCells, mErr, r0, List.cons_append, List.nil_append]
  have fy : Fr Non wd (wd.alloc (.cells #[.int .i64 0, .int .u64 0, .slice p1 p2 p3, .slice p4 p5 p6, .int .i64 0, .int .i64 0, .int .u64 0, .int .i64 0, .int .u64 0, .int .i64 0, .int .i64 0, .int .u64 0, .int .i64 0, .int .u64 0, .bool false] 52)) := (Fr.refl _ _).alloc _
  have hck2 := rcheck_any (H1.out.stay (fd.trans fy))
  rw [show mCheck L = 103 from if_neg h4] at hck2
  have HCK := Lib.hid hck2
  clear hck2
  go_wp2_with fail
  refine HCK.out.mono ?_
  rintro e w7 ⟨rfl, f7⟩
  go_wp2_with fail
  go_ret
  exact ⟨by trivial, f01.trans ((fd.trans fy).trans f7)⟩

set_option maxRecDepth 100000 in
set_option maxHeartbeats 4000000 in
theorem one_call {w : World} {vl : Value} {l : List MItem} (hl : Sl kItem All w vl l) (c : MCall) {ca : Option Addr} {cc : Nat} (hc : Sl kByte All w (.slice ca c.2.2.2.length cc) c.2.2.2) (hck : 0 ≤ c.2.1 ∧ c.2.1 ≤ 18446744073709551615) (k : Int) (h4 : mOk none (l.take 200) = true) (h5 : ¬ mCallOk c = true) :
    Calls Try.prog 5 #[vl, .agg #[.int .i64 c.1, .int .u64 c.2.1, .int .u64 c.2.2.1, .slice ca c.2.2.2.length cc], .int .u64 k] w fun e w' => e = .returned (.bool true) ∧ Fr Non w w' := by
  obtain ⟨a1, n1, rfl, _⟩ := hl.frm
  have f0 : Fr Non w (w.alloc (.cells #[.int .i64 c.1, .int .u64 c.2.1, .int .u64 c.2.2.1, .slice ca c.2.2.2.length cc] 39)) := (Fr.refl _ _).alloc _
  have bC := alloc_at w (.cells #[.int .i64 c.1, .int .u64 c.2.1, .int .u64 c.2.2.1, .slice ca c.2.2.2.length cc] 39)
  have HL := Lib.hid (hl.stay f0)
  have HV := Lib.hid (hc.stay f0)
  obtain ⟨C, hC⟩ : ∃ C, w.heap.size = C := ⟨_, rfl⟩
  rw [hC] at bC
  have hl200 : (l.take 200).length ≤ 200 := by rw [List.length_take]; omega
  obtain ⟨L, hL⟩ : ∃ L, l.take 200 = L := ⟨_, rfl⟩
  rw [hL] at h4 hl200
  have HLL := Lib.hid hL
  clear hl hc hL
  have hdo := fun (w : World) (a : Option Addr) (n : Nat) (h : Sl kItem All w (.slice a L.length n) L) (hv : Sl kByte All w (.slice ca c.2.2.2.length cc) c.2.2.2) => do_any h (by omega) c hv hck
  rw [mDo_call h4 h5] at hdo
  have HDO := Lib.hid hdo
  clear hdo
  go_enter Try.func5, Try.ntmps5
  go_wp2_with fail
  refine (awake_any _).mono ?_
  rintro e w1 ⟨rfl, f1⟩
  go_wp2_with fail
  refine (few_any (HL.out.stay f1)).mono ?_
  rintro e w2 ⟨x1, y1, rfl, h1, hw⟩
  obtain rfl := hw.symm
  rw [HLL.out] at h1 ⊢
  have H1 := Lib.hid h1
  clear h1
  obtain ⟨qC, zC⟩ := f1.box bC id
  have f01 := f0.trans f1
  have bC1 := f1.heap bC id
  go_wp2_with fail
  refine (HDO.out _ _ _ H1.out (HV.out.stay f1)).mono ?_
  rintro e wd ⟨x, y, rfl, hx, hy, fd⟩
  obtain ⟨u8', v8', rfl, hrd, ⟨p1, p2, p3, rfl⟩, ⟨p4, p5, p6, rfl⟩⟩ := res_rd hy (by simp only [mErr]; decide) rfl rfl
  obtain ⟨xa, xc, rfl⟩ := hx.form
  clear hrd hx hy qC zC
  simp only [resCells, refCells, mErr, r0, List.cons_append, List.nil_append]
  have fy : Fr Non wd (wd.alloc (.cells #[.int .i64 0, .int .u64 0, .slice p1 p2 p3, .slice p4 p5 p6, .int .i64 0, .int .i64 0, .int .u64 0, .int .i64 0, .int .u64 0, .int .i64 0, .int .i64 0, .int .u64 0, .int .i64 0, .int .u64 0, .bool false] 52)) := (Fr.refl _ _).alloc _
  have hck2 := rcheck_any (H1.out.stay (fd.trans fy))
  rw [show mCheck L = 0 from if_pos h4] at hck2
  have HCK := Lib.hid hck2
  have hca := fun w => rcall_any w c ca cc
  rw [show mCall c = 104 from if_neg h5] at hca
  have HCA := Lib.hid hca
  have bC2 := (fd.trans fy).heap bC1 id
  clear hck2 hca bC1
  go_wp2_with fail
  refine HCK.out.mono ?_
  rintro e w7 ⟨rfl, f7⟩
  obtain ⟨qC, zC⟩ := f7.box bC2 id
  go_wp2_with fail
  refine (HCA.out _).mono ?_
  rintro e w8 ⟨rfl, f8⟩
  go_wp2_with fail
  go_ret
  exact ⟨by trivial, f01.trans (((fd.trans fy).trans f7).trans f8)⟩

set_option maxRecDepth 100000 in
set_option maxHeartbeats 4000000 in
theorem one_yes {w : World} {vl : Value} {l : List MItem} (hl : Sl kItem All w vl l) (c : MCall) {ca : Option Addr} {cc : Nat} (hc : Sl kByte All w (.slice ca c.2.2.2.length cc) c.2.2.2) (hck : 0 ≤ c.2.1 ∧ c.2.1 ≤ 18446744073709551615) (k : Int) (h4 : mOk none (l.take 200) = true) (h5 : mCallOk c = true) :
    Calls Try.prog 5 #[vl, .agg #[.int .i64 c.1, .int .u64 c.2.1, .int .u64 c.2.2.1, .slice ca c.2.2.2.length cc], .int .u64 k] w fun e w' => e = .returned (.bool true) ∧ Fr Non w w' := by
  obtain ⟨a1, n1, rfl, _⟩ := hl.frm
  have f0 : Fr Non w (w.alloc (.cells #[.int .i64 c.1, .int .u64 c.2.1, .int .u64 c.2.2.1, .slice ca c.2.2.2.length cc] 39)) := (Fr.refl _ _).alloc _
  have bC := alloc_at w (.cells #[.int .i64 c.1, .int .u64 c.2.1, .int .u64 c.2.2.1, .slice ca c.2.2.2.length cc] 39)
  have HL := Lib.hid (hl.stay f0)
  have HV := Lib.hid (hc.stay f0)
  obtain ⟨C, hC⟩ : ∃ C, w.heap.size = C := ⟨_, rfl⟩
  rw [hC] at bC
  have hl200 : (l.take 200).length ≤ 200 := by rw [List.length_take]; omega
  obtain ⟨L, hL⟩ : ∃ L, l.take 200 = L := ⟨_, rfl⟩
  rw [hL] at h4 hl200
  have HLL := Lib.hid hL
  clear hl hc hL
  have hdo := fun (w : World) (a : Option Addr) (n : Nat) (h : Sl kItem All w (.slice a L.length n) L) (hv : Sl kByte All w (.slice ca c.2.2.2.length cc) c.2.2.2) => do_any h (by omega) c hv hck
  rw [mDo_ok h4 h5] at hdo
  have HDO := Lib.hid hdo
  clear hdo
  go_enter Try.func5, Try.ntmps5
  go_wp2_with fail
  refine (awake_any _).mono ?_
  rintro e w1 ⟨rfl, f1⟩
  go_wp2_with fail
  refine (few_any (HL.out.stay f1)).mono ?_
  rintro e w2 ⟨x1, y1, rfl, h1, hw⟩
  obtain rfl := hw.symm
  rw [HLL.out] at h1 ⊢
  have H1 := Lib.hid h1
  clear h1
  obtain ⟨qC, zC⟩ := f1.box bC id
  have f01 := f0.trans f1
  have bC1 := f1.heap bC id
  go_wp2_with fail
  refine (HDO.out _ _ _ H1.out (HV.out.stay f1)).mono ?_
  rintro e wd ⟨x, y, rfl, hx, hy, fd⟩
  obtain ⟨hr1, hr2, hr3⟩ := mDone_refs L c
  obtain ⟨u8', v8', rfl, hrd, ⟨p1, p2, p3, rfl⟩, ⟨p4, p5, p6, rfl⟩⟩ := res_rd hy hr3 hr1 hr2
  have hmok := mDone_ok h4 h5
  have hoth : k ≠ c.2.1 → mKey k (mDone L c).1 = mKey k L := mDone_other
  have hrds : mWrites c = false → (mDone L c).1 = L := mDone_reads
  have herr : (mDone L c).2.1 ≠ 0 → (mDone L c).1 = L := mDone_err
  have hback := fun h1 h0 => mDone_back (l := L) (c := c) h4 h5 h1 h0
  have hml := mDone_len L c
  obtain ⟨m, hm⟩ : ∃ m, (mDone L c).1 = m := ⟨_, rfl⟩
  obtain ⟨R, hR⟩ : ∃ R, (mDone L c).2 = R := ⟨_, rfl⟩
  rw [hm] at hmok hoth hrds herr hback hml hx
  rw [hR] at hr1 hr2 herr hback
  rw [hR]
  clear hrd hy hr3 hm hR
  obtain ⟨xa, xc, rfl⟩ := hx.form
  obtain ⟨e4, k4, b4, i4, rl, rr, t4⟩ := R
  simp only at hr1 hr2 herr hback
  subst hr1 hr2
  simp only [resCells, refCells, r0, List.cons_append, List.nil_append]
  have fy : Fr Non wd (wd.alloc (.cells #[.int .i64 e4, .int .u64 k4, .slice p1 p2 p3, .slice p4 p5 p6, .int .i64 0, .int .i64 0, .int .u64 0, .int .i64 0, .int .u64 0, .int .i64 0, .int .i64 0, .int .u64 0, .int .i64 0, .int .u64 0, .bool t4] 52)) := (Fr.refl _ _).alloc _
  have bY := alloc_at wd (.cells #[.int .i64 e4, .int .u64 k4, .slice p1 p2 p3, .slice p4 p5 p6, .int .i64 0, .int .i64 0, .int .u64 0, .int .i64 0, .int .u64 0, .int .i64 0, .int .i64 0, .int .u64 0, .int .i64 0, .int .u64 0, .bool t4] 52)
  have bC2 := (fd.trans fy).heap bC1 id
  have H2 := Lib.hid (H1.out.stay (fd.trans fy))
  have HX := Lib.hid (hx.sl.stay fy)
  have fwy := f01.trans (fd.trans fy)
  have HOK := Lib.hid hmok
  have HOTH := Lib.hid hoth
  have HRDS := Lib.hid hrds
  have HERR := Lib.hid herr
  have HBACK := Lib.hid hback
  clear hx qC zC bC1 hmok hoth hrds herr hback
  obtain ⟨B1, hB1⟩ : ∃ B, (mKey k L).getD [] = B := ⟨_, rfl⟩
  obtain ⟨t1, ht1⟩ : ∃ t, (mKey k L).isSome = t := ⟨_, rfl⟩
  obtain ⟨B2, hB2⟩ : ∃ B, (mKey k m).getD [] = B := ⟨_, rfl⟩
  obtain ⟨t2, ht2⟩ : ∃ t, (mKey k m).isSome = t := ⟨_, rfl⟩
  have HKEQ := Lib.hid (show k ≠ c.2.1 → t1 = t2 ∧ B1 = B2 from fun h => by rw [← ht1, ← ht2, ← hB1, ← hB2, HOTH.out h]; exact ⟨rfl, rfl⟩)
  have hk1 := fun (w : World) (h : Sl kItem All w (.slice x1 L.length y1) L) => rkey_any h k
  have hk2 := fun (w : World) (h : Sl kItem All w (.slice xa m.length xc) m) => rkey_any h k
  rw [hB1, ht1] at hk1
  rw [hB2, ht2] at hk2
  have HK1 := Lib.hid hk1
  have HK2 := Lib.hid hk2
  have hck2 := fun (w : World) (h : Sl kItem All w (.slice xa m.length xc) m) => rcheck_any h
  rw [show mCheck m = 0 from if_pos HOK.out] at hck2
  have HCK := Lib.hid hck2
  obtain ⟨wr, hwr⟩ : ∃ b, mWrites c = b := ⟨_, rfl⟩
  have hww := fun w => rwrites_any w c (.slice ca c.2.2.2.length cc) ⟨_, _, _, rfl⟩
  rw [hwr] at hww
  have HWW := Lib.hid hww
  have HWR := Lib.hid hwr
  obtain ⟨sm, hsm⟩ : ∃ b, decide (L = m) = b := ⟨_, rfl⟩
  have hss := fun (w : World) (h : Sl kItem All w (.slice x1 L.length y1) L) (h2 : Sl kItem All w (.slice xa m.length xc) m) => rsame_any h h2
  rw [hsm] at hss
  have HSS := Lib.hid hss
  have HSM1 := Lib.hid (show wr = false → sm = true from fun h => by rw [← hsm]; exact decide_eq_true (HRDS.out (by rw [hwr, h])).symm)
  have HSM2 := Lib.hid (show e4 ≠ 0 → sm = true from fun h => by rw [← hsm]; exact decide_eq_true (HERR.out h).symm)
  clear hk1 hk2 hck2 hww hss hB1 ht1 hB2 ht2 hwr hsm
  obtain ⟨P, hP⟩ : ∃ P, wd.heap.size = P := ⟨_, rfl⟩
  have HPP := Lib.hid hP
  rw [hP] at bY
  go_wp2_with fail
  generalize (wd.alloc (.cells #[.int .i64 e4, .int .u64 k4, .slice p1 p2 p3, .slice p4 p5 p6, .int .i64 0, .int .i64 0, .int .u64 0, .int .i64 0, .int .u64 0, .int .i64 0, .int .i64 0, .int .u64 0, .int .i64 0, .int .u64 0, .bool t4] 52)) = w3 at fy bY bC2 H2 HX fwy ⊢
  refine (HK1.out _ H2.out).mono ?_
  rintro e w4 ⟨u1, v1, rfl, g1, f4⟩
  go_wp2_with fail
  refine (HK2.out _ (HX.out.stay f4)).mono ?_
  rintro e w5 ⟨u2, v2, rfl, g2, f5⟩
  have f45 := f4.trans f5
  have bY5 := f45.heap bY id
  have bC5 := f45.heap bC2 id
  have H5 := Lib.hid (H2.out.stay f45)
  have HX5 := Lib.hid (HX.out.stay f45)
  have HG1 := Lib.hid (g1.stay f5)
  have HG2 := Lib.hid g2
  have fw5 := fwy.trans f45
  clear bY bC2 g1 g2 f45 fy
  rw [hP] at *
  clear hP
  go_upto_region 9 with (fail)
  go_cut [92] (fun c wx => c = .bool false ∧ Hid (Fr Non w5 wx))
  case first =>
    go_wp2_with fail
    refine (HCK.out _ HX5.out).mono ?_
    rintro e w6 ⟨rfl, f6⟩
    have bY6 := f6.heap bY5 id
    have bC6 := f6.heap bC5 id
    obtain ⟨qY, zY⟩ := box_facts bY6
    obtain ⟨qC, zC⟩ := box_facts bC6
    have h1 : (k = c.2.1) ∨ (k ≠ c.2.1 ∧ t1 = t2 ∧ B1 = B2) := by
      by_cases h : k = c.2.1
      · exact .inl h
      · exact .inr ⟨h, HKEQ.out h⟩
    rcases h1 with h1 | ⟨h1, rfl, rfl⟩
    · have n1 : (k != c.2.1) = false := by simpa using h1
      clear h1
      go_wp2_with fail
      refine (HWW.out _).mono ?_
      rintro e w7 ⟨rfl, f7⟩
      have f67 := f6.trans f7
      obtain ⟨qY, zY⟩ := f7.box bY6 id
      cases wr with
      | true =>
        by_cases he : e4 = 0
        · have n2 : (e4 != 0) = false := by simpa using he
          clear he
          go_wp2_with fail
          go_meet
          exact ⟨rfl, f67⟩
        · have hs := HSM2.out he
          subst hs
          have n2 : (e4 != 0) = true := by simpa using he
          clear he
          go_wp2_with fail
          refine (HSS.out _ (H5.out.stay f67) (HX5.out.stay f67)).mono ?_
          rintro e w8 ⟨rfl, f8⟩
          go_wp2_with fail
          go_meet
          exact ⟨rfl, f67.trans f8⟩
      | false =>
        have hs := HSM1.out rfl
        subst hs
        have bY7 := f7.heap bY6 id
        go_wp2_with fail
        refine (HSS.out _ (H5.out.stay f67) (HX5.out.stay f67)).mono ?_
        rintro e w8 ⟨rfl, f8⟩
        have f68 := f67.trans f8
        obtain ⟨qY, zY⟩ := f8.box bY7 id
        by_cases he : e4 = 0
        · have n2 : (e4 != 0) = false := by simpa using he
          clear he
          go_wp2_with fail
          go_meet
          exact ⟨rfl, f68⟩
        · have n2 : (e4 != 0) = true := by simpa using he
          clear he
          go_wp2_with fail
          refine (HSS.out _ (H5.out.stay f68) (HX5.out.stay f68)).mono ?_
          rintro e w9 ⟨rfl, f9⟩
          go_wp2_with fail
          go_meet
          exact ⟨rfl, f68.trans f9⟩
    · have n1 : (k != c.2.1) = true := by simpa using h1
      have cv1 := conv_src (sl_src (HG1.out.stay f6))
      have cv2 := conv_src (sl_src (HG2.out.stay f6))
      clear h1
      go_wp2_with fail
      refine (HWW.out _).mono ?_
      rintro e w7 ⟨rfl, f7⟩
      have f67 := f6.trans f7
      obtain ⟨qY, zY⟩ := f7.box bY6 id
      cases wr with
      | true =>
        by_cases he : e4 = 0
        · have n2 : (e4 != 0) = false := by simpa using he
          clear he
          go_wp2_with fail
          go_meet
          exact ⟨rfl, f67⟩
        · have hs := HSM2.out he
          subst hs
          have n2 : (e4 != 0) = true := by simpa using he
          clear he
          go_wp2_with fail
          refine (HSS.out _ (H5.out.stay f67) (HX5.out.stay f67)).mono ?_
          rintro e w8 ⟨rfl, f8⟩
          go_wp2_with fail
          go_meet
          exact ⟨rfl, f67.trans f8⟩
      | false =>
        have hs := HSM1.out rfl
        subst hs
        have bY7 := f7.heap bY6 id
        go_wp2_with fail
        refine (HSS.out _ (H5.out.stay f67) (HX5.out.stay f67)).mono ?_
        rintro e w8 ⟨rfl, f8⟩
        have f68 := f67.trans f8
        obtain ⟨qY, zY⟩ := f8.box bY7 id
        by_cases he : e4 = 0
        · have n2 : (e4 != 0) = false := by simpa using he
          clear he
          go_wp2_with fail
          go_meet
          exact ⟨rfl, f68⟩
        · have n2 : (e4 != 0) = true := by simpa using he
          clear he
          go_wp2_with fail
          refine (HSS.out _ (H5.out.stay f68) (HX5.out.stay f68)).mono ?_
          rintro e w9 ⟨rfl, f9⟩
          go_wp2_with fail
          go_meet
          exact ⟨rfl, f68.trans f9⟩
  case rest =>
    obtain ⟨rfl, HF⟩ := hcut
    have bY6 := HF.out.heap bY5 id
    have bC6 := HF.out.heap bC5 id
    obtain ⟨qY, zY⟩ := box_facts bY6
    obtain ⟨qC, zC⟩ := box_facts bC6
    have fwc := fw5.trans HF.out
    by_cases hk1 : c.1 = 1
    rotate_left
    · have n1 : (c.1 != 1) = true := by simpa using hk1
      clear hk1
      go_wp2_with fail
      go_ret
      exact ⟨by trivial, fwc⟩
    have n1 : (c.1 != 1) = false := by simpa using hk1
    by_cases he : e4 = 0
    rotate_left
    · have n2 : (e4 != 0) = true := by simpa using he
      clear he hk1
      go_wp2_with fail
      go_ret
      exact ⟨by trivial, fwc⟩
    obtain ⟨hb1, hb2⟩ := HBACK.out hk1 he
    have n2 : (e4 != 0) = false := by simpa using he
    clear he hk1
    obtain ⟨hr1, hr2, hr3⟩ := mDone_refs m (2, c.2.1, 0, [])
    have hdo2 := fun (w : World) (h : Sl kItem All w (.slice xa m.length xc) m) => do_any h (by omega) (2, c.2.1, 0, []) (ca := none) (cc := 0) (.inl ⟨rfl, rfl⟩) hck
    rw [mDo_ok HOK.out (c := (2, c.2.1, 0, [])) (by simp [mCallOk]), hb1] at hdo2
    obtain ⟨R2, hR2⟩ : ∃ R, (mDone m (2, c.2.1, 0, [])).2 = R := ⟨_, rfl⟩
    rw [hR2] at hdo2 hr1 hr2 hr3 hb2
    obtain ⟨e5, k5, b5, i5, rl, rr, t5⟩ := R2
    simp only at hr1 hr2 hr3 hb2
    subst hr1 hr2 hb2
    have HDO2 := Lib.hid hdo2
    clear hdo2 hb1 hR2
    have fF := HF.out
    go_wp2_with fail
    refine (HDO2.out _ (HX5.out.stay fF)).mono ?_
    rintro e w6 ⟨x9, y9, rfl, hx9, hy9, f9⟩
    obtain ⟨u8', v8', rfl, _, ⟨p7, p8, p9, rfl⟩, ⟨p10, p11, p12, rfl⟩⟩ := res_rd hy9 hr3 rfl rfl
    obtain ⟨xa9, xc9, rfl⟩ := hx9.form
    simp only [resCells, refCells, r0, List.cons_append, List.nil_append]
    have fy9 : Fr Non w6 (w6.alloc (.cells #[.int .i64 0, .int .u64 k5, .slice p7 p8 p9, .slice p10 p11 p12, .int .i64 0, .int .i64 0, .int .u64 0, .int .i64 0, .int .u64 0, .int .i64 0, .int .i64 0, .int .u64 0, .int .i64 0, .int .u64 0, .bool t5] 52)) := (Fr.refl _ _).alloc _
    have f99 := f9.trans fy9
    have hs9 := rsame_any (hx9.sl.stay fy9) (H5.out.stay (fF.trans f99))
    rw [show decide (L = L) = true from decide_eq_true rfl] at hs9
    have HS9 := Lib.hid hs9
    clear hs9 hx9 hy9 hr3
    go_wp2_with fail
    refine HS9.out.mono ?_
    rintro e w7 ⟨rfl, f7⟩
    go_wp2_with fail
    go_ret
    exact ⟨by trivial, (fwc.trans f99).trans f7⟩

theorem one_law {w : World} {vl : Value} {l : List MItem} (hl : Sl kItem All w vl l) (c : MCall) {ca : Option Addr} {cc : Nat} (hc : Sl kByte All w (.slice ca c.2.2.2.length cc) c.2.2.2) (hck : 0 ≤ c.2.1 ∧ c.2.1 ≤ 18446744073709551615) (k : Int) :
    Calls Try.prog 5 #[vl, .agg #[.int .i64 c.1, .int .u64 c.2.1, .int .u64 c.2.2.1, .slice ca c.2.2.2.length cc], .int .u64 k] w fun e w' => e = .returned (.bool true) ∧ Fr Non w w' := by
  by_cases h4 : mOk none (l.take 200) = true
  rotate_left
  · exact one_bad hl c hc hck k h4
  by_cases h5 : mCallOk c = true
  · exact one_yes hl c hc hck k h4 h5
  · exact one_call hl c hc hck k h4 h5
end Go.Proofs.Ytplhcfaonhkegaa
