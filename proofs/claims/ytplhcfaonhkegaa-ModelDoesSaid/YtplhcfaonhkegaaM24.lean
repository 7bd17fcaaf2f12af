/-
  Model: ModelRuns.
-/
import Derived.Test.YtplhcfaonhkegaaM23
namespace Go.Proofs.Ytplhcfaonhkegaa
open Go.RowKit Go.Maps

theorem doneC_all (c : MCall) : DoneC c := fun S w a cap l ca cc h1 h2 h3 h4 h5 h6 => doneC_any h5 S w a cap l ca cc h1 h2 h3 h4 h5 h6

set_option maxRecDepth 100000 in
set_option maxHeartbeats 2000000 in
theorem runs_law {w : World} {vl vc : Value} {l : List MItem} {cs : List MCall} (hl : Sl kItem All w vl l) (hc : Sl kCall All w vc cs) :
    Calls Try.prog 3 #[vl, vc] w fun e w' => e = .returned (.bool true) ∧ Fr Non w w' := by
  obtain ⟨a1, n1, rfl, _⟩ := hl.frm
  obtain ⟨a2, n2, rfl, _⟩ := hc.frm
  have HL := Lib.hid hl
  have HC := Lib.hid hc
  clear hl hc
  go_enter Try.func3, Try.ntmps3
  go_wp2_with fail
  refine (few_any HL.out).mono ?_
  rintro e w1 ⟨x1, y1, rfl, h1, hw⟩
  obtain rfl := hw.symm
  have hl200 : (l.take 200).length ≤ 200 := by rw [List.length_take]; omega
  generalize l.take 200 = l at h1 hl200 ⊢
  have H1 := Lib.hid h1
  clear h1
  go_wp2_with fail
  refine (some_any HC.out).mono ?_
  rintro e w1 ⟨x2, y2, rfl, h2, hw⟩
  obtain rfl := hw.symm
  have hc40 : (cs.take 40).length ≤ 40 := by rw [List.length_take]; omega
  generalize cs.take 40 = cs at h2 hc40 ⊢
  have H2 := Lib.hid h2
  clear h2
  obtain ⟨D, hD⟩ : ∃ D, mRun l cs = D := ⟨_, rfl⟩
  have h1 := fun (w : World) (h : Sl kItem All w (.slice x1 l.length y1) l) (h2 : Sl kCall All w (.slice x2 cs.length y2) cs) => run_any h h2 hl200 hc40 (fun c _ => doneC_all c)
  have h2 := fun (w : World) (h : Sl kItem All w (.slice x1 l.length y1) l) (h2 : Sl kCall All w (.slice x2 cs.length y2) cs) => rrun_any h h2 hl200 hc40
  rw [hD] at h1 h2
  have HR1 := Lib.hid h1
  have HR2 := Lib.hid h2
  clear h1 h2 hD
  obtain ⟨m, out, ee⟩ := D
  go_wp2_with fail
  refine (HR1.out _ H1.out H2.out).mono ?_
  rintro e w3 ⟨x3, y3, rfl, hx3, hy3, f3⟩
  obtain ⟨a3, c3, rfl⟩ := hx3.form
  obtain ⟨a4, c4, rfl⟩ := hy3.form
  have HX3 := Lib.hid hx3.sl
  have HY3 := Lib.hid hy3.sl
  clear hx3 hy3
  go_wp2_with fail
  refine (HR2.out _ (H1.out.stay f3) (H2.out.stay f3)).mono ?_
  rintro e w4 ⟨x5, y5, rfl, hx5, hy5, f5⟩
  obtain ⟨a5, c5, rfl, _⟩ := hx5.frm
  obtain ⟨a6, c6, rfl⟩ := hy5.form
  have HX5 := Lib.hid hx5
  have HY5 := Lib.hid hy5.sl
  clear hx5 hy5
  have hs1 := fun (w : World) (h : Sl kItem All w (.slice a3 m.length c3) m) (h2 : Sl kItem All w (.slice a5 m.length c5) m) => rsame_any h h2
  have hs2 := fun (w : World) (h : Sl kRes All w (.slice a4 out.length c4) out) (h2 : Sl kRes All w (.slice a6 out.length c6) out) => sameAll_any h h2
  rw [show decide (m = m) = true from decide_eq_true rfl] at hs1
  rw [show decide (out = out) = true from decide_eq_true rfl] at hs2
  have HS1 := Lib.hid hs1
  have HS2 := Lib.hid hs2
  clear hs1 hs2
  go_wp2_with fail
  refine (HS1.out _ (HX3.out.stay f5) HX5.out).mono ?_
  rintro e w6 ⟨rfl, f6⟩
  have f56 := f5.trans f6
  go_wp2_with fail
  refine (HS2.out _ (HY3.out.stay f56) (HY5.out.stay f6)).mono ?_
  rintro e w7 ⟨rfl, f7⟩
  go_wp2_with fail
  refine (awake_any _).mono ?_
  rintro e w8 ⟨rfl, f8⟩
  go_wp2_with fail
  go_ret
  exact ⟨by trivial, f3.trans ((f56.trans f7).trans f8)⟩
end Go.Proofs.Ytplhcfaonhkegaa
