/-
  The five listed variables; rows of bytes as arguments.
-/
import Derived.Test.YthjfnpojelfekaaDoorKP0
import Derived.Test.YthjfnpojelfekaaDoorK22
import Derived.Stop.LaidErr
import Derived.Lib.LaidTab
import Derived.ChangeMaps5
namespace Go.Proofs.YthjfnpojelfekaaDoor
open Go.ChangeShapes Go.WideShapes Go.ChangeAt Go.RowKit

/-- The three tables and the library's two errors. -/
def laid5 : List (String × DataW Unit) := Rows.keyTextsRow.laid
set_option maxRecDepth 100000 in
theorem laid5_met (os : Os) (args : Array Value) : laidMetH Tryd.prog laid5 ((World.laidAll Tryd.prog os laid5).forCall (fun _ _ => 0) ⟨#[], args, []⟩).memory := by
  rw [MakeChecks.laidMetH_plain _ _ _ (by kernel_rfl)]
  exact laidMet_laidAll _ (by kernel_rfl) (by kernel_rfl)
theorem star_name : "*" ++ "errors.errorString" = "*errors.errorString" := by decide
theorem row110 (u : TypeId) (h : Tryd.prog.typeName? 3 u = some "*errors.errorString") : u = 110 :=
  typeName_ptr_named (nm := "errors.errorString") (by rw [star_name]; kernel_rfl) (by kernel_rfl) (by decide) u (by rw [star_name]; exact h)
set_option maxRecDepth 100000 in
theorem tab_of {W : World} (h : laidMetH Tryd.prog laid5 W) : pow10 W := by
  rw [MakeChecks.laidMetH_plain _ _ _ (by kernel_rfl)] at h
  have h2 := laidMet.tail (laidMet.tail (show laidMet Tryd.prog (("math/bits.deBruijn32tab", Rows.laid_math_bits_deBruijn32tab) :: ("math/bits.deBruijn64tab", Rows.laid_math_bits_deBruijn64tab) :: ("internal/strconv.uint64pow10", Rows.laid_internal_strconv_uint64pow10) :: ("strconv.ErrRange", Rows.laid_strconv_ErrRange) :: [("strconv.ErrSyntax", Rows.laid_strconv_ErrSyntax)]) W from h))
  rw [show (Rows.laid_internal_strconv_uint64pow10 : DataW Unit) = Lib.tabData .u64 Lib.pow10Tab by kernel_rfl] at h2
  exact Lib.tabIs_of_head (g := 0) (t := 100) (e := 23) (n := 20) (by kernel_rfl) (by kernel_rfl) Tryd.underlying100 Tryd.underlying23 (by kernel_rfl) (by kernel_rfl) h2
set_option maxRecDepth 100000 in
theorem errs_of {W : World} (h : laidMetH Tryd.prog laid5 W) : errs W := by
  rw [MakeChecks.laidMetH_plain _ _ _ (by kernel_rfl)] at h
  have h3 := laidMet.tail (laidMet.tail (laidMet.tail (show laidMet Tryd.prog (("math/bits.deBruijn32tab", Rows.laid_math_bits_deBruijn32tab) :: ("math/bits.deBruijn64tab", Rows.laid_math_bits_deBruijn64tab) :: ("internal/strconv.uint64pow10", Rows.laid_internal_strconv_uint64pow10) :: ("strconv.ErrRange", Rows.laid_strconv_ErrRange) :: [("strconv.ErrSyntax", Rows.laid_strconv_ErrSyntax)]) W from h)))
  obtain ⟨a0, s0, hv0, _⟩ := laid_sentinel (g := 2) (ti := 61) (tp := 110) (te := 112) (ts := 9) h3 (by kernel_rfl) (by kernel_rfl) Tryd.underlying61 row110 Tryd.underlying110 Tryd.underlying112 rfl rfl Tryd.underlying9 (by kernel_rfl) (by kernel_rfl)
  obtain ⟨a1, s1, hv1, _⟩ := laid_sentinel (g := 1) (ti := 61) (tp := 110) (te := 112) (ts := 9) h3.tail (by kernel_rfl) (by kernel_rfl) Tryd.underlying61 row110 Tryd.underlying110 Tryd.underlying112 rfl rfl Tryd.underlying9 (by kernel_rfl) (by kernel_rfl)
  exact ⟨_, _, _, _, hv1, hv0⟩
theorem from5 {w : World} : From Tryd.prog w kByte 5 := From.byte Tryd.underlying5 (by kernel_rfl)
theorem from41 {w : World} : From Tryd.prog w (kRow kByte 1) 41 := From.slice Tryd.underlying41 (by kernel_rfl) from5 (by kernel_rfl)
end Go.Proofs.YthjfnpojelfekaaDoor
