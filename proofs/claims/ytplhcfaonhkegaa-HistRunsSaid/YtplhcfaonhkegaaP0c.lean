/-
  Hist: arguments, opened.
-/
import Derived.Test.YtplhcfaonhkegaaP0a
import Derived.Test.YtplhcfaonhkegaaH22
namespace Go.Proofs.Ytplhcfaonhkegaa
open Go.ChangeShapes Go.WideShapes Go.ChangeAt Go.RowKit

section
variable {w : World}
theorem from67 : From Try.prog w kOp 67 := From.struct Try.underlying67 (by kernel_rfl) (FromFs.cons from3 rfl rfl (FromFs.cons from3 rfl rfl (FromFs.cons from39 rfl rfl (FromFs.cons from52 rfl rfl (FromFs.one from4 rfl)))))
theorem from79 : From Try.prog w (kRow kOp 224) 79 := From.slice Try.underlying79 (by kernel_rfl) from67 (by kernel_rfl)
end
set_option maxRecDepth 100000 in
/-- What is noted, as an argument. -/
theorem op_arg {W : World} {base : Nat} {v : Value} {H : Type} {enc : TypeId × Value → H} {d : DataW H} {p : List MemPlace}
    (hv : Value.okWide Try.prog W .any base 67 v) (h : DataW.Trod enc Try.prog W 0 (fun _ => true) true 67 v d p) (hw : Fit Try.prog 67 d) :
    ∃ (x : MOp) (cs : List Value), v = .agg cs.toArray ∧ kOp.rd All W cs x := by
  obtain ⟨cs, rfl, hcs⟩ := agg_cells Try.underlying67 hv
  obtain ⟨x, hx⟩ := (from67 (w := W)).arg h hw
  rw [hcs] at hx
  exact ⟨x, cs.toList, by simp, kOp.all hx⟩
end Go.Proofs.Ytplhcfaonhkegaa
