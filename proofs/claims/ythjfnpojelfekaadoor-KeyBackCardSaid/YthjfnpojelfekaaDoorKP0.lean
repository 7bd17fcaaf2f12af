/-
  Keys as arguments; the world in which the listed variables are laid.
-/
import Derived.Test.YthjfnpojelfekaaDoorRows
import Derived.Test.YthjfnpojelfekaaDoorTie
import Derived.Test.YthjfnpojelfekaaDoorR
import Derived.Test.YthjfnpojelfekaaDoorK5
import Derived.ProofKit
import Derived.OpenShut
import Derived.LaidMore
import Derived.Lay
import Derived.SevenTiedAt
import Derived.Stop.Joined
namespace Go.Proofs.YthjfnpojelfekaaDoor
open Go.ChangeShapes Go.WideShapes Go.ChangeAt Go.RowKit

theorem Tryd.own : ownKnob Tryd.prog.godebug = none := by kernel_rfl
theorem Tryd.laidOut : laidOutB Tryd.prog = true := by kernel_rfl
/-- The three tables. -/
def laid3 : List (String × DataW Unit) := Rows.keyOrdersRow.laid
theorem laid3_met (os : Os) (args : Array Value) : laidMetH Tryd.prog laid3 ((World.laidAll Tryd.prog os laid3).forCall (fun _ _ => 0) ⟨#[], args, []⟩).memory := by
  rw [MakeChecks.laidMetH_plain _ _ _ (by kernel_rfl)]
  exact laidMet_laidAll _ (by kernel_rfl) (by kernel_rfl)
section
variable {w : World}
theorem from22 : From Tryd.prog w (kInt .i64) 22 := From.int Tryd.underlying22 (by kernel_rfl)
theorem from23 : From Tryd.prog w (kInt .u64) 23 := From.int Tryd.underlying23 (by kernel_rfl)
theorem from25 : From Tryd.prog w kKey 25 := From.struct Tryd.underlying25 (by kernel_rfl) (FromFs.cons from22 rfl rfl (FromFs.one from23 rfl))
theorem from32 : From Tryd.prog w (kRow kKey 16) 32 := From.slice Tryd.underlying32 (by kernel_rfl) from25 (by kernel_rfl)
end
set_option maxRecDepth 100000 in
/-- A key, as an argument. -/
theorem key_arg {W : World} {base : Nat} {v : Value} {H : Type} {enc : TypeId × Value → H} {d : DataW H} {p : List MemPlace}
    (hv : Value.okWide Tryd.prog W .any base 25 v) (h : DataW.Trod enc Tryd.prog W 0 (fun _ => true) true 25 v d p) (hw : Fit Tryd.prog 25 d) : ∃ k : MK, v = kV k ∧ kWf k := by
  obtain ⟨cs, rfl, hcs⟩ := agg_cells Tryd.underlying25 hv
  obtain ⟨x, hx⟩ := (from25 (w := W)).arg h hw
  rw [hcs] at hx
  obtain ⟨e, h1, h2⟩ := key_cells hx
  refine ⟨x, ?_, ?_⟩
  · unfold kV
    rw [← e]
  · have m1 : IntKind.min .i64 = -9223372036854775808 := by decide
    have m2 : IntKind.max .i64 = 9223372036854775807 := by decide
    have m3 : IntKind.min .u64 = 0 := by decide
    have m4 : IntKind.max .u64 = 18446744073709551615 := by decide
    simp only [Lit.wf, Bool.and_eq_true, decide_eq_true_eq, m1, m2] at h1
    simp only [Lit.wf, Bool.and_eq_true, decide_eq_true_eq, m3, m4] at h2
    exact ⟨h1, h2⟩
set_option maxRecDepth 100000 in
/-- A slice argument. -/
theorem slice_arg {α : Type} {k : Kd α} {B : Nat} {W : World} {base : Nat} {t e : TypeId} {v : Value} {H : Type} {enc : TypeId × Value → H} {d : DataW H} {p : List MemPlace} (ht : Tryd.prog.underlying t = some (.slice e))
    (hv : Value.okWide Tryd.prog W .any base t v) (hf : From Tryd.prog W (kRow k B) t) (h : DataW.Trod enc Tryd.prog W 0 (fun _ => true) true t v d p) (hw : Fit Tryd.prog t d) : ∃ x, Sl k All W v x ∧ x.length * B ≤ reachBytes := by
  obtain ⟨x, u, hu, hs⟩ := hf.arg h hw
  obtain ⟨a, l, c, rfl⟩ := okWide_slice ht hv
  have e : u = .slice a l c := by
    have := hu
    simp [Value.cells] at this
    exact this.symm
  subst e
  exact ⟨x, hs.1.all, hs.2⟩
end Go.Proofs.YthjfnpojelfekaaDoor
