/-
  Model: arguments, opened.
-/
import Derived.Test.YtplhcfaonhkegaaP0
import Derived.Test.YtplhcfaonhkegaaM6
namespace Go.Proofs.Ytplhcfaonhkegaa
open Go.ChangeShapes Go.WideShapes Go.ChangeAt Go.RowKit

set_option maxRecDepth 100000 in
/-- A slice argument. -/
theorem slice_arg {α : Type} {k : Kd α} {B : Nat} {W : World} {base : Nat} {t e : TypeId} {v : Value} {H : Type} {enc : TypeId × Value → H} {d : DataW H} {p : List MemPlace} (ht : Try.prog.underlying t = some (.slice e))
    (hv : Value.okWide Try.prog W .any base t v) (hf : From Try.prog W (kRow k B) t) (h : DataW.Trod enc Try.prog W 0 (fun _ => true) true t v d p) (hw : Fit Try.prog t d) : ∃ x, Sl k All W v x ∧ x.length * B ≤ reachBytes := by
  obtain ⟨x, u, hu, hs⟩ := hf.arg h hw
  obtain ⟨a, l, c, rfl⟩ := okWide_slice ht hv
  have e : u = .slice a l c := by
    have := hu
    simp [Value.cells] at this
    exact this.symm
  subst e
  exact ⟨x, hs.1.all, hs.2⟩
set_option maxRecDepth 100000 in
/-- A call as an argument. -/
theorem call_arg {W : World} {base : Nat} {v : Value} {H : Type} {enc : TypeId × Value → H} {d : DataW H} {p : List MemPlace}
    (hv : Value.okWide Try.prog W .any base 39 v) (h : DataW.Trod enc Try.prog W 0 (fun _ => true) true 39 v d p) (hw : Fit Try.prog 39 d) :
    ∃ (c : MCall) (a : Option Addr) (n : Nat), v = .agg #[.int .i64 c.1, .int .u64 c.2.1, .int .u64 c.2.2.1, .slice a c.2.2.2.length n] ∧ Sl kByte All W (.slice a c.2.2.2.length n) c.2.2.2 ∧ c.2.2.2.length ≤ reachBytes ∧
      (0 ≤ c.2.1 ∧ c.2.1 ≤ 18446744073709551615) ∧ (0 ≤ c.2.2.1 ∧ c.2.2.1 ≤ 18446744073709551615) ∧ (Lit.int .i64 c.1).wf = true := by
  obtain ⟨cs, rfl, hcs⟩ := agg_cells Try.underlying39 hv
  obtain ⟨x, hx⟩ := (from39 (w := W)).arg h hw
  rw [hcs] at hx
  obtain ⟨u, hc, hu, h1, h2, h3, h4⟩ := call_cells hx
  obtain ⟨va, vc, rfl, _⟩ := hu.frm
  refine ⟨x, va, vc, ?_, hu.all, h1, h2, h3, h4⟩
  congr 1
  apply Array.toList_inj.1
  exact hc

section
variable {w : World}
theorem from3 : From Try.prog w kI 3 := From.int Try.underlying3 (by kernel_rfl)
theorem from44 : From Try.prog w kI 44 := From.int Try.underlying44 (by kernel_rfl)
theorem from46 : From Try.prog w (kPair kI kU) 46 := From.struct Try.underlying46 (by kernel_rfl) (FromFs.cons from44 rfl rfl (FromFs.one from36 rfl))
theorem from48 : From Try.prog w (kPair kI kU) 48 := From.struct Try.underlying48 (by kernel_rfl) (FromFs.cons from3 rfl rfl (FromFs.one from36 rfl))
theorem from50 : From Try.prog w kRef 50 := From.struct Try.underlying50 (by kernel_rfl) (FromFs.cons from3 rfl rfl (FromFs.cons from46 rfl rfl (FromFs.one from48 rfl)))
theorem from52 : From Try.prog w kRes 52 := From.struct Try.underlying52 (by kernel_rfl) (FromFs.cons from27 rfl rfl (FromFs.cons from36 rfl rfl (FromFs.cons from37 rfl rfl (FromFs.cons from22 rfl rfl (FromFs.cons from50 rfl rfl (FromFs.cons from50 rfl rfl (FromFs.one from4 rfl)))))))
end
set_option maxRecDepth 100000 in
/-- A result as an argument. -/
theorem res_arg {W : World} {base : Nat} {v : Value} {H : Type} {enc : TypeId × Value → H} {d : DataW H} {p : List MemPlace}
    (hv : Value.okWide Try.prog W .any base 52 v) (h : DataW.Trod enc Try.prog W 0 (fun _ => true) true 52 v d p) (hw : Fit Try.prog 52 d) :
    ∃ (r : MRes) (u vv : Value), v = .agg (resCells r u vv).toArray ∧ Sl kByte All W u r.2.2.1 ∧ Sl kItem All W vv r.2.2.2.1 := by
  obtain ⟨cs, rfl, hcs⟩ := agg_cells Try.underlying52 hv
  obtain ⟨x, hx⟩ := (from52 (w := W)).arg h hw
  rw [hcs] at hx
  obtain ⟨u, vv, hc, hu, _, hv2, _⟩ := res_cells hx
  refine ⟨x, u, vv, ?_, hu.all, hv2.all⟩
  congr 1
  apply Array.toList_inj.1
  exact hc
end Go.Proofs.Ytplhcfaonhkegaa
