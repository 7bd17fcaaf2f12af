/-
  ModelDoes returns true for every input, and leaves its arguments as they were.
-/
import Derived.Test.YtplhcfaonhkegaaP0a
import Derived.Test.YtplhcfaonhkegaaM29
import Derived.Carry
namespace Go.Proofs.Ytplhcfaonhkegaa
open Go.ChangeShapes Go.WideShapes Go.ChangeAt Go.RowKit

set_option maxRecDepth 100000 in
theorem modelDoes_lifted (os : Os) (started : os.Started) (H : Type) (enc : TypeId × Value → H) :
    ReturnsInHanded {} Try.checked os 8 .any (Rows.modelDoesSpec.pre6 enc Try.prog Try.f8 Rows.modelDoesRow.domain false) (Rows.modelDoesSpec.post enc Try.prog Try.f8 false true false false) := by
  refine returnsInHanded_of_change_sized (C := Try.checked) Try.own started (by kernel_rfl) Try.func8
    (ChangeSpec.witness6 (enc := enc) (C := Try.checked) false ⟨#[], #[.slice none 0 0, .agg #[.int .i64 0, .int .u64 0, .int .u64 0, .slice none 0 0], .agg #[.int .i64 0, .int .u64 0, .slice none 0 0, .slice none 0 0, .int .i64 0, .int .i64 0, .int .u64 0, .int .i64 0, .int .u64 0, .int .i64 0, .int .i64 0, .int .u64 0, .int .i64 0, .int .u64 0, .bool false]], []⟩ 8 (by kernel_rfl) (by kernel_rfl) (by kernel_rfl) (by kernel_rfl)) ?_
  intro W base args ds gs before hval0 hW hcnd hsz0 _
  have hval : ∀ (j : Nat) t v, Try.f8.params[j]? = some t → args[j]? = some v → Value.okWide Try.prog W .any base t v := hval0
  have hW' := hW
  obtain ⟨p, q, hA0, hV, rfl, hfz, hnd⟩ := hW
  have hA : DataW.TrodAll enc Try.prog W 0 (fun _ => true) true Try.f8.params.toList args.toList ds p := hA0
  rw [Try.params8] at hA hval
  obtain ⟨v0, v1, v2, d0, d1, d2, p0, p1, p2, rfl, rfl, rfl, h0, h1, h2⟩ := trodAll_three hA
  obtain ⟨rfl, rfl⟩ := trodVars_none hV
  have hlt := hW'.lt
  obtain ⟨x0, hx0, hB0⟩ := slice_arg Try.underlying22 (hval 0 22 v0 rfl rfl) from22 h0 (Fit.of hsz0 (i := 0) rfl rfl)
  obtain ⟨x1, a1, n1, rfl, hx1, hB1, hk1, hm1, hi1⟩ := call_arg (hval 1 39 v1 rfl rfl) h1 (Fit.of hsz0 (i := 1) rfl rfl)
  obtain ⟨x2, u2, w2, rfl, hx2, hy2⟩ := res_arg (hval 2 52 v2 rfl rfl) h2 (Fit.of hsz0 (i := 2) rfl rfl)
  clear hA0 hval0
  refine (does_law hx0 x1.1 x1.2.1 x1.2.2.1 hx1 hk1 x2 hx2 hy2).mono fun e W' ⟨he, hf⟩ => ?_
  subst he
  have hb : Below W.heap.size W W' := hf.below (Nat.le_refl _) (fun _ h => h.elim)
  exact ⟨_, rfl, _, _, _, [], _, [], hW', trodAll_mk1 (shut_bool Try.underlying4 true), trodAll_mk3 (Below.trod Try.laidOut (by kernel_rfl) (of_decide_eq_true (by kernel_rfl)) h0 hb (fun x hx => hlt x (by simp [hx])))
    (Below.trod Try.laidOut (by kernel_rfl) (of_decide_eq_true (by kernel_rfl)) h1 hb (fun x hx => hlt x (by simp [hx])))
    (Below.trod Try.laidOut (by kernel_rfl) (of_decide_eq_true (by kernel_rfl)) h2 hb (fun x hx => hlt x (by simp [hx]))), rfl, hb.frame _, fun h => by cases h⟩

theorem modelDoes_facts : joinedFacts Try.prog 8 Try.f8 Rows.modelDoesSpec Rows.modelDoesRow = true := by
  unfold joinedFacts
  rw [Try.mayEnterL, Try.liftsFinalL, Try.makeL]
  kernel_rfl
theorem modelDoes_holds : Rows.ModelDoesSaid :=
  OpenClaim.holds_of_wide 8 Try.f8 rfl rfl rfl rfl rfl rfl rfl ⟨rfl, rfl, rfl, rfl, rfl⟩ rfl rfl rfl rfl rfl (by kernel_rfl) Try.func8 modelDoes_facts
    (of_decide_eq_true (by kernel_rfl)) (by unfold Func.isWrapper; rw [if_neg (of_decide_eq_false (by kernel_rfl))]; exact ⟨rfl, rfl⟩)
    (fun os started H enc _ => modelDoes_lifted os started H enc)
end Go.Proofs.Ytplhcfaonhkegaa
