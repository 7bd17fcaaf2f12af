/-
  NetNobody returns true for every input, and leaves its argument as it was.
-/
import Derived.Test.YtkmpmibjenodlaaQ0
import Derived.Test.YtkmpmibjenodlaaN16
import Derived.Carry
namespace Go.Proofs.Ytkmpmibjenodlaa
open Go.ChangeShapes Go.WideShapes Go.ChangeAt Go.RowKit

set_option maxRecDepth 100000 in
theorem nobody_lifted (os : Os) (started : os.Started) (H : Type) (enc : TypeId × Value → H) :
    ReturnsInHanded {} Try.checked os 7 .any (Rows.netNobodySpec.pre6 enc Try.prog Try.f7 Rows.netNobodyRow.domain false) (Rows.netNobodySpec.post enc Try.prog Try.f7 false true false false) := by
  refine returnsInHanded_of_change (C := Try.checked) Try.own started (by kernel_rfl) Try.func7
    (ChangeSpec.witness6 (enc := enc) (C := Try.checked) false ⟨#[], #[.agg #[.int .i64 0, .bool false, .int .i64 0, .bool false, .int .i64 0, .slice none 0 0, .int .i64 0, .int .i64 0]], []⟩ 8 (by kernel_rfl) (by kernel_rfl) (by kernel_rfl) (by kernel_rfl)) ?_
  intro W base args ds gs before hval0 hW hcnd _
  have hval : ∀ (j : Nat) t v, Try.f7.params[j]? = some t → args[j]? = some v → Value.okWide Try.prog W .any base t v := hval0
  have hW' := hW
  obtain ⟨p, q, hA0, hV, rfl, hfz, hnd⟩ := hW
  have hA : DataW.TrodAll enc Try.prog W 0 (fun _ => true) true Try.f7.params.toList args.toList ds p := hA0
  rw [Try.params7] at hA hval
  obtain ⟨v0, d0, rfl, rfl, h0⟩ := trodAll_one hA
  obtain ⟨rfl, rfl⟩ := trodVars_none hV
  have hlt := hW'.lt
  obtain ⟨cs, rfl, hcs⟩ := agg_cells Try.underlying32 (hval 0 32 v0 rfl rfl)
  obtain ⟨x, hx⟩ := (from32 (w := W)).arg h0
  rw [hcs] at hx
  obtain ⟨u, hc, hu⟩ := op_cells hx
  obtain ⟨va, vc, rfl⟩ := hu.form
  obtain rfl : cs = #[.int .i64 x.1, .bool x.2.1.1.1, .int .i64 x.2.1.1.2, .bool x.2.1.2.1.1, .int .i64 x.2.1.2.1.2, .slice va x.2.1.2.2.length vc, .int .i64 x.2.2.1, .int .i64 x.2.2.2] := by
    apply Array.toList_inj.1; exact hc
  refine (nobody_any _ _ _ _ _ _ _ _ _ _ W).mono fun e W' ⟨he, hf⟩ => ?_
  subst he
  have hb : Below W.heap.size W W' := hf.below (Nat.le_refl _) (fun _ h => h.elim)
  exact ⟨_, rfl, _, _, _, [], _, [], hW', trodAll_mk1 (shut_bool Try.underlying4 true), trodAll_mk1 (Below.trod Try.laidOut (by kernel_rfl) (of_decide_eq_true (by kernel_rfl)) h0 hb (fun x hx => hlt x (by simpa using hx))), rfl, hb.frame _, fun h => by cases h⟩

theorem netNobody_holds : Rows.NetNobodySaid :=
  OpenClaim.holds_of_wide 7 Try.f7 rfl rfl rfl rfl rfl rfl rfl ⟨rfl, rfl, rfl, rfl, rfl⟩ rfl rfl rfl rfl rfl (by kernel_rfl) Try.func7 (by kernel_rfl)
    (of_decide_eq_true (by kernel_rfl)) (by unfold Func.isWrapper; rw [if_neg (of_decide_eq_false (by kernel_rfl))]; exact ⟨rfl, rfl⟩)
    (fun os started H enc _ => nobody_lifted os started H enc)
end Go.Proofs.Ytkmpmibjenodlaa
