/-
  ModelForms returns true for every input, and leaves its arguments as they were.
-/
import Derived.Test.YtplhcfaonhkegaaP0
import Derived.Test.YtplhcfaonhkegaaM19
import Derived.Carry
namespace Go.Proofs.Ytplhcfaonhkegaa
open Go.ChangeShapes Go.WideShapes Go.ChangeAt Go.RowKit

set_option maxRecDepth 100000 in
/-- A slice argument. -/
theorem slice_arg {α : Type} {k : Kd α} {B : Nat} {W : World} {base : Nat} {t e : TypeId} {v : Value} {H : Type} {enc : TypeId × Value → H} {d : DataW H} {p : List MemPlace} (ht : Try.prog.underlying t = some (.slice e))
    (hv : Value.okWide Try.prog W .any base t v) (hf : From Try.prog W (kRow k B) t) (h : DataW.Trod enc Try.prog W 0 (fun _ => true) true t v d p) (hw : Fit Try.prog t d) : ∃ x, Sl k All W v x ∧ x.length * B ≤ reachBytes := by
  obtain ⟨x, u, hu, hs⟩ := hf.arg h hw
  obtain ⟨a, l, c, rfl⟩ := okWide_slice ht hv
  have e : u = .slice a l c := by
    have := hu
    simp [Value.cells] at this
    exact this.symm
  subst e
  exact ⟨x, hs.1.all, hs.2⟩
set_option maxRecDepth 100000 in
/-- A call as an argument. -/
theorem call_arg {W : World} {base : Nat} {v : Value} {H : Type} {enc : TypeId × Value → H} {d : DataW H} {p : List MemPlace}
    (hv : Value.okWide Try.prog W .any base 39 v) (h : DataW.Trod enc Try.prog W 0 (fun _ => true) true 39 v d p) (hw : Fit Try.prog 39 d) :
    ∃ (c : MCall) (a : Option Addr) (n : Nat), v = .agg #[.int .i64 c.1, .int .u64 c.2.1, .int .u64 c.2.2.1, .slice a c.2.2.2.length n] ∧ Sl kByte All W (.slice a c.2.2.2.length n) c.2.2.2 ∧ c.2.2.2.length ≤ reachBytes ∧
      (0 ≤ c.2.1 ∧ c.2.1 ≤ 18446744073709551615) ∧ (0 ≤ c.2.2.1 ∧ c.2.2.1 ≤ 18446744073709551615) := by
  obtain ⟨cs, rfl, hcs⟩ := agg_cells Try.underlying39 hv
  obtain ⟨x, hx⟩ := (from39 (w := W)).arg h hw
  rw [hcs] at hx
  obtain ⟨u, hc, hu, h1, h2, h3, _⟩ := call_cells hx
  obtain ⟨va, vc, rfl, _⟩ := hu.frm
  refine ⟨x, va, vc, ?_, hu.all, h1, h2, h3⟩
  congr 1
  apply Array.toList_inj.1
  exact hc

set_option maxRecDepth 100000 in
theorem forms_lifted (os : Os) (started : os.Started) (H : Type) (enc : TypeId × Value → H) :
    ReturnsInHanded {} Try.checked os 7 .any (Rows.modelFormsSpec.pre6 enc Try.prog Try.f7 Rows.modelFormsRow.domain false) (Rows.modelFormsSpec.post enc Try.prog Try.f7 false true false false) := by
  refine returnsInHanded_of_change_sized (C := Try.checked) Try.own started (by kernel_rfl) Try.func7
    (ChangeSpec.witness6 (enc := enc) (C := Try.checked) false ⟨#[], #[.slice none 0 0, .slice none 0 0, .agg #[.int .i64 0, .int .u64 0, .int .u64 0, .slice none 0 0], .int .u64 0], []⟩ 8 (by kernel_rfl) (by kernel_rfl) (by kernel_rfl) (by kernel_rfl)) ?_
  intro W base args ds gs before hval0 hW hcnd hsz0 _
  have hval : ∀ (j : Nat) t v, Try.f7.params[j]? = some t → args[j]? = some v → Value.okWide Try.prog W .any base t v := hval0
  have hW' := hW
  obtain ⟨p, q, hA0, hV, rfl, hfz, hnd⟩ := hW
  have hA : DataW.TrodAll enc Try.prog W 0 (fun _ => true) true Try.f7.params.toList args.toList ds p := hA0
  rw [Try.params7] at hA hval
  obtain ⟨v0, v1, v2, v3, d0, d1, d2, d3, p0, p1, p2, p3, rfl, rfl, rfl, h0, h1, h2, h3⟩ := trodAll_four hA
  obtain ⟨rfl, rfl⟩ := trodVars_none hV
  have hlt := hW'.lt
  obtain ⟨l, hl, _⟩ := slice_arg Try.underlying22 (hval 0 22 v0 rfl rfl) from22 h0 (Fit.of hsz0 (i := 0) rfl rfl)
  obtain ⟨m, hm, _⟩ := slice_arg Try.underlying22 (hval 1 22 v1 rfl rfl) from22 h1 (Fit.of hsz0 (i := 1) rfl rfl)
  obtain ⟨c, ca, cc, rfl, hc, _⟩ := call_arg (hval 2 39 v2 rfl rfl) h2 (Fit.of hsz0 (i := 2) rfl rfl)
  have h3' := h3
  obtain ⟨k, rfl, rfl, rfl, wa⟩ := open_int Try.underlying36 (hval 3 36 v3 rfl rfl) h3
  clear hA0 hval0
  refine (forms_any hl hm c k).mono fun e W' ⟨he, hf⟩ => ?_
  subst he
  have hb : Below W.heap.size W W' := hf.below (Nat.le_refl _) (fun _ h => h.elim)
  have hlt2 : ∀ x ∈ p0 ++ p1 ++ p2, x.block < W.heap.size := fun x hx => hlt x (by simpa using hx)
  exact ⟨_, rfl, _, _, _, [], _, [], hW', trodAll_mk1 (shut_bool Try.underlying4 true), trodAll_mk4 (Below.trod Try.laidOut (by kernel_rfl) (of_decide_eq_true (by kernel_rfl)) h0 hb (fun x hx => hlt2 x (by simp [hx])))
    (Below.trod Try.laidOut (by kernel_rfl) (of_decide_eq_true (by kernel_rfl)) h1 hb (fun x hx => hlt2 x (by simp [hx])))
    (Below.trod Try.laidOut (by kernel_rfl) (of_decide_eq_true (by kernel_rfl)) h2 hb (fun x hx => hlt2 x (by simp [hx])))
    (Below.trod Try.laidOut (by kernel_rfl) (of_decide_eq_true (by kernel_rfl)) h3' hb (fun x hx => by cases hx)), rfl, hb.frame _, fun h => by cases h⟩

theorem modelForms_holds : Rows.ModelFormsSaid :=
  OpenClaim.holds_of_wide 7 Try.f7 rfl rfl rfl rfl rfl rfl rfl ⟨rfl, rfl, rfl, rfl, rfl⟩ rfl rfl rfl rfl rfl (by kernel_rfl) Try.func7 (by show joinedFacts Try.prog 7 Try.f7 Rows.modelFormsSpec Rows.modelFormsRow = true; unfold joinedFacts; rw [Try.mayEnterL, Try.liftsFinalL, Try.makeL]; kernel_rfl)
    (of_decide_eq_true (by kernel_rfl)) (by unfold Func.isWrapper; rw [if_neg (of_decide_eq_false (by kernel_rfl))]; exact ⟨rfl, rfl⟩)
    (fun os started H enc _ => forms_lifted os started H enc)
end Go.Proofs.Ytplhcfaonhkegaa
