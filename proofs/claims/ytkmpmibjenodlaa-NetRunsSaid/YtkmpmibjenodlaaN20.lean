/-
  Net: the reference's Same.
-/
import Derived.Test.YtkmpmibjenodlaaN18
namespace Go.Proofs.Ytkmpmibjenodlaa
open Go.RowKit Go.Maps

instance : DecidableEq Parcel := fun a b =>
  decidable_of_iff (a.fa = b.fa ∧ a.fn = b.fn ∧ a.ta = b.ta ∧ a.tn = b.tn ∧ a.b = b.b) (by cases a; cases b; simp)

set_option maxRecDepth 100000 in
set_option maxHeartbeats 4000000 in
theorem same_any {w : World} (p q : Parcel) (u v : Value) (hu : Src w 1 u p.b.length (bcs p.b)) (hv : Src w 1 v q.b.length (bcs q.b)) :
    Calls Try.prog 13 #[.agg #[.bool p.fa, .int .i64 p.fn, .bool p.ta, .int .i64 p.tn, u], .agg #[.bool q.fa, .int .i64 q.fn, .bool q.ta, .int .i64 q.tn, v]] w fun e w' =>
      e = .returned (.bool (decide (p = q))) ∧ Fr Non w w' := by
  have f0 : Fr Non w ((w.alloc (.cells #[.bool p.fa, .int .i64 p.fn, .bool p.ta, .int .i64 p.tn, u] 30)).alloc (.cells #[.bool q.fa, .int .i64 q.fn, .bool q.ta, .int .i64 q.tn, v] 30)) := ((Fr.refl _ _).alloc _).alloc _
  have k1 := conv_src ((hu.alloc (.cells #[.bool p.fa, .int .i64 p.fn, .bool p.ta, .int .i64 p.tn, u] 30)).alloc (.cells #[.bool q.fa, .int .i64 q.fn, .bool q.ta, .int .i64 q.tn, v] 30))
  have k2 := conv_src ((hv.alloc (.cells #[.bool p.fa, .int .i64 p.fn, .bool p.ta, .int .i64 p.tn, u] 30)).alloc (.cells #[.bool q.fa, .int .i64 q.fn, .bool q.ta, .int .i64 q.tn, v] 30))
  obtain ⟨ua, uc, rfl⟩ := src_form hu
  obtain ⟨va, vc, rfl⟩ := src_form hv
  obtain ⟨pfa, pfn, pta, ptn, pb⟩ := p
  obtain ⟨qfa, qfn, qta, qtn, qb⟩ := q
  simp only at f0 k1 k2 ⊢
  by_cases e1 : pfa = qfa ∧ pfn = qfn
  · obtain ⟨rfl, rfl⟩ := e1
    by_cases e2 : pta = qta ∧ ptn = qtn
    · obtain ⟨rfl, rfl⟩ := e2
      by_cases e3 : pb = qb
      · subst e3
        go_enter Try.func13, Try.ntmps13
        go_wp2_with fail
        all_goals
          go_ret
          exact ⟨by simp_all, ((Fr.refl _ _).alloc _).alloc _⟩
      · have e5 : ¬ ((⟨pb.toArray⟩ : ByteArray) = ⟨qb.toArray⟩) := fun h => e3 (by simpa using congrArg (fun x : ByteArray => x.data.toList) h)
        go_enter Try.func13, Try.ntmps13
        go_wp2_with fail
        all_goals
          go_ret
          exact ⟨by simp_all, ((Fr.refl _ _).alloc _).alloc _⟩
    · by_cases h1 : pta = qta
      · have h2 : (ptn == qtn) = false := by simpa [h1] using e2
        subst h1
        clear e2
        go_enter Try.func13, Try.ntmps13
        go_wp2_with fail
        all_goals
          go_ret
          exact ⟨by simp_all, ((Fr.refl _ _).alloc _).alloc _⟩
      · have h2 : (pta == qta) = false := by simpa using h1
        clear e2
        go_enter Try.func13, Try.ntmps13
        go_wp2_with fail
        all_goals
          go_ret
          exact ⟨by simp_all, ((Fr.refl _ _).alloc _).alloc _⟩
  · by_cases h1 : pfa = qfa
    · have h2 : (pfn == qfn) = false := by simpa [h1] using e1
      subst h1
      clear e1
      go_enter Try.func13, Try.ntmps13
      go_wp2_with fail
      all_goals
        go_ret
        exact ⟨by simp_all, ((Fr.refl _ _).alloc _).alloc _⟩
    · have h2 : (pfa == qfa) = false := by simpa using h1
      clear e1
      go_enter Try.func13, Try.ntmps13
      go_wp2_with fail
      all_goals
        go_ret
        exact ⟨by simp_all, ((Fr.refl _ _).alloc _).alloc _⟩
end Go.Proofs.Ytkmpmibjenodlaa
