/-
  Points.
-/
import Derived.Test.YtplhcfaonhkegaaH10
namespace Go.Proofs.Ytplhcfaonhkegaa
open Go.RowKit Go.Maps

theorem fold_set0 : ∀ (cs : List Value) (k : Nat) (pre rest : List Value), pre.length = k → rest.length = cs.length →
    List.foldl (fun (cs : Array Value) (x : Value × Nat) => cs.setIfInBounds x.snd x.fst) (pre ++ rest).toArray (cs.zipIdx k) = (pre ++ cs).toArray
  | [], k, pre, rest, _, h => by rw [List.eq_nil_of_length_eq_zero h]; rfl
  | c :: cs, k, pre, [], _, h => by simp at h
  | c :: cs, k, pre, r :: rs, h1, h2 => by
    have ih := fold_set0 cs (k + 1) (pre ++ [c]) rs (by simp; omega) (by simpa using h2)
    rw [List.zipIdx_cons, List.foldl_cons, List.setIfInBounds_toArray, ← h1, List.set_append_right (h := Nat.le_refl _), Nat.sub_self, List.set_cons_zero]
    rw [h1]
    simpa using ih
theorem eI76 : ElemInfo Try.prog 71 76 23 224 := elemInfo (z := .agg (hapCells ((0, 0, 0, []), mErr 0, 0, 0, false, false) (.slice none 0 0) (.slice none 0 0) (.slice none 0 0)).toArray) Try.underlying71 (by kernel_rfl) rfl (by decide)

/-- A bare result laid over cells 4 to 18. -/
theorem hap_zero {S : Nat → Prop} {w : World} {cs : List Value} {x : MHap} (h : kHap.rd S w cs x) : kHap.rd S w (putAt cs 4 (resCells (mErr 0) (.slice none 0 0) (.slice none 0 0))) (x.1, mErr 0, x.2.2) := by
  obtain ⟨c1, c2, rfl, h1, d1, d2, rfl, h2, h3⟩ := h
  have l1 : c1.length = 4 := kCall.len h1
  have l2 : d1.length = 15 := kRes.len h2
  refine ⟨c1, resCells (mErr 0) (.slice none 0 0) (.slice none 0 0) ++ d2, ?_, h1, _, d2, rfl, ?_, h3⟩
  · unfold putAt
    rw [show (resCells (mErr 0) (.slice none 0 0) (.slice none 0 0)).length = 15 from rfl, ← l1, List.take_left]
    rw [List.drop_append, List.drop_append, List.drop_of_length_le (by omega), List.drop_of_length_le (by omega)]
    rw [show c1.length + 15 - c1.length - d1.length = 0 by omega]
    simp
  · exact cells_res (by decide) (by simp) (.inl ⟨rfl, rfl⟩) (by simp) (.inl ⟨rfl, rfl⟩) (by simp)
end Go.Proofs.Ytplhcfaonhkegaa
