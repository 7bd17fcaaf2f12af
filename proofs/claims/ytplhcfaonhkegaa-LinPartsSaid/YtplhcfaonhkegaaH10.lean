/-
  Points.
-/
import Derived.Test.YtplhcfaonhkegaaH9
namespace Go.Proofs.Ytplhcfaonhkegaa
open Go.RowKit Go.Maps

theorem hPoints_append (x : MHap) : ∀ (xs : List MHap), hPoints (xs ++ [x]) = hPoints xs ++ (if decide (x.1.1 = 5) || hNothing x then [] else [hPoint x])
  | [] => by cases h : (decide (x.1.1 = 5) || hNothing x) <;> simp [hPoints, h]
  | y :: ys => by
    have ih := hPoints_append x ys
    cases h : (decide (y.1.1 = 5) || hNothing y) <;> simp only [List.cons_append, hPoints, h, ih, if_true, if_false, Bool.false_eq_true]
theorem hPoints_next {l : List MHap} {j : Nat} (h : j < l.length) : hPoints (l.take (j + 1)) = hPoints (l.take j) ++ (if decide (l[j].1.1 = 5) || hNothing l[j] then [] else [hPoint l[j]]) := by
  rw [List.take_succ_eq_append_getElem h, hPoints_append]
theorem hPoints_len : ∀ (xs : List MHap), (hPoints xs).length ≤ xs.length
  | [] => by simp [hPoints]
  | y :: ys => by
    have := hPoints_len ys
    cases h : (decide (y.1.1 = 5) || hNothing y) <;> simp [hPoints, h] <;> omega
/-- One of a row, loaded: its cells, and what they say. -/
theorem hap_rd {S : Nat → Prop} {w : World} {a : Option Addr} {n c : Nat} {l : List MHap} (h : Sl kHap S w (.slice a n c) l) (i : Nat) (hi : i < l.length) :
    ∃ b o cs, a = some ⟨b, o, none⟩ ∧ kHap.rd S w cs l[i] ∧ HapV S w (.agg cs.toArray) l[i] ∧ (Instr.loadAt 76 (.pointer (some ⟨b, o + i * 23, none⟩))).run Try.prog w = .ok (.agg cs.toArray) w := by
  obtain ⟨b, o, cs, rfl, _, _, _, hr, hc⟩ := h.at i hi
  obtain ⟨a0, n0, a1, n1, a2, n2, rfl, h0, h1, h2⟩ := hap_cells hr
  refine ⟨b, o, _, rfl, hr, ⟨a0, n0, a1, n1, a2, n2, rfl, h0, h1, h2⟩, ?_⟩
  refine run_loadAt_list _ _ Try.underlying76 rfl (by simp only [hapCells, resCells, refCells, List.cons_append, List.nil_append]; kernel_rfl) fun j v hv => ?_
  obtain ⟨hj, rfl⟩ := List.getElem?_eq_some_iff.1 hv
  exact hc j hj
end Go.Proofs.Ytplhcfaonhkegaa
