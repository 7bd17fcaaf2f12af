/-
  Keys as plain data: which may be, their order, the next one and the one ahead.
-/
import Derived.Test.YthjfnpojelfekaaDoorProg
namespace Go.Proofs.YthjfnpojelfekaaDoor

abbrev MK := Int × Int
def kOk (k : MK) : Bool := decide (k.1 = 2) || ((decide (k.1 = 1) || decide (k.1 = 3)) && decide (k.2 = 0))
def kChk (k : MK) : Int := if kOk k then 0 else 20
def c3 (a b : Int) : Int := if a < b then -1 else if b < a then 1 else 0
def kCmp (a b : MK) : Int := if c3 a.1 b.1 ≠ 0 then c3 a.1 b.1 else c3 a.2 b.2
def kLess (a b : MK) : Bool := decide (kCmp a b < 0)
def kNext (k : MK) : MK × Bool :=
  if kOk k = false ∨ k.1 = 3 then ((0, 0), false) else if k.1 = 1 then ((2, 0), true) else if k.2 = 18446744073709551615 then ((3, 0), true) else ((2, k.2 + 1), true)
def kPrev (k : MK) : MK × Bool :=
  if kOk k = false ∨ k.1 = 1 then ((0, 0), false) else if k.1 = 3 then ((2, 18446744073709551615), true) else if k.2 = 0 then ((1, 0), true) else ((2, k.2 - 1), true)
def kIn (a k b : MK) : Bool := !kLess k a && !kLess b k
def kV (k : MK) : Value := .agg #[.int .i64 k.1, .int .u64 k.2]

theorem c3_lt {a b : Int} : c3 a b < 0 ↔ a < b := by unfold c3; grind
theorem kCmp_lt {a b : MK} : kCmp a b < 0 ↔ a.1 < b.1 ∨ (a.1 = b.1 ∧ a.2 < b.2) := by unfold kCmp c3; grind
theorem kCmp_zero {a b : MK} : kCmp a b = 0 ↔ a = b := by
  obtain ⟨a1, a2⟩ := a
  obtain ⟨b1, b2⟩ := b
  simp only [Prod.mk.injEq]
  unfold kCmp c3; grind
theorem kLess_iff {a b : MK} : kLess a b = true ↔ a.1 < b.1 ∨ (a.1 = b.1 ∧ a.2 < b.2) := by unfold kLess; simp [kCmp_lt]
theorem kLess_irr (a : MK) : kLess a a = false := by
  cases h : kLess a a with
  | false => rfl
  | true => rw [kLess_iff] at h; omega
theorem kLess_total {a b : MK} (h1 : kLess a b = false) (h2 : kLess b a = false) : a = b := by
  rw [← Bool.not_eq_true, kLess_iff] at h1 h2
  obtain ⟨a1, a2⟩ := a
  obtain ⟨b1, b2⟩ := b
  simp only [Prod.mk.injEq] at *
  omega
/-- Numbers that are keys' own. -/
def kWf (k : MK) : Prop := (-9223372036854775808 ≤ k.1 ∧ k.1 ≤ 9223372036854775807) ∧ (0 ≤ k.2 ∧ k.2 ≤ 18446744073709551615)
end Go.Proofs.YthjfnpojelfekaaDoor
