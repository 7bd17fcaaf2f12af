/-
  Net: how the laws' arguments lie in the cells.
-/
import Derived.Test.YtkmpmibjenodlaaRows
import Derived.Test.YtkmpmibjenodlaaR
import Derived.Test.YtkmpmibjenodlaaN13
import Derived.ProofKit
namespace Go.Proofs.Ytkmpmibjenodlaa
open Go.ChangeShapes Go.WideShapes Go.ChangeAt Go.RowKit

theorem Try.own : ownKnob Try.prog.godebug = none := by kernel_rfl
theorem Try.laidOut : laidOutB Try.prog = true := by kernel_rfl

def kI : Kd Int := kInt .i64
def kAddr : Kd (Bool × Int) := kPair kBool kI
def kParcel : Kd ((Bool × Int) × ((Bool × Int) × List UInt8)) := kPair kAddr (kPair kAddr (kRow kByte 1))
def kOp : Kd (Int × (((Bool × Int) × ((Bool × Int) × List UInt8)) × (Int × Int))) := kPair kI (kPair kParcel (kPair kI kI))

section
variable {w : World}
theorem from3 : From Try.prog w kI 3 := From.int Try.underlying3 (by kernel_rfl)
theorem from4 : From Try.prog w kBool 4 := From.bool Try.underlying4 (by kernel_rfl)
theorem from28 : From Try.prog w (kRow kByte 1) 28 := From.slice Try.underlying28 (by kernel_rfl) (From.byte Try.underlying5 (by kernel_rfl)) (by kernel_rfl)
theorem from27 : From Try.prog w kAddr 27 := From.struct Try.underlying27 (by kernel_rfl) (FromFs.cons from4 rfl rfl (FromFs.one from3 rfl))
theorem from30 : From Try.prog w kParcel 30 := From.struct Try.underlying30 (by kernel_rfl) (FromFs.cons from27 rfl rfl (FromFs.cons from27 rfl rfl (FromFs.one from28 rfl)))
theorem from32 : From Try.prog w kOp 32 := From.struct Try.underlying32 (by kernel_rfl) (FromFs.cons from3 rfl rfl (FromFs.cons from30 rfl rfl (FromFs.cons from3 rfl rfl (FromFs.one from3 rfl))))
theorem from22 : From Try.prog w (kRow kOp 80) 22 := From.slice Try.underlying22 (by kernel_rfl) from32 (by kernel_rfl)
end

/-- An act's cells. -/
theorem op_cells {S : Nat → Prop} {w : World} {cs : List Value} {x : Int × (((Bool × Int) × ((Bool × Int) × List UInt8)) × (Int × Int))} (h : kOp.rd S w cs x) :
    ∃ v, cs = [.int .i64 x.1, .bool x.2.1.1.1, .int .i64 x.2.1.1.2, .bool x.2.1.2.1.1, .int .i64 x.2.1.2.1.2, v, .int .i64 x.2.2.1, .int .i64 x.2.2.2] ∧ Sl kByte S w v x.2.1.2.2 ∧ x.2.1.2.2.length ≤ reachBytes := by
  obtain ⟨_, _, rfl, ⟨rfl, _⟩, _, _, rfl, ⟨_, _, rfl, ⟨_, _, rfl, rfl, rfl, _⟩, _, _, rfl, ⟨_, _, rfl, rfl, rfl, _⟩, v, rfl, hv, hB⟩, _, _, rfl, ⟨rfl, _⟩, rfl, _⟩ := h
  exact ⟨v, rfl, hv, by omega⟩
theorem Sl.form {α : Type} {k : Kd α} {S : Nat → Prop} {w : World} {v : Value} {l : List α} (h : Sl k S w v l) : ∃ a c, v = .slice a l.length c := by
  rcases h with ⟨rfl, rfl⟩ | ⟨a, c, rfl, _⟩
  · exact ⟨_, _, rfl⟩
  · exact ⟨_, _, rfl⟩
end Go.Proofs.Ytkmpmibjenodlaa
