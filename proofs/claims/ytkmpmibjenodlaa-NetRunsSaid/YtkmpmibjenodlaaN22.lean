/-
  Net: the reference's net, and its small functions.
-/
import Derived.Test.YtkmpmibjenodlaaN20
import Derived.Test.YtkmpmibjenodlaaN21
namespace Go.Proofs.Ytkmpmibjenodlaa
open Go.RowKit Go.Maps

def refFp (rb : Nat) (lv : Value) (us : List Value) : List Nat := rb :: (lv :: us).filterMap Value.ownBlock

/-- The reference's net. -/
structure RefAt (w : World) (rb : Nat) (lv : Value) (us : List Value) (k : Nat) (st : NetSt) : Prop where
  cell : w.heap[rb]? = some (.cells #[lv, .int .i64 (st.c 0), .int .i64 (st.c 1), .int .i64 (st.c 2), .int .i64 (st.c 3)] 52 (0, 0))
  row : GRow w 30 5 lv st.l.length (rowOf st.l us)
  bytes : Bytes w st.l us
  ne1 : lv.ownBlock ≠ some rb
  ne2 : rb ∉ us.filterMap Value.ownBlock
  ne3 : ∀ b, lv.ownBlock = some b → b ∉ us.filterMap Value.ownBlock
  full : st.l.length ≤ 4096
  small : k ≤ 1000000
  cb : ∀ j, 0 ≤ st.c j ∧ st.c j ≤ 5000 * k

theorem refFp_mem {rb : Nat} {lv : Value} {us : List Value} {b : Nat} : b ∈ refFp rb lv us ↔ b = rb ∨ lv.ownBlock = some b ∨ b ∈ us.filterMap Value.ownBlock := by
  simp only [refFp, List.mem_cons]
  cases ho : lv.ownBlock with
  | none => rw [List.filterMap_cons_none ho]; simp
  | some x => rw [List.filterMap_cons_some ho, List.mem_cons, Option.some.injEq]; constructor <;> (rintro (h | h | h)) <;> simp_all
theorem RefAt.lt {w : World} {rb : Nat} {lv : Value} {us : List Value} {k : Nat} {st : NetSt} (h : RefAt w rb lv us k st) : ∀ b ∈ refFp rb lv us, b < w.heap.size := by
  intro b hb
  rcases refFp_mem.1 hb with rfl | h1 | h1
  · exact lt_of_block h.cell
  · exact h.row.lt b h1
  · exact h.bytes.lt b h1
theorem RefAt.fr {T : Nat → Prop} {w w' : World} {rb : Nat} {lv : Value} {us : List Value} {k : Nat} {st : NetSt} (h : RefAt w rb lv us k st) (f : Fr T w w') (hT : ∀ b ∈ refFp rb lv us, ¬ T b) : RefAt w' rb lv us k st :=
  ⟨f.heap h.cell (hT _ (refFp_mem.2 (.inl rfl))), h.row.keep fun b hb => f.block b (h.row.lt b hb) (hT _ (refFp_mem.2 (.inr (.inl hb)))),
   h.bytes.keep fun b hb => f.block b (h.bytes.lt b hb) (hT _ (refFp_mem.2 (.inr (.inr hb)))), h.ne1, h.ne2, h.ne3, h.full, h.small, h.cb⟩
theorem RefAt.box {w : World} {rb : Nat} {lv : Value} {us : List Value} {k : Nat} {st : NetSt} (h : RefAt w rb lv us k st) :
    (∀ j, w.cell? ⟨rb, j, none⟩ = (#[lv, .int .i64 (st.c 0), .int .i64 (st.c 1), .int .i64 (st.c 2), .int .i64 (st.c 3)] : Array Value)[j]?) ∧ (∀ j, w.frozen? ⟨rb, j, none⟩ = false) :=
  ⟨fun _ => cell_of_row _ _ _ _ _ _ h.cell, fun j => unfrozen_of_block' h.cell j⟩

theorem isaddr_any (w : World) (a : Bool) (n : Int) : Calls Try.prog 22 #[.agg #[.bool a, .int .i64 n]] w fun e w' => e = .returned (.bool (decide (okA n))) ∧ Fr Non w w' := by
  by_cases h0 : 0 ≤ n
  · by_cases h1 : n < 1024
    · go_enter Try.func22, Try.ntmps22
      go_wp2_with fail
      go_ret
      exact ⟨congrArg _ (congrArg _ (decide_eq_true ⟨h0, h1⟩).symm), (Fr.refl _ _).alloc _⟩
    · go_enter Try.func22, Try.ntmps22
      go_wp2_with fail
      go_ret
      exact ⟨congrArg _ (congrArg _ (decide_eq_false (fun h => by have := h.2; omega)).symm), (Fr.refl _ _).alloc _⟩
  · go_enter Try.func22, Try.ntmps22
    go_wp2_with fail
    go_ret
    exact ⟨congrArg _ (congrArg _ (decide_eq_false (fun h => by have := h.1; omega)).symm), (Fr.refl _ _).alloc _⟩

theorem is_any {w : World} {rb : Nat} {lv : Value} {us : List Value} {k : Nat} {st : NetSt} (h : RefAt w rb lv us k st) (i : Int) :
    Calls Try.prog 40 #[.pointer (some ⟨rb, 0, none⟩), .int .i64 i] w fun e w' => e = .returned (.bool (decide (isI st i))) ∧ w' = w := by
  obtain ⟨q1, q2⟩ := h.box
  obtain ⟨a, c, rfl⟩ := h.row.form
  by_cases h0 : 0 ≤ i
  · by_cases h1 : i < st.l.length
    · go_enter Try.func40, Try.ntmps40
      go_wp2_with fail
      go_ret
      exact ⟨congrArg _ (congrArg _ (decide_eq_true ⟨h0, h1⟩).symm), rfl⟩
    · go_enter Try.func40, Try.ntmps40
      go_wp2_with fail
      go_ret
      exact ⟨congrArg _ (congrArg _ (decide_eq_false (fun h => by have := h.2; omega)).symm), rfl⟩
  · go_enter Try.func40, Try.ntmps40
    go_wp2_with fail
    go_ret
    exact ⟨congrArg _ (congrArg _ (decide_eq_false (fun h => by have := h.1; omega)).symm), rfl⟩
end Go.Proofs.Ytkmpmibjenodlaa
