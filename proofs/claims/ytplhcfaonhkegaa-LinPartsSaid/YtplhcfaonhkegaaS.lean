/-
  A law for a store of a whole value into a block that is known whole.
-/
import Derived.Test.YtplhcfaonhkegaaL
import Derived.Laws.CopyRow
namespace Go.Proofs.Ytplhcfaonhkegaa
open Go.RowKit

/-- cs with vs from place o on. -/
def putAt (cs : List Value) (o : Nat) (vs : List Value) : List Value := cs.take o ++ vs ++ cs.drop (o + vs.length)

theorem putAt_len {cs : List Value} {o : Nat} {vs : List Value} (h : o + vs.length ≤ cs.length) : (putAt cs o vs).length = cs.length := by
  simp [putAt]; omega

section
variable {P : Program} {w : World}

theorem run_store_block (ty : TypeId) (g off : Nat) (v : Value) (cur : Array Value) (e : TypeId) (hg : w.heap[g]? = some (.cells cur e (0, 0))) (hfit : off + v.cells.size ≤ cur.size)
    (hi : (P.info? ty).map (·.size) = some v.cells.size) (h1 : ∀ u ∈ v.cells.toList, u.oneCell' = true) :
    (Instr.storeAt ty (.pointer (some ⟨g, off, none⟩)) v).run P w = .ok () (w.setRow g (putAt cur.toList off v.cells.toList).toArray) := by
  have hst := run_storeCells_at P g off e v.cells.toList 0 cur w hg (by simpa using hfit) h1
  simp only [Nat.add_zero] at hst
  cases hq : P.info? ty with
  | none => simp [hq] at hi
  | some i =>
    have hs : v.cells.size = i.size := by simp [hq] at hi; omega
    simp [Instr.storeAt, Instr.sureAddr, storeVar, sizeOf, typeInfo, hq, hs, hst, putAt]

theorem wp_store_block {o : Oper} {a : Act} {K : Act → World → Prop} {Q : Exit → Act → World → Prop} (ty : TypeId) (x y : Operand) (ho : o.op = .store ty x y)
    (g off : Nat) (hx : a.eval x = .pointer (some ⟨g, off, none⟩)) (v : Value) (hy : a.eval y = v) (cur : Array Value) (e : TypeId) (hg : w.heap[g]? = some (.cells cur e (0, 0))) (hfit : off + v.cells.size ≤ cur.size)
    (hi : (P.info? ty).map (·.size) = some v.cells.size) (h1 : ∀ u ∈ v.cells.toList, u.oneCell' = true)
    (h : ∀ w', w'.heap[g]? = some (.cells (putAt cur.toList off v.cells.toList).toArray e (0, 0)) → Fr (fun i => i = g) w w' → K (a.put o.dst undef) w') : o.wp P a w K Q := by
  have hr := run_store_block (P := P) ty g off v cur e hg hfit hi h1
  unfold Oper.wp
  simp [execOp, ho, hx, hy, hr, Result.andThen]
  exact h _ (setRow_heap w g cur _ e _ hg) ⟨rfl, rfl, rfl, by simp, fun k _ hk => setRow_other w g k _ hk⟩

theorem wpList_store_block {ops : Array Oper} {rest : List Oper} {o : Oper} {a : Act} {Q : Exit → Act → World → Prop} (hgd : o.guard = none) (ty : TypeId) (x y : Operand) (ho : o.op = .store ty x y)
    (g off : Nat) (hx : a.eval x = .pointer (some ⟨g, off, none⟩)) (v : Value) (hy : a.eval y = v) (cur : Array Value) (e : TypeId) (hg : w.heap[g]? = some (.cells cur e (0, 0))) (hfit : off + v.cells.size ≤ cur.size)
    (hi : (P.info? ty).map (·.size) = some v.cells.size) (h1 : ∀ u ∈ v.cells.toList, u.oneCell' = true)
    (h : ∀ w', w'.heap[g]? = some (.cells (putAt cur.toList off v.cells.toList).toArray e (0, 0)) → Fr (fun i => i = g) w w' → wpList P ops Q rest (a.put o.dst undef) w') : wpList P ops Q (o :: rest) a w :=
  wpList_plain hgd fun _ hK => wp_store_block ty x y ho g off hx v hy cur e hg hfit hi h1 fun w' h2 h3 => hK _ _ (h w' h2 h3)
end
#print axioms wpList_store_block
end Go.Proofs.Ytplhcfaonhkegaa
