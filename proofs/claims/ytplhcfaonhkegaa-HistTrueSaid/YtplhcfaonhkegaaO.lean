/-
  Laws for a map from whole numbers to whole numbers that the call owns, with what is there and what is not.
-/
import Derived.Test.YtplhcfaonhkegaaL
import Derived.Maps.OwnOps
import Derived.Maps.Views
import Derived.Maps.OwnSet
namespace Go.Proofs.Ytplhcfaonhkegaa
open Go Go.RowKit Go.Maps

/-- Block b is a map of at most n entries; key j holds f j. -/
def MapO (P : Program) (k e : TypeId) (w : World) (b n : Nat) (f : Int → Option Int) : Prop :=
  ∃ D : DataW Unit, w.ownsMap P k (plainElem P e) b n D ∧ IsMap D ∧ ∀ j, Maps.has D (.int .i64 j) = (f j).isSome ∧ D.atKey (.int .i64 j) (.lit (.int .i64 0)) = .lit (.int .i64 ((f j).getD 0))

def updO (f : Int → Option Int) (j : Int) (v : Option Int) : Int → Option Int := fun i => if i = j then v else f i

section
variable {P : Program} {k e : TypeId} {w : World} {b n : Nat} {f : Int → Option Int}

theorem MapO.made (w : World) (P : Program) (k e : TypeId) : MapO P k e (w.alloc (.map #[] 0)) w.heap.size 0 (fun _ => none) :=
  ⟨.map [], World.ownsMap_made _ _ _ _, ⟨[], rfl⟩, fun _ => ⟨rfl, rfl⟩⟩
theorem MapO.lt (h : MapO P k e w b n f) : b < w.heap.size := by obtain ⟨D, h, _⟩ := h; exact h.lt
theorem MapO.is (h : MapO P k e w b n f) : ∃ es c, w.heap[b]? = some (.map es c) := by obtain ⟨D, ⟨es, clock, hb, _⟩, _⟩ := h; exact ⟨_, _, hb⟩
theorem MapO.keep {w' : World} (h : MapO P k e w b n f) (hk : w'.heap[b]? = w.heap[b]?) : MapO P k e w' b n f := by
  obtain ⟨D, ⟨es, clock, hb, F, hs, hD⟩, h2, h3⟩ := h
  exact ⟨D, ⟨es, clock, hk.trans hb, F, hs, hD⟩, h2, h3⟩
theorem MapO.look {t : TypeId} (hown : MapO P k e w b n f) (ht : P.underlying t = some (.map k e)) (hk : P.underlying k = some (.int .i64)) (he : P.underlying e = some (.int .i64))
    (hz : (zeroValue e).run P w = .ok (.int .i64 0) w) (j : Int) (hj : (Lit.int .i64 j).wf = true) :
    (Instr.lookup t (.map (some b)) (.int .i64 j) true).run P w = .ok (.tuple #[.int .i64 ((f j).getD 0), .bool (f j).isSome]) w := by
  obtain ⟨D, h1, h2, h3⟩ := hown
  obtain ⟨v, ps, hrun, hv⟩ := h1.look_ok (int_keyed hk) ht hz (plainElem_int he (by decide)) (keyOf_int_mk hk hj)
  obtain ⟨c, rfl, hc, hwc⟩ := plainElem_int_inv he hv
  have hc' := congrArg Prod.fst hc
  rw [(h3 j).2] at hc'
  have : (f j).getD 0 = c := by simpa using hc'
  rw [this, ← (h3 j).1]; exact hrun

theorem MapO.put_run {t : TypeId} (hown : MapO P k e w b n f) (ht : P.underlying t = some (.map k e)) (hk : P.underlying k = some (.int .i64)) (he : P.underlying e = some (.int .i64)) (hn : n < maxLen) (j : Int) (hj : (Lit.int .i64 j).wf = true) (c : Int) (hc : (Lit.int .i64 c).wf = true) :
    ∃ w', (Instr.mapUpdate t (.map (some b)) (.int .i64 j) (.int .i64 c)).run P w = .ok () w' ∧ MapO P k e w' b (n + 1) (updO f j (some c)) ∧ Fr (fun i => i = b) w w' := by
  obtain ⟨D, h1, h2, h3⟩ := hown
  obtain ⟨w', hrun, g1, g2⟩ := h1.store (int_keyed hk) ht hn (keyOf_int_mk hk hj) (plainElem_int he hc)
  refine ⟨w', hrun, ⟨_, g1, h2.put _ _, fun i => ?_⟩, (Fr.of_grown g2.grown).mono fun i _ hi => by simpa using hi⟩
  unfold updO
  by_cases hi : i = j
  · subst hi
    rw [if_pos rfl]
    exact ⟨Maps.has_put_same h2 (by simp [WideAt.IsKeyLit]) _, atKey_put_same h2 (by simp [WideAt.IsKeyLit]) _ _⟩
  · rw [if_neg hi, ← (h3 i).1, ← (h3 i).2]
    exact ⟨Maps.has_put_other (by simpa using hi) _, atKey_put_other (by simpa using hi) _ _⟩
theorem MapO.del_run {t : TypeId} (hown : MapO P k e w b n f) (ht : P.underlying t = some (.map k e)) (hk : P.underlying k = some (.int .i64)) (j : Int) (hj : (Lit.int .i64 j).wf = true) (ty : TypeId) :
    ∃ w', (Builtin.delete_ #[t, k] ty #[.map (some b), .int .i64 j]).run P w = .ok (.tuple #[]) w' ∧ MapO P k e w' b n (updO f j none) ∧ Fr (fun i => i = b) w w' := by
  obtain ⟨D, h1, h2, h3⟩ := hown
  obtain ⟨w', hrun, g1, g2⟩ := h1.drop (int_keyed hk) ht (keyOf_int_mk hk hj) ty
  refine ⟨w', hrun, ⟨_, g1, h2.del _, fun i => ?_⟩, (Fr.of_grown g2.grown).mono fun i _ hi => by simpa using hi⟩
  unfold updO
  by_cases hi : i = j
  · subst hi
    rw [if_pos rfl]
    exact ⟨Maps.has_del_same, atKey_del_same _⟩
  · rw [if_neg hi, ← (h3 i).1, ← (h3 i).2]
    exact ⟨Maps.has_del_other (by simpa using hi), atKey_del_other (by simpa using hi) _⟩
theorem MapO.ne (h : MapO P k e w b n f) {g : Nat} {cs : Array Value} {t : TypeId} {fr : Nat × Nat} (hg : w.heap[g]? = some (.cells cs t fr)) : g ≠ b := by
  rintro rfl
  obtain ⟨es, c, e⟩ := h.is
  rw [hg] at e
  cases e

variable {ops : Array Oper} {rest : List Oper} {o : Oper} {a : Act} {Q : Exit → Act → World → Prop}
/-- A lookup whose run is known. -/
theorem wpList_lookup_run (t : TypeId) (p j v : Value) {c : Bool} (hr : (Instr.lookup t p j c).run P w = .ok v w) (x y : Operand) (ho : o.op = .lookup t x y c) (hx : a.eval x = p) (hy : a.eval y = j) (hw : Region.wanted o (yielded ops a.tmps) = true)
    (h : wpList P ops Q rest (a.put o.dst v) w) : wpList P ops Q (o :: rest) a w :=
  wpList_step fun K hK => by
    rw [if_pos hw]
    unfold Oper.wp execOp
    simp only [ho, hx, hy, Sem.run_bind, hr, Result.andThen_ok]
    exact hK _ _ h
theorem wpList_updateO (t : TypeId)
    (hg : o.guard = none) (m x v : Operand) (hop : o.op = Op.mapUpdate t m x v) (ht : P.underlying t = some (.map k e)) (hk : P.underlying k = some (.int .i64)) (he : P.underlying e = some (.int .i64))
    (hm : a.eval m = .map (some b)) (hown : MapO P k e w b n f) (hn : n < maxLen) (j : Int) (hx : a.eval x = .int .i64 j) (hj : (Lit.int .i64 j).wf = true) (c : Int) (hv : a.eval v = .int .i64 c) (hc : (Lit.int .i64 c).wf = true)
    (hK : ∀ w', MapO P k e w' b (n + 1) (updO f j (some c)) → Fr (fun i => i = b) w w' → wpList P ops Q rest (a.put o.dst undef) w') : wpList P ops Q (o :: rest) a w := by
  obtain ⟨D, h1, h2, h3⟩ := hown
  refine wpList_mapUpdate_own w hg m x v t hop k e (int_keyed hk) ht (plainElem P e) b n D hm h1 hn _ _ _ hx hv (keyOf_int_mk hk hj) (.lit (.int .i64 c)) [] (plainElem_int he hc) fun w' g1 g2 => ?_
  refine hK w' ⟨_, g1, h2.put _ _, fun i => ?_⟩ ((Fr.of_grown g2).mono fun i _ hi => by simpa using hi)
  unfold updO
  by_cases hi : i = j
  · subst hi
    rw [if_pos rfl]
    exact ⟨Maps.has_put_same h2 (by simp [WideAt.IsKeyLit]) _, atKey_put_same h2 (by simp [WideAt.IsKeyLit]) _ _⟩
  · rw [if_neg hi, ← (h3 i).1, ← (h3 i).2]
    exact ⟨Maps.has_put_other (by simpa using hi) _, atKey_put_other (by simpa using hi) _ _⟩
theorem wpList_deleteO (t : TypeId)
    (hg : o.guard = none) (m x : Operand) (hop : o.op = Op.call { callee := Callee.builtin Builtin.delete, args := #[m, x], argTypes := #[t, k] }) (ht : P.underlying t = some (.map k e)) (hk : P.underlying k = some (.int .i64))
    (hm : a.eval m = .map (some b)) (hown : MapO P k e w b n f) (j : Int) (hx : a.eval x = .int .i64 j) (hj : (Lit.int .i64 j).wf = true)
    (hK : ∀ w', MapO P k e w' b n (updO f j none) → Fr (fun i => i = b) w w' → wpList P ops Q rest (a.put o.dst (.tuple #[])) w') : wpList P ops Q (o :: rest) a w := by
  obtain ⟨D, h1, h2, h3⟩ := hown
  refine wpList_delete_own w hg m x t k hop e (int_keyed hk) ht (plainElem P e) b n D hm h1 _ _ hx (keyOf_int_mk hk hj) fun w' g1 g2 => ?_
  refine hK w' ⟨_, g1, h2.del _, fun i => ?_⟩ ((Fr.of_grown g2.grown).mono fun i _ hi => by simpa using hi)
  unfold updO
  by_cases hi : i = j
  · subst hi
    rw [if_pos rfl]
    exact ⟨Maps.has_del_same, atKey_del_same _⟩
  · rw [if_neg hi, ← (h3 i).1, ← (h3 i).2]
    exact ⟨Maps.has_del_other (by simpa using hi), atKey_del_other (by simpa using hi) _⟩
end
end Go.Proofs.Ytplhcfaonhkegaa
