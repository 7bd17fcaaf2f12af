/-
  Laws for a map from whole numbers to Booleans that the call owns.
-/
import Derived.Test.YtplhcfaonhkegaaL
import Derived.Maps.OwnOps
import Derived.Maps.Views
import Derived.Maps.OwnSet
namespace Go.Proofs.Ytplhcfaonhkegaa
open Go Go.RowKit Go.Maps

/-- Block b is a map of at most n entries; key j holds f j (false, where it is not there). -/
def MapB (P : Program) (q : IntKind) (k e : TypeId) (w : World) (b n : Nat) (f : Int → Bool) : Prop :=
  ∃ D : DataW Unit, w.ownsMap P k (plainElem P e) b n D ∧ IsMap D ∧ ∀ j, D.atKey (.int q j) (.lit (.bool false)) = .lit (.bool (f j))

def updB (f : Int → Bool) (j : Int) (v : Bool) : Int → Bool := fun i => if i = j then v else f i

section
variable {P : Program} {q : IntKind} {k e : TypeId} {w : World} {b n : Nat} {f : Int → Bool}

theorem plainElem_bool_inv {H : Type} {P : Program} {e : TypeId} (he : P.underlying e = some .bool) {v : Value} {z : DataW H × List MemPlace} (h : plainElem P e v = some z) : ∃ x, v = .bool x ∧ z = (.lit (.bool x), []) := by
  unfold plainElem at h
  rw [he] at h
  cases v <;> simp at h
  exact ⟨_, rfl, h.symm⟩

theorem MapB.made (w : World) (P : Program) (q : IntKind) (k e : TypeId) : MapB P q k e (w.alloc (.map #[] 0)) w.heap.size 0 (fun _ => false) :=
  ⟨.map [], World.ownsMap_made _ _ _ _, ⟨[], rfl⟩, fun _ => rfl⟩
theorem MapB.lt (h : MapB P q k e w b n f) : b < w.heap.size := by obtain ⟨D, h, _⟩ := h; exact h.lt
theorem MapB.keep {w' : World} (h : MapB P q k e w b n f) (hk : w'.heap[b]? = w.heap[b]?) : MapB P q k e w' b n f := by
  obtain ⟨D, ⟨es, clock, hb, F, hs, hD⟩, h2, h3⟩ := h
  exact ⟨D, ⟨es, clock, hk.trans hb, F, hs, hD⟩, h2, h3⟩
theorem MapB.fr {w' : World} (h : MapB P q k e w b n f) (g : Fr Non w w') : MapB P q k e w' b n f := h.keep (g.block b h.lt id)

theorem MapB.look {t : TypeId} (hown : MapB P q k e w b n f) (ht : P.underlying t = some (.map k e)) (hk : P.underlying k = some (.int q)) (he : P.underlying e = some .bool)
    (hz : ∀ w, (zeroValue e).run P w = .ok (.bool false) w) (j : Int) (hj : (Lit.int q j).wf = true) :
    (Instr.lookup t (.map (some b)) (.int q j) false).run P w = .ok (.bool (f j)) w := by
  obtain ⟨D, h1, h2, h3⟩ := hown
  obtain ⟨v, ps, hrun, hv⟩ := h1.lookup (int_keyed hk) ht (hz w) (plainElem_bool he false) (keyOf_int_mk hk hj)
  obtain ⟨c, rfl, hc⟩ := plainElem_bool_inv he hv
  simp only [Prod.mk.injEq] at hc
  rw [h3 j] at hc
  have : f j = c := by simpa using hc.1
  rw [this]; exact hrun

variable {ops : Array Oper} {rest : List Oper} {o : Oper} {a : Act} {Q : Exit → Act → World → Prop}
theorem wpList_updateB (t : TypeId)
    (hg : o.guard = none) (m x v : Operand) (hop : o.op = Op.mapUpdate t m x v) (ht : P.underlying t = some (.map k e)) (hk : P.underlying k = some (.int q)) (he : P.underlying e = some .bool)
    (hm : a.eval m = .map (some b)) (hown : MapB P q k e w b n f) (hn : n < maxLen) (j : Int) (hx : a.eval x = .int q j) (hj : (Lit.int q j).wf = true) (c : Bool) (hv : a.eval v = .bool c)
    (hK : ∀ w', MapB P q k e w' b (n + 1) (updB f j c) → Fr (fun i => i = b) w w' → wpList P ops Q rest (a.put o.dst undef) w') : wpList P ops Q (o :: rest) a w := by
  obtain ⟨D, h1, h2, h3⟩ := hown
  refine wpList_mapUpdate_own w hg m x v t hop k e (int_keyed hk) ht (plainElem P e) b n D hm h1 hn _ _ _ hx hv (keyOf_int_mk hk hj) (.lit (.bool c)) [] (plainElem_bool he c) fun w' g1 g2 => ?_
  refine hK w' ⟨_, g1, h2.put _ _, fun i => ?_⟩ ((Fr.of_grown g2).mono fun i _ hi => by simpa using hi)
  unfold updB
  by_cases hi : i = j
  · subst hi
    rw [if_pos rfl]
    exact atKey_put_same h2 (by simp [WideAt.IsKeyLit]) _ _
  · rw [if_neg hi, ← h3 i]
    exact atKey_put_other (by simpa using hi) _ _
/-- A lookup whose run is known, under a guard that is met. -/
theorem wpList_lookup_w (t : TypeId) (p j v : Value) (hr : (Instr.lookup t p j false).run P w = .ok v w) (x y : Operand) (ho : o.op = .lookup t x y false) (hx : a.eval x = p) (hy : a.eval y = j) (hw : Region.wanted o (yielded ops a.tmps) = true)
    (h : wpList P ops Q rest (a.put o.dst v) w) : wpList P ops Q (o :: rest) a w :=
  wpList_step fun K hK => by
    rw [if_pos hw]
    unfold Oper.wp execOp
    simp only [ho, hx, hy, Sem.run_bind, hr, Result.andThen_ok]
    exact hK _ _ h
end
end Go.Proofs.Ytplhcfaonhkegaa
