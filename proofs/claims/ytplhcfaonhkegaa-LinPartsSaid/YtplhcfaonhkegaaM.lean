/-
  Laws for a map from whole numbers to whole numbers that the call owns.
-/
import Derived.Test.YtplhcfaonhkegaaL
import Derived.Maps.OwnOps
import Derived.Maps.Views
namespace Go.Proofs.Ytplhcfaonhkegaa
open Go.RowKit Go.Maps

/-- Block b is a map of at most n entries; key j holds f j (0, where it is not there). -/
def MapI (P : Program) (k e : TypeId) (w : World) (b n : Nat) (f : Int → Int) : Prop :=
  ∃ D : DataW Unit, w.ownsMap P k (plainElem P e) b n D ∧ IsMap D ∧ ∀ j, D.atKey (.int .i64 j) (.lit (.int .i64 0)) = .lit (.int .i64 (f j))

def upd (f : Int → Int) (j v : Int) : Int → Int := fun i => if i = j then v else f i

section
variable {P : Program} {k e : TypeId} {w : World} {b n : Nat} {f : Int → Int}

theorem MapI.made (w : World) (P : Program) (k e : TypeId) : MapI P k e (w.alloc (.map #[] 0)) w.heap.size 0 (fun _ => 0) :=
  ⟨.map [], World.ownsMap_made _ _ _ _, ⟨[], rfl⟩, fun _ => rfl⟩

theorem MapI.lt (h : MapI P k e w b n f) : b < w.heap.size := by obtain ⟨D, h, _⟩ := h; exact h.lt

theorem MapI.keep {w' : World} (h : MapI P k e w b n f) (hk : w'.heap[b]? = w.heap[b]?) : MapI P k e w' b n f := by
  obtain ⟨D, ⟨es, clock, hb, F, hs, hD⟩, h2, h3⟩ := h
  exact ⟨D, ⟨es, clock, hk.trans hb, F, hs, hD⟩, h2, h3⟩

theorem wf0 : (Lit.int .i64 0).wf = true := by decide

theorem MapI.look {t : TypeId} (hown : MapI P k e w b n f) (ht : P.underlying t = some (.map k e)) (hk : P.underlying k = some (.int .i64)) (he : P.underlying e = some (.int .i64))
    (hz : ∀ w, (zeroValue e).run P w = .ok (.int .i64 0) w) (j : Int) (hj : (Lit.int .i64 j).wf = true) :
    (Instr.lookup t (.map (some b)) (.int .i64 j) false).run P w = .ok (.int .i64 (f j)) w := by
  obtain ⟨D, h1, h2, h3⟩ := hown
  obtain ⟨c, h4, h5, _⟩ := h1.lookup_int (int_keyed hk) ht he (hz w) (keyOf_int_mk hk hj)
  rw [h3 j] at h5
  have : f j = c := by simpa using h5
  rw [this]; exact h4

theorem wpList_lookupI {ops : Array Oper} {rest : List Oper} {o : Oper} {a : Act} {Q : Exit → Act → World → Prop} (t : TypeId)
    (hg : o.guard = none) (m x : Operand) (hop : o.op = Op.lookup t m x false) (ht : P.underlying t = some (.map k e)) (hk : P.underlying k = some (.int .i64)) (he : P.underlying e = some (.int .i64))
    (hz : ∀ w, (zeroValue e).run P w = .ok (.int .i64 0) w) (hm : a.eval m = .map (some b)) (hown : MapI P k e w b n f) (j : Int) (hx : a.eval x = .int .i64 j) (hj : (Lit.int .i64 j).wf = true)
    (hK : (Lit.int .i64 (f j)).wf = true → wpList P ops Q rest (a.put o.dst (.int .i64 (f j))) w) : wpList P ops Q (o :: rest) a w := by
  obtain ⟨D, h1, h2, h3⟩ := hown
  refine wpList_lookup_own_int w hg m x t hop k e .i64 (int_keyed hk) ht he (hz w) b n D hm h1 _ _ hx (keyOf_int_mk hk hj) fun c hc hw => ?_
  rw [h3 j] at hc
  have : f j = c := by simpa using hc
  subst this
  exact hK hw

theorem wpList_updateI {ops : Array Oper} {rest : List Oper} {o : Oper} {a : Act} {Q : Exit → Act → World → Prop} (t : TypeId)
    (hg : o.guard = none) (m x v : Operand) (hop : o.op = Op.mapUpdate t m x v) (ht : P.underlying t = some (.map k e)) (hk : P.underlying k = some (.int .i64)) (he : P.underlying e = some (.int .i64))
    (hm : a.eval m = .map (some b)) (hown : MapI P k e w b n f) (hn : n < maxLen) (j : Int) (hx : a.eval x = .int .i64 j) (hj : (Lit.int .i64 j).wf = true) (c : Int) (hv : a.eval v = .int .i64 c) (hc : (Lit.int .i64 c).wf = true)
    (hK : ∀ w', MapI P k e w' b (n + 1) (upd f j c) → Fr (fun i => i = b) w w' → wpList P ops Q rest (a.put o.dst undef) w') : wpList P ops Q (o :: rest) a w := by
  obtain ⟨D, h1, h2, h3⟩ := hown
  refine wpList_mapUpdate_own w hg m x v t hop k e (int_keyed hk) ht (plainElem P e) b n D hm h1 hn _ _ _ hx hv (keyOf_int_mk hk hj) (.lit (.int .i64 c)) [] (plainElem_int he hc) fun w' g1 g2 => ?_
  refine hK w' ⟨_, g1, h2.put _ _, fun i => ?_⟩ ((Fr.of_grown g2).mono fun i _ hi => by simpa using hi)
  unfold upd
  by_cases hi : i = j
  · subst hi
    rw [if_pos rfl]
    exact atKey_put_same h2 (by simp [WideAt.IsKeyLit]) _ _
  · rw [if_neg hi, ← h3 i]
    exact atKey_put_other (by simpa using hi) _ _
end
#print axioms wpList_updateI
end Go.Proofs.Ytplhcfaonhkegaa
