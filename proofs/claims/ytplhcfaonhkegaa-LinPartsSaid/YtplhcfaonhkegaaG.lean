/-
  Drawn regions in which some operations may come in either order: both ways are walked.
-/
import Derived.Test.YtplhcfaonhkegaaE
namespace Go.Proofs.Ytplhcfaonhkegaa
open Go

/-- The orders that are walked. -/
inductive PTree where
  | leaf : PTree
  | soft : Way → Nat → PTree → PTree
  | one : Nat → PTree → PTree
  | two : Nat → PTree → Nat → PTree → PTree
  | three : Nat → PTree → Nat → PTree → Nat → PTree → PTree

def PTree.len : PTree → Nat
  | .leaf => 0
  | .soft _ _ t => t.len + 1
  | .one _ t => t.len + 1
  | .two _ t _ _ => t.len + 1
  | .three _ t _ _ _ _ => t.len + 1

def heldOkK (ops : Array Oper) (kd : Nat → Way) (i : Nat) (listed L : Array Bool) : Bool :=
  (Region.ready .any ops L).all (· == i) && decide (listed.size = L.size) && (List.range ops.size).all (fun j => (!listed.getD j false || L.getD j false) && (!L.getD j false || decide (kd j ≠ .last)))

def treeOk (ops : Array Oper) (kd : Nat → Way) (n : Nat) : PTree → Array Bool → Bool
  | .leaf, listed => (List.range ops.size).all (fun j => listed.getD j true || decide (kd j = .last)) && Region.seqB .any ops (ops.size - n) n listed
  | .soft .held i t, listed => (Region.ready .any ops listed).contains i && Region.free .any ops listed i && heldOkK ops kd i listed (without ops i ops.size (Array.replicate ops.size false)) && decide (kd i = .held) && treeOk ops kd n t (listed.setIfInBounds i true)
  | .soft .free i t, listed => (Region.ready .any ops listed).contains i && Region.free .any ops listed i && decide (kd i = .free) && treeOk ops kd n t (listed.setIfInBounds i true)
  | .soft _ _ _, _ => false
  | .one i t, listed => decide (Region.ready .any ops listed = [i]) && decide (kd i = .kept) && treeOk ops kd n t (listed.setIfInBounds i true)
  | .two i t j u, listed => decide (Region.ready .any ops listed = [i, j]) && decide (kd i = .kept) && decide (kd j = .kept) && decide (t.len = u.len) && treeOk ops kd n t (listed.setIfInBounds i true) && treeOk ops kd n u (listed.setIfInBounds j true)
  | .three i t j u k v, listed => decide (Region.ready .any ops listed = [i, j, k]) && decide (kd i = .kept) && decide (kd j = .kept) && decide (kd k = .kept) && decide (t.len = u.len) && decide (t.len = v.len) && treeOk ops kd n t (listed.setIfInBounds i true) && treeOk ops kd n u (listed.setIfInBounds j true) && treeOk ops kd n v (listed.setIfInBounds k true)

section
variable {P : Program} {ops : Array Oper} {Q : Exit → Act → World → Prop} {S : World → Prop} {kd : Nat → Way} {n : Nat}

def wpTree (P : Program) (ops : Array Oper) (Q : Exit → Act → World → Prop) (S : World → Prop) (n : Nat) : PTree → Act → World → Prop
  | .leaf, a, w => wpList P ops Q (ops.toList.drop n) a w
  | .soft .held i t, a, w => ∃ o v, ops[i]? = some o ∧ YieldsIf P ops S o v a ∧ wpTree P ops Q S n t (a.put o.dst v) w
  | .soft _ i t, a, w => ∃ o v, ops[i]? = some o ∧ YieldsIf P ops (fun _ => True) o v a ∧ wpTree P ops Q S n t (a.put o.dst v) w
  | .one i t, a, w => wpOp P ops Q i (fun a' w' => S w' ∧ wpTree P ops Q S n t a' w') a w
  | .two i t j u, a, w => wpOp P ops Q i (fun a' w' => S w' ∧ wpTree P ops Q S n t a' w') a w ∧ wpOp P ops Q j (fun a' w' => S w' ∧ wpTree P ops Q S n u a' w') a w
  | .three i t j u k v, a, w => wpOp P ops Q i (fun a' w' => S w' ∧ wpTree P ops Q S n t a' w') a w ∧ wpOp P ops Q j (fun a' w' => S w' ∧ wpTree P ops Q S n u a' w') a w ∧ wpOp P ops Q k (fun a' w' => S w' ∧ wpTree P ops Q S n v a' w') a w

theorem heldOkK_spec {i : Nat} {listed L : Array Bool} (hsz : listed.size = ops.size) (h : heldOkK ops kd i listed L = true) :
    (Without ops i L ∧ ∀ j, L.getD j false = true → kd j ≠ .last) ∧ listed.size = L.size ∧ ∀ k, listed.getD k false = true → L.getD k false = true := by
  unfold heldOkK at h
  simp only [Bool.and_eq_true, decide_eq_true_eq] at h
  obtain ⟨⟨h1, h2⟩, h3⟩ := h
  refine ⟨⟨⟨fun j hj => by simpa using List.all_eq_true.1 h1 j hj⟩, fun j hj => ?_⟩, h2, fun k hk => ?_⟩
  · have := List.all_eq_true.1 h3 j (getD_range hj (h2 ▸ hsz))
    simp only [Bool.and_eq_true, Bool.or_eq_true, hj, Bool.not_true, Bool.false_eq_true, false_or, decide_eq_true_eq] at this
    exact this.2
  · have := List.all_eq_true.1 h3 k (getD_range hk hsz)
    simp only [Bool.and_eq_true, Bool.or_eq_true, hk, Bool.not_true, Bool.false_eq_true, false_or] at this
    exact this.1

theorem wpX_tree (hsel : Region.noSelect ops = true) (hQ : ∀ c (a : Act) (d : Nat) v w, Q (.panic c) { a with tmps := a.tmps.setIfInBounds d v } w → Q (.panic c) a w) :
    ∀ (t : PTree) (listed : Array Bool) (a : Act) (w : World), listed.size = ops.size → treeOk ops kd n t listed = true → S w → wpTree P ops Q S n t a w → wpX P ops Q S kd (t.len + (ops.size - n)) listed a w := by
  intro t
  induction t with
  | leaf =>
    intro listed a w hsz hok _ h
    simp only [treeOk, Bool.and_eq_true] at hok
    have hlast : ∀ j, listed.getD j true = false → kd j = .last := fun j hj => by
      have hjlt : j < ops.size := by
        rw [← hsz]
        rcases Nat.lt_or_ge j listed.size with h' | h'
        · exact h'
        · simp [Array.getElem?_eq_none h'] at hj
      have := List.all_eq_true.1 hok.1 j (List.mem_range.2 hjlt)
      simpa [hj] using this
    have hl : (ops.toList.drop n).length = ops.size - n := by simp
    have := wpX_of_seq (P := P) (ops := ops) (Q := Q) (S := S) (kd := kd) (ops.toList.drop n) n listed a w (fun j => by simp) hlast (by rw [hl]; exact hok.2) h
    simpa [PTree.len, hl] using this
  | soft b i t ih =>
    intro listed a w hsz hok hS h
    rw [show (PTree.soft b i t).len + (ops.size - n) = (t.len + (ops.size - n)) + 1 from by simp only [PTree.len]; omega]
    have hsz' : (listed.setIfInBounds i true).size = ops.size := by simpa using hsz
    cases b with
    | held =>
      simp only [treeOk, Bool.and_eq_true, decide_eq_true_eq] at hok
      obtain ⟨⟨⟨⟨hc1, hc2⟩, hc3⟩, hc4⟩, hok⟩ := hok
      obtain ⟨o, v, ho, hy, hr⟩ := h
      have hh := heldOkK_spec hsz hc3
      exact wpX_first ho (Region.noSelect_spec hsel) (fun c a w => put_panic hQ c a o.dst v w) (.inl ⟨hc4, rfl⟩) _ (fun _ => hh.1) _ listed a w (fun _ => hh.2) (Region.free_spec ho hc2) (by simpa using hc1) hy hS (ih _ _ _ hsz' hok hS hr)
    | free =>
      simp only [treeOk, Bool.and_eq_true, decide_eq_true_eq] at hok
      obtain ⟨⟨⟨hc1, hc2⟩, hc4⟩, hok⟩ := hok
      obtain ⟨o, v, ho, hy, hr⟩ := h
      exact wpX_first ho (Region.noSelect_spec hsel) (fun c a w => put_panic hQ c a o.dst v w) (.inr ⟨hc4, rfl⟩) #[] (fun h => by rw [hc4] at h; cases h) _ listed a w (fun h => by rw [hc4] at h; cases h) (Region.free_spec ho hc2) (by simpa using hc1) hy trivial (ih _ _ _ hsz' hok hS hr)
    | kept => simp [treeOk] at hok
    | last => simp [treeOk] at hok
  | one i t ih =>
    intro listed a w hsz hok hS h
    rw [show (PTree.one i t).len + (ops.size - n) = (t.len + (ops.size - n)) + 1 from by simp only [PTree.len]; omega]
    simp only [treeOk, Bool.and_eq_true, decide_eq_true_eq] at hok
    obtain ⟨⟨hc, hc4⟩, hok⟩ := hok
    refine ⟨fun h0 => (by rw [h0] at hc; cases hc), fun j hj => ?_⟩
    rw [hc] at hj
    simp only [List.mem_singleton] at hj
    subst hj
    exact wpOp_mono (fun a' w' h' => ⟨fun _ => h'.1, fun h => (by rw [hc4] at h; cases h), ih _ _ _ (by simpa using hsz) hok h'.1 h'.2⟩) h
  | two i t j u ih1 ih2 =>
    intro listed a w hsz hok hS h
    rw [show (PTree.two i t j u).len + (ops.size - n) = (t.len + (ops.size - n)) + 1 from by simp only [PTree.len]; omega]
    simp only [treeOk, Bool.and_eq_true, decide_eq_true_eq] at hok
    obtain ⟨⟨⟨⟨⟨hc, hi⟩, hj⟩, hlen⟩, hok1⟩, hok2⟩ := hok
    refine ⟨fun h0 => (by rw [h0] at hc; cases hc), fun k hk => ?_⟩
    rw [hc] at hk
    simp only [List.mem_cons, List.not_mem_nil, or_false] at hk
    rcases hk with rfl | rfl
    · exact wpOp_mono (fun a' w' h' => ⟨fun _ => h'.1, fun h => (by rw [hi] at h; cases h), ih1 _ _ _ (by simpa using hsz) hok1 h'.1 h'.2⟩) h.1
    · rw [hlen]
      exact wpOp_mono (fun a' w' h' => ⟨fun _ => h'.1, fun h => (by rw [hj] at h; cases h), ih2 _ _ _ (by simpa using hsz) hok2 h'.1 h'.2⟩) h.2
  | three i t j u k v ih1 ih2 ih3 =>
    intro listed a w hsz hok hS h
    rw [show (PTree.three i t j u k v).len + (ops.size - n) = (t.len + (ops.size - n)) + 1 from by simp only [PTree.len]; omega]
    simp only [treeOk, Bool.and_eq_true, decide_eq_true_eq] at hok
    obtain ⟨⟨⟨⟨⟨⟨⟨⟨hc, hi⟩, hj⟩, hk⟩, hl1⟩, hl2⟩, hok1⟩, hok2⟩, hok3⟩ := hok
    refine ⟨fun h0 => (by rw [h0] at hc; cases hc), fun m hm => ?_⟩
    rw [hc] at hm
    simp only [List.mem_cons, List.not_mem_nil, or_false] at hm
    rcases hm with rfl | rfl | rfl
    · exact wpOp_mono (fun a' w' h' => ⟨fun _ => h'.1, fun h => (by rw [hi] at h; cases h), ih1 _ _ _ (by simpa using hsz) hok1 h'.1 h'.2⟩) h.1
    · rw [hl1]
      exact wpOp_mono (fun a' w' h' => ⟨fun _ => h'.1, fun h => (by rw [hj] at h; cases h), ih2 _ _ _ (by simpa using hsz) hok2 h'.1 h'.2⟩) h.2.1
    · rw [hl2]
      exact wpOp_mono (fun a' w' h' => ⟨fun _ => h'.1, fun h => (by rw [hk] at h; cases h), ih3 _ _ _ (by simpa using hsz) hok3 h'.1 h'.2⟩) h.2.2

def treeAll (ops : Array Oper) (kd : Nat → Way) (n : Nat) (t : PTree) : Bool :=
  Region.noSelect ops && decide (n ≤ ops.size) && decide (t.len = n) && treeOk ops kd n t (Array.replicate ops.size false)

/-- The law. -/
theorem wp_drawT {id : Nat} {a : Act} {w : World} (S : World → Prop) (kd : Nat → Way) (t : PTree) (n : Nat) (hm : P.follows .mixedOrders = true) (hok : treeAll ops kd n t = true)
    (hQ : ∀ c (a : Act) (d : Nat) v w, Q (.panic c) { a with tmps := a.tmps.setIfInBounds d v } w → Q (.panic c) a w)
    (h : S w.drew ∧ wpTree P ops Q S n t a w.drew) : (Code.region id ops true).wp P Q a w := by
  unfold treeAll at hok
  simp only [Bool.and_eq_true, decide_eq_true_eq] at hok
  obtain ⟨⟨⟨hsel, hn⟩, hlen⟩, hok⟩ := hok
  refine wp_region_any hm ?_
  have := wpX_tree (P := P) (Q := Q) (S := S) (kd := kd) hsel hQ t (Array.replicate ops.size false) a w.drew (by simp) hok h.1 h.2
  rw [hlen, show n + (ops.size - n) = ops.size from by omega] at this
  exact wpAny_of_X _ _ _ _ this

variable {t u v : PTree} {i j k : Nat} {o : Oper} {a : Act} {w : World}
theorem wpTree_held {x : Value} (ho : ops[i]? = some o) (hw : Region.wanted o (yielded ops a.tmps) = true) (hv : ∀ w', S w' → (execOp a.eval o).run P w' = .ok (.value x) w')
    (h : wpTree P ops Q S n t (a.put o.dst x) w) : wpTree P ops Q S n (.soft .held i t) a w := ⟨o, x, ho, .inl ⟨hw, hv⟩, h⟩
theorem wpTree_free {x : Value} (ho : ops[i]? = some o) (hw : Region.wanted o (yielded ops a.tmps) = true) (hv : ∀ w', (execOp a.eval o).run P w' = .ok (.value x) w')
    (h : wpTree P ops Q S n t (a.put o.dst x) w) : wpTree P ops Q S n (.soft .free i t) a w := ⟨o, x, ho, .inl ⟨hw, fun w' _ => hv w'⟩, h⟩
theorem wpTree_skip (ho : ops[i]? = some o) (hw : Region.wanted o (yielded ops a.tmps) = false)
    (h : wpTree P ops Q S n t (a.put o.dst undef) w) : wpTree P ops Q S n (.soft .free i t) a w := ⟨o, undef, ho, .inr ⟨hw, rfl⟩, h⟩
theorem wpTree_skipHeld (ho : ops[i]? = some o) (hw : Region.wanted o (yielded ops a.tmps) = false)
    (h : wpTree P ops Q S n t (a.put o.dst undef) w) : wpTree P ops Q S n (.soft .held i t) a w := ⟨o, undef, ho, .inr ⟨hw, rfl⟩, h⟩
theorem wpTree_one (ho : ops[i]? = some o)
    (h : ∀ K : Act → World → Prop, (∀ a w, S w ∧ wpTree P ops Q S n t a w → K a w) → if Region.wanted o (yielded ops a.tmps) = true then Oper.wp P o a w K Q else K (a.put o.dst undef) w) :
    wpTree P ops Q S n (.one i t) a w := wpOp_step ho h
theorem wpTree_two (h1 : wpTree P ops Q S n (.one i t) a w) (h2 : wpTree P ops Q S n (.one j u) a w) : wpTree P ops Q S n (.two i t j u) a w := ⟨h1, h2⟩
theorem wpTree_three (h1 : wpTree P ops Q S n (.one i t) a w) (h2 : wpTree P ops Q S n (.one j u) a w) (h3 : wpTree P ops Q S n (.one k v) a w) : wpTree P ops Q S n (.three i t j u k v) a w := ⟨h1, h2, h3⟩
theorem wpTree_leaf (h : wpList P ops Q (ops.toList.drop n) a w) : wpTree P ops Q S n .leaf a w := h
end
#print axioms wp_drawT
end Go.Proofs.Ytplhcfaonhkegaa
