/-
  Locality: there is an order of all just if there is one of each key's own. The plain law.
  A range over a function whose body goes on, by the laws of the loop's record.
  slices.IndexFunc and slices.ContainsFunc over what happened, with the closures of Parts and keys; the parts, as plain functions.
  The keys of a history, each with its places: the iterator, walked.
  Parts, walked.
  Linear, walked.
  All is linearizable just if each part is: the plain law.
  The law of locality, walked.
-/
import Derived.Test.YtplhcfaonhkegaaLC
import Derived.Test.YtplhcfaonhkegaaM0b
import Derived.RangeFuncNested
import Derived.RangeFuncBound
import Derived.RangeFuncCalls
import Derived.RangeFuncLeaves
import Derived.OwnWalkIn
import Derived.TacticsInMore
import Derived.LoopNIn
import Derived.LoopIn
import Derived.Test.YtplhcfaonhkegaaA
import Derived.Test.YtplhcfaonhkegaaH3
import Derived.Test.YtplhcfaonhkegaaLA
import Derived.Test.YtplhcfaonhkegaaH11
import Derived.Test.YtplhcfaonhkegaaLB
namespace Go.Proofs.Ytplhcfaonhkegaa
open Go.RowKit

/-- One key's step. -/
def kTell (c : MCall) (o : Option (List UInt8)) : MRes := if c.1 = 1 ∨ c.1 = 2 then mTold c o else (match o with | none => mErr 101 | some v => (0, c.2.1, v, [], r0, r0, true))
def kPut (c : MCall) (o : Option (List UInt8)) : Option (List UInt8) := if c.1 = 1 ∨ c.1 = 2 then mPut c o else o
def kAll : Option (List UInt8) → List MHap → Bool
  | _, [] => true
  | o, x :: xs => decide (hSure x = true → kTell x.1 o = x.2.1) && kAll (kPut x.1 o) xs
/-- A call of one key. -/
def kOne (x : MHap) : Prop := (x.1.1 = 1 ∨ x.1.1 = 2 ∨ x.1.1 = 3) ∧ mCallOk x.1 = true
theorem mBetween_head (k : Int) : ∀ l : List MItem, (mBetween k k l).head? = (mKey k l).map fun v => (k, v)
  | [] => rfl
  | y :: l => by
    rw [mBetween, mKey]
    by_cases h : y.1 = k
    · rw [if_pos ⟨by omega, by omega⟩, if_pos h]
      obtain ⟨a, b⟩ := y
      simp only at h
      subst h
      rfl
    · rw [if_neg (by omega), if_neg h]
      exact mBetween_head k l
theorem kTell_of {c : MCall} (h : c.1 = 1 ∨ c.1 = 2 ∨ c.1 = 3) (l : List MItem) : (mDone l c).2 = kTell c (mKey c.2.1 l) := by
  unfold kTell
  by_cases h2 : c.1 = 1 ∨ c.1 = 2
  · rw [if_pos h2, mDone_told h2]
  · have h3 : c.1 = 3 := by omega
    rw [if_neg h2]
    unfold mDone
    rw [if_neg (by omega), if_neg (by omega)]
    have hh : mHigh c = c.2.1 := by unfold mHigh; rw [if_neg (by omega), if_neg (by omega)]
    have hb := mBetween_head c.2.1 l
    unfold mAsked
    rw [if_neg (by omega), hh]
    cases hm : mBetween c.2.1 c.2.1 l with
    | nil =>
      rw [hm] at hb
      cases hk : mKey c.2.1 l with
      | none => rfl
      | some v => rw [hk] at hb; cases hb
    | cons y ys =>
      rw [hm] at hb
      cases hk : mKey c.2.1 l with
      | none => rw [hk] at hb; cases hb
      | some v =>
        rw [hk] at hb
        simp only [List.head?_cons, Option.map_some, Option.some.injEq] at hb
        subst hb
        rfl
theorem kPut_of {c : MCall} (h : c.1 = 1 ∨ c.1 = 2 ∨ c.1 = 3) (l : List MItem) (k : Int) : mKey k (mDone l c).1 = if c.2.1 = k then kPut c (mKey k l) else mKey k l := by
  unfold kPut
  by_cases h2 : c.1 = 1 ∨ c.1 = 2
  · rw [if_pos h2, mDone_key h2]
  · rw [if_neg h2, mDone_reads (by unfold mWrites; simp; omega), ite_self]
def kHas (K : Int) (x : MHap) : Bool := decide (x.1.2.1 = K)
theorem all_keys : ∀ (xs : List MHap) (m : List MItem), (∀ x ∈ xs, kOne x) → mOk none m = true → ((lAll m xs).isSome = true ↔ ∀ K, kAll (mKey K m) (xs.filter (kHas K)) = true)
  | [], m, _, _ => by simp [lAll, kAll]
  | x :: xs, m, hx, hm => by
    obtain ⟨h1, h2⟩ := hx x (by simp)
    have hm' := mDone_ok (c := x.1) hm h2
    have IH := all_keys xs (mDone m x.1).1 (fun y hy => hx y (by simp [hy])) hm'
    have hrest : ∀ K, (kHas K x = true → kPut x.1 (mKey K m) = mKey K (mDone m x.1).1) ∧ (kHas K x = false → mKey K m = mKey K (mDone m x.1).1) := fun K => by
      have e := kPut_of h1 m K
      unfold kHas
      constructor
      · intro h
        rw [e, if_pos (by simpa using h)]
      · intro h
        rw [e, if_neg (by simpa using h)]
    rw [lAll]
    constructor
    · intro h K
      cases ha : lAfter m x with
      | none => rw [ha] at h; cases h
      | some n =>
        rw [ha] at h
        obtain ⟨_, _, rfl, h4⟩ := lAfter_some ha
        have g := IH.1 h K
        rw [List.filter_cons]
        by_cases hk : kHas K x = true
        · rw [if_pos hk, kAll, (hrest K).1 hk, g, Bool.and_true]
          have hK : x.1.2.1 = K := by simpa [kHas] using hk
          rw [decide_eq_true_eq, ← hK, ← kTell_of h1]
          exact h4
        · rw [if_neg hk, (hrest K).2 (by simpa using hk)]
          exact g
    · intro h
      have hs : hSure x = true → (mDone m x.1).2 = x.2.1 := by
        have g := h x.1.2.1
        have hk : kHas x.1.2.1 x = true := by simp [kHas]
        rw [List.filter_cons, if_pos hk, kAll, Bool.and_eq_true, decide_eq_true_eq] at g
        rw [kTell_of h1]
        exact g.1
      rw [lAfter_of hm h2 hs]
      refine IH.2 fun K => ?_
      have g := h K
      rw [List.filter_cons] at g
      by_cases hk : kHas K x = true
      · rw [if_pos hk, kAll, Bool.and_eq_true, (hrest K).1 hk] at g
        exact g.2
      · rw [if_neg hk, (hrest K).2 (by simpa using hk)] at g
        exact g

/-- One is over ahead of another, by places. -/
def lAh (l : List MHap) (i j : Nat) : Prop := ∃ x y, l[i]? = some x ∧ l[j]? = some y ∧ hAhead x y = true
theorem pw_ah {l : List MHap} {ps : List Nat} : (ps.Pairwise fun i j => ∀ x y, l[i]? = some x → l[j]? = some y → hAhead y x = false) ↔ ps.Pairwise fun i j => ¬ lAh l j i := by
  constructor
  · refine List.Pairwise.imp ?_
    rintro i j h ⟨x, y, hx, hy, ha⟩
    rw [h y x hy hx] at ha
    cases ha
  · refine List.Pairwise.imp ?_
    intro i j h x y hx hy
    cases hq : hAhead y x with
    | false => rfl
    | true => exact absurd ⟨y, x, hy, hx, hq⟩ h
theorem lAh_cross {l : List MHap} {r x s y : Nat} (h1 : lAh l r x) (h2 : lAh l s y) (h3 : ¬ lAh l r y) (h4 : ¬ lAh l s x) : False := by
  obtain ⟨a, b, ha, hb, hab⟩ := h1
  obtain ⟨c, d, hc, hd, hcd⟩ := h2
  have g3 : hAhead a d = false := by
    cases hq : hAhead a d with
    | false => rfl
    | true => exact absurd ⟨a, d, ha, hd, hq⟩ h3
  have g4 : hAhead c b = false := by
    cases hq : hAhead c b with
    | false => rfl
    | true => exact absurd ⟨c, b, hc, hb, hq⟩ h4
  unfold hAhead at hab hcd g3 g4
  simp only [Bool.and_eq_true, Bool.not_eq_true', decide_eq_true_eq] at hab hcd
  rw [hab.1] at g3
  rw [hcd.1] at g4
  simp only [Bool.not_false, Bool.true_and, decide_eq_false_iff_not] at g3 g4
  omega
theorem merge2 {l : List MHap} : ∀ (a b : List Nat), (a.Pairwise fun i j => ¬ lAh l j i) → (b.Pairwise fun i j => ¬ lAh l j i) → (∀ i, i ∈ a ∨ i ∈ b → ¬ lAh l i i) →
    ∃ c : List Nat, c.Perm (a ++ b) ∧ (c.Pairwise fun i j => ¬ lAh l j i) ∧ (∀ p : Nat → Bool, (∀ i ∈ b, p i = false) → c.filter p = a.filter p) ∧ (∀ p : Nat → Bool, (∀ i ∈ a, p i = false) → c.filter p = b.filter p)
  | [], b, _, hb, _ => ⟨b, by simp, hb, fun p hp => by rw [List.filter_nil, List.filter_eq_nil_iff]; intro i hi; rw [hp i hi]; simp, fun _ _ => rfl⟩
  | x :: a, [], ha, _, _ => ⟨x :: a, by simp, ha, fun _ _ => rfl, fun p hp => by rw [List.filter_nil, List.filter_eq_nil_iff]; intro i hi; rw [hp i hi]; simp⟩
  | x :: a, y :: b, ha, hb, hi => by
    obtain ⟨a1, a2⟩ := List.pairwise_cons.1 ha
    obtain ⟨b1, b2⟩ := List.pairwise_cons.1 hb
    by_cases hx : ∃ r ∈ y :: b, lAh l r x
    · obtain ⟨r, hr, hrx⟩ := hx
      have hry : ¬ lAh l r y := by
        rcases List.mem_cons.1 hr with rfl | hr
        · exact hi _ (by simp)
        · exact b1 r hr
      have hsy : ∀ s ∈ x :: a, ¬ lAh l s y := fun s hs hsy => lAh_cross hrx hsy hry (by
        rcases List.mem_cons.1 hs with rfl | hs
        · exact hi _ (by simp)
        · exact a1 s hs)
      obtain ⟨c, c1, c2, c3, c4⟩ := merge2 (x :: a) b ha b2 (fun i h => hi i (h.imp id fun h => by simp [h]))
      refine ⟨y :: c, ?_, ?_, ?_, ?_⟩
      · exact (c1.cons y).trans List.perm_middle.symm
      · refine List.pairwise_cons.2 ⟨fun j hj => ?_, c2⟩
        rcases List.mem_append.1 (c1.mem_iff.1 hj) with h | h
        · exact hsy j h
        · exact b1 j h
      · intro p hp
        rw [List.filter_cons, if_neg (by rw [hp y (by simp)]; simp)]
        exact c3 p fun i h => hp i (by simp [h])
      · intro p hp
        rw [List.filter_cons, List.filter_cons, c4 p hp]
    · have hx' : ∀ r ∈ y :: b, ¬ lAh l r x := fun r hr h => hx ⟨r, hr, h⟩
      obtain ⟨c, c1, c2, c3, c4⟩ := merge2 a (y :: b) a2 hb (fun i h => hi i (h.imp (fun h => by simp [h]) id))
      refine ⟨x :: c, ?_, ?_, ?_, ?_⟩
      · exact c1.cons x
      · refine List.pairwise_cons.2 ⟨fun j hj => ?_, c2⟩
        rcases List.mem_append.1 (c1.mem_iff.1 hj) with h | h
        · exact a1 j h
        · exact hx' j h
      · intro p hp
        rw [List.filter_cons, List.filter_cons, c3 p hp]
      · intro p hp
        rw [List.filter_cons, if_neg (by rw [hp x (by simp)]; simp)]
        exact c4 p fun i h => hp i (by simp [h])
termination_by a b => a.length + b.length

/-- An order of one key's own. -/
structure OrdK (l : List MHap) (K : Int) (q : List Nat) : Prop where
  mem : ∀ i ∈ q, ∃ x, l[i]? = some x ∧ x.1.2.1 = K
  nd : q.Nodup
  pw : q.Pairwise fun i j => ¬ lAh l j i
  must : ∀ k x, l[k]? = some x → x.1.2.1 = K → hSure x = true → k ∈ q
  run : kAll none (lPick l q) = true
def kAt (l : List MHap) (K : Int) (i : Nat) : Bool := match l[i]? with | none => false | some x => kHas K x
theorem kAt_iff {l : List MHap} {K : Int} {i : Nat} : kAt l K i = true ↔ ∃ x, l[i]? = some x ∧ x.1.2.1 = K := by
  unfold kAt
  cases l[i]? with
  | none => simp
  | some x => simp [kHas]
theorem pick_filter {l : List MHap} {K : Int} : ∀ q : List Nat, (lPick l q).filter (kHas K) = lPick l (q.filter (kAt l K))
  | [] => rfl
  | i :: q => by
    have IH := pick_filter (l := l) (K := K) q
    unfold lPick at IH ⊢
    rw [List.filterMap_cons, List.filter_cons]
    cases hx : l[i]? with
    | none =>
      rw [if_neg (by unfold kAt; rw [hx]; simp)]
      exact IH
    | some x =>
      simp only
      rw [List.filter_cons]
      by_cases hk : kHas K x = true
      · rw [if_pos hk, if_pos (by unfold kAt; rw [hx]; exact hk), List.filterMap_cons, hx, IH]
      · rw [if_neg hk, if_neg (by unfold kAt; rw [hx]; exact hk), IH]
theorem pick_mem {l : List MHap} {q : List Nat} {x : MHap} (h : x ∈ lPick l q) : ∃ i ∈ q, l[i]? = some x := List.mem_filterMap.1 h
theorem key_of_all {l : List MHap} {ps : List Nat} (hone : ∀ x ∈ l, kOne x) (h : Ord l ps) (K : Int) : OrdK l K (ps.filter (kAt l K)) := by
  refine ⟨fun i hi => kAt_iff.1 (List.mem_filter.1 hi).2, h.nd.filter _, (pw_ah.1 h.pw).filter _, fun k x hx hk hs => List.mem_filter.2 ⟨h.must k x hx hs, kAt_iff.2 ⟨x, hx, hk⟩⟩, ?_⟩
  rw [← pick_filter]
  exact (all_keys _ [] (fun x hx => by
    obtain ⟨i, _, hi⟩ := pick_mem hx
    exact hone x (List.mem_of_getElem? hi)) rfl).1 h.run K
theorem merge_keys {l : List MHap} (hv : ∀ x ∈ l, hAhead x x = false) (q : Int → List Nat) (hq : ∀ K, OrdK l K (q K)) : ∀ ks : List Int, ∃ c : List Nat, (∀ i ∈ c, ∃ x, l[i]? = some x ∧ x.1.2.1 ∈ ks) ∧ c.Nodup ∧ (c.Pairwise fun i j => ¬ lAh l j i) ∧ ∀ K ∈ ks, c.filter (kAt l K) = q K
  | [] => ⟨[], by simp, by simp, by simp, by simp⟩
  | K :: ks => by
    obtain ⟨c, c1, c2, c3, c4⟩ := merge_keys hv q hq ks
    by_cases hin : K ∈ ks
    · exact ⟨c, fun i hi => by obtain ⟨x, h1, h2⟩ := c1 i hi; exact ⟨x, h1, by simp [h2]⟩, c2, c3, fun K' hK' => by
        rcases List.mem_cons.1 hK' with rfl | h
        · exact c4 _ hin
        · exact c4 _ h⟩
    · have hQ := hq K
      have hirr : ∀ i, i ∈ q K ∨ i ∈ c → ¬ lAh l i i := by
        rintro i _ ⟨x, y, hx, hy, ha⟩
        rw [hx] at hy
        cases hy
        rw [hv x (List.mem_of_getElem? hx)] at ha
        cases ha
      have hdis : ∀ i ∈ q K, ∀ j ∈ c, i ≠ j := by
        rintro i hi j hj rfl
        obtain ⟨x, hx, e⟩ := hQ.mem i hi
        obtain ⟨y, hy, e2⟩ := c1 i hj
        rw [hx] at hy
        cases hy
        exact hin (e ▸ e2)
      obtain ⟨d, d1, d2, d3, d4⟩ := merge2 (q K) c hQ.pw c3 hirr
      refine ⟨d, fun i hi => ?_, d1.nodup_iff.2 (List.nodup_append.2 ⟨hQ.nd, c2, hdis⟩), d2, fun K' hK' => ?_⟩
      · rcases List.mem_append.1 (d1.mem_iff.1 hi) with h | h
        · obtain ⟨x, hx, e⟩ := hQ.mem i h
          exact ⟨x, hx, by simp [e]⟩
        · obtain ⟨x, hx, e⟩ := c1 i h
          exact ⟨x, hx, by simp [e]⟩
      · by_cases e : K' = K
        · subst e
          rw [d3 _ fun i hi => ?_, List.filter_eq_self]
          · intro i hi
            exact kAt_iff.2 (hQ.mem i hi)
          · obtain ⟨x, hx, h⟩ := c1 i hi
            cases hk : kAt l K' i with
            | false => rfl
            | true =>
              obtain ⟨y, hy, e⟩ := kAt_iff.1 hk
              rw [hx] at hy
              cases hy
              exact absurd (e ▸ h) hin
        · rw [d4 _ fun i hi => ?_]
          · rcases List.mem_cons.1 hK' with h | h
            · exact absurd h e
            · exact c4 _ h
          · obtain ⟨x, hx, h⟩ := hQ.mem i hi
            cases hk : kAt l K' i with
            | false => rfl
            | true =>
              obtain ⟨y, hy, e2⟩ := kAt_iff.1 hk
              rw [hx] at hy
              cases hy
              exact absurd (e2.symm.trans h) e
/-- Locality. -/
theorem all_of_keys {l : List MHap} (hone : ∀ x ∈ l, kOne x) (hv : ∀ x ∈ l, hAhead x x = false) (h : ∀ K, ∃ q, OrdK l K q) : ∃ ps, Ord l ps := by
  obtain ⟨q, hq⟩ := Classical.axiomOfChoice h
  obtain ⟨c, c1, c2, c3, c4⟩ := merge_keys hv q hq (l.map fun x => x.1.2.1)
  have hkey : ∀ (k : Nat) (x : MHap), l[k]? = some x → x.1.2.1 ∈ l.map (fun x => x.1.2.1) := fun k x hx => List.mem_map.2 ⟨x, List.mem_of_getElem? hx, rfl⟩
  refine ⟨c, fun i hi => ?_, c2, pw_ah.2 c3, fun k x hx hs => ?_, ?_⟩
  · obtain ⟨x, hx, _⟩ := c1 i hi
    exact (List.getElem?_eq_some_iff.1 hx).1
  · have h1 := (hq x.1.2.1).must k x hx rfl hs
    rw [← c4 _ (hkey k x hx)] at h1
    exact (List.mem_filter.1 h1).1
  · refine (all_keys _ [] (fun x hx => by
      obtain ⟨i, _, hi⟩ := pick_mem hx
      exact hone x (List.mem_of_getElem? hi)) rfl).2 fun K => ?_
    rw [pick_filter]
    by_cases hK : K ∈ l.map fun x => x.1.2.1
    · rw [c4 K hK]
      exact (hq K).run
    · have e : c.filter (kAt l K) = [] := List.filter_eq_nil_iff.2 fun i hi hk => by
        obtain ⟨x, hx, e⟩ := kAt_iff.1 hk
        exact hK (e ▸ hkey i x hx)
      rw [e]
      rfl
/-- A row of places, and its orders. -/
theorem pick_get {l : List MHap} : ∀ {P : List Nat}, (∀ p ∈ P, p < l.length) → ∀ k : Nat, (lPick l P)[k]? = P[k]?.bind fun i => l[i]?
  | [], _, k => by simp [lPick]
  | p :: P, h, k => by
    rw [lPick_cons (h p (by simp))]
    cases k with
    | zero => simp [List.getElem?_eq_getElem (h p (by simp))]
    | succ k => simpa using pick_get (fun q hq => h q (by simp [hq])) k
theorem pick_pick {l : List MHap} {P : List Nat} (hP : ∀ p ∈ P, p < l.length) : ∀ {qs q : List Nat}, qs.map (fun k => P[k]?) = q.map some → lPick (lPick l P) qs = lPick l q
  | [], [], _ => rfl
  | [], _ :: _, e => by simp at e
  | _ :: _, [], e => by simp at e
  | k :: qs, i :: q, e => by
    simp only [List.map_cons, List.cons.injEq] at e
    have IH := pick_pick hP e.2
    unfold lPick at IH ⊢
    rw [List.filterMap_cons, List.filterMap_cons]
    have e1 := pick_get hP k
    unfold lPick at e1
    rw [e1, e.1, Option.bind_some, IH]
theorem pw_move {P : List Nat} {R : Nat → Nat → Prop} {qs q : List Nat} (e : qs.map (fun k => P[k]?) = q.map some) : (qs.Pairwise fun a b => ∀ i j, P[a]? = some i → P[b]? = some j → R i j) ↔ q.Pairwise R := by
  have h1 : (q.map some).Pairwise (fun a b => ∀ i j, a = some i → b = some j → R i j) ↔ q.Pairwise R := by
    rw [List.pairwise_map]
    constructor
    · exact List.Pairwise.imp fun h => h _ _ rfl rfl
    · refine List.Pairwise.imp ?_
      intro a b h i j hi hj
      cases hi
      cases hj
      exact h
  rw [← h1, ← e, List.pairwise_map]
theorem part_iff {l : List MHap} {P : List Nat} {K : Int} (hone : ∀ x ∈ l, kOne x) (hnd : P.Nodup) (hP : ∀ k, k ∈ P ↔ ∃ x, l[k]? = some x ∧ x.1.2.1 = K) {qs q : List Nat} (e : qs.map (fun k => P[k]?) = q.map some) : Ord (lPick l P) qs ↔ OrdK l K q := by
  have hlt : ∀ p ∈ P, p < l.length := fun p hp => by
    obtain ⟨x, hx, _⟩ := (hP p).1 hp
    exact (List.getElem?_eq_some_iff.1 hx).1
  have hget := pick_get hlt
  have hlen : (lPick l P).length = P.length := by
    have : ∀ Q : List Nat, (∀ p ∈ Q, p < l.length) → (lPick l Q).length = Q.length := fun Q => by
      induction Q with
      | nil => intro _; rfl
      | cons p Q ih => intro h; rw [lPick_cons (h p (by simp)), List.length_cons, List.length_cons, ih fun r hr => h r (by simp [hr])]
    exact this P hlt
  have hinj : ∀ {a b i : Nat}, P[a]? = some i → P[b]? = some i → a = b := fun {a b i} ha hb => by
    obtain ⟨h1, e1⟩ := List.getElem?_eq_some_iff.1 ha
    obtain ⟨h2, e2⟩ := List.getElem?_eq_some_iff.1 hb
    rcases Nat.lt_trichotomy a b with h | h | h
    · exact absurd (e1.trans e2.symm) (List.pairwise_iff_getElem.1 hnd a b h1 h2 h)
    · exact h
    · exact absurd (e2.trans e1.symm) (List.pairwise_iff_getElem.1 hnd b a h2 h1 h)
  have hto : ∀ {k : Nat}, k ∈ qs → ∃ i, i ∈ q ∧ P[k]? = some i := fun {k} hk => by
    have : P[k]? ∈ q.map some := by rw [← e]; exact List.mem_map.2 ⟨k, hk, rfl⟩
    obtain ⟨i, hi, h⟩ := List.mem_map.1 this
    exact ⟨i, hi, h.symm⟩
  have hfrom : ∀ {i : Nat}, i ∈ q → ∃ k, k ∈ qs ∧ P[k]? = some i := fun {i} hi => by
    have : some i ∈ qs.map (fun k => P[k]?) := by rw [e]; exact List.mem_map.2 ⟨i, hi, rfl⟩
    obtain ⟨k, hk, h⟩ := List.mem_map.1 this
    exact ⟨k, hk, h⟩
  have hrun : ((lAll [] (lPick (lPick l P) qs)).isSome = true ↔ kAll none (lPick l q) = true) := by
    rw [pick_pick hlt e]
    have hkey : ∀ x ∈ lPick l q, x ∈ l ∧ x.1.2.1 = K := fun x hx => by
      obtain ⟨i, hi, hx⟩ := pick_mem hx
      obtain ⟨k, hk, hPk⟩ := hfrom hi
      obtain ⟨y, hy, ey⟩ := (hP i).1 (List.mem_of_getElem? hPk)
      rw [hx] at hy
      cases hy
      exact ⟨List.mem_of_getElem? hx, ey⟩
    rw [all_keys _ [] (fun x hx => hone x (hkey x hx).1) rfl]
    constructor
    · intro h
      have g := h K
      rw [List.filter_eq_self.2 fun x hx => by simp [kHas, (hkey x hx).2]] at g
      exact g
    · intro h K'
      by_cases eK : K' = K
      · subst eK
        rw [List.filter_eq_self.2 fun x hx => by simp [kHas, (hkey x hx).2]]
        exact h
      · rw [List.filter_eq_nil_iff.2 fun x hx hk => by
          have := (hkey x hx).2
          simp only [kHas, decide_eq_true_eq] at hk
          exact eK (hk.symm.trans this)]
        rfl
  have hpw : (qs.Pairwise fun a b => ¬ lAh (lPick l P) b a) ↔ q.Pairwise fun i j => ¬ lAh l j i := by
    rw [← pw_move e]
    constructor
    · refine List.Pairwise.imp ?_
      rintro a b h i j hi hj ⟨x, y, hx, hy, ha⟩
      exact h ⟨x, y, by rw [hget, hj]; exact hx, by rw [hget, hi]; exact hy, ha⟩
    · refine List.Pairwise.imp ?_
      rintro a b h ⟨x, y, hx, hy, ha⟩
      rw [hget] at hx hy
      obtain ⟨j, hj, hx⟩ := Option.bind_eq_some_iff.1 hx
      obtain ⟨i, hi, hy⟩ := Option.bind_eq_some_iff.1 hy
      exact h i j hi hj ⟨x, y, hx, hy, ha⟩
  have hndq : qs.Nodup ↔ q.Nodup := by
    unfold List.Nodup
    rw [← pw_move (R := fun a b => a ≠ b) e]
    constructor
    · intro h
      refine h.imp ?_
      rintro a b hab i j hi hj rfl
      exact hab (hinj hi hj)
    · intro h
      refine h.imp_of_mem ?_
      rintro a b ha hb hab rfl
      obtain ⟨i, _, hi⟩ := hto ha
      exact hab i i hi hi rfl
  constructor
  · intro h
    refine ⟨fun i hi => ?_, hndq.1 h.nd, hpw.1 (pw_ah.1 h.pw), fun k x hx hk hs => ?_, hrun.1 h.run⟩
    · obtain ⟨k, _, hPk⟩ := hfrom hi
      exact (hP i).1 (List.mem_of_getElem? hPk)
    · obtain ⟨a, ha⟩ := List.getElem?_of_mem ((hP k).2 ⟨x, hx, hk⟩)
      have h1 := h.must a x (by rw [hget, ha]; exact hx) hs
      obtain ⟨i, hi, hai⟩ := hto h1
      rw [ha] at hai
      cases hai
      exact hi
  · intro h
    refine ⟨fun k hk => ?_, hndq.2 h.nd, pw_ah.2 (hpw.2 h.pw), fun k x hx hs => ?_, hrun.2 h.run⟩
    · obtain ⟨i, _, hi⟩ := hto hk
      rw [hlen]
      exact (List.getElem?_eq_some_iff.1 hi).1
    · rw [hget] at hx
      obtain ⟨i, hi, hx⟩ := Option.bind_eq_some_iff.1 hx
      obtain ⟨y, hy, hK⟩ := (hP i).1 (List.mem_of_getElem? hi)
      rw [hx] at hy
      cases hy
      obtain ⟨a, ha, hai⟩ := hfrom (h.must i x hx hK hs)
      rw [hinj hi hai]
      exact ha
theorem part_to {P : List Nat} : ∀ {q : List Nat}, (∀ i ∈ q, i ∈ P) → ∃ qs : List Nat, qs.map (fun k => P[k]?) = q.map some
  | [], _ => ⟨[], rfl⟩
  | i :: q, h => by
    obtain ⟨k, hk⟩ := List.getElem?_of_mem (h i (by simp))
    obtain ⟨qs, e⟩ := part_to (q := q) fun j hj => h j (by simp [hj])
    exact ⟨k :: qs, by simp [hk, e]⟩
theorem part_from {P : List Nat} : ∀ {qs : List Nat}, (∀ k ∈ qs, k < P.length) → ∃ q : List Nat, qs.map (fun k => P[k]?) = q.map some
  | [], _ => ⟨[], rfl⟩
  | k :: qs, h => by
    obtain ⟨q, e⟩ := part_from (qs := qs) fun j hj => h j (by simp [hj])
    exact ⟨P[k]'(h k (by simp)) :: q, by simp [e, List.getElem?_eq_getElem (h k (by simp))]⟩
end Go.Proofs.Ytplhcfaonhkegaa

namespace Go.Proofs.Ytplhcfaonhkegaa
open Go.RowKit

/-- The record of a loop. -/
def loopRec (fn : FuncId) (tmps : Array Value) (ps : Array Tmp) (assign body : Code) (D : Nat) (st : LoopState) : Loop := { state := st, pending := none, fn := fn, tmps := tmps, params := ps, assign := assign, body := body, defers := D }
section
variable {P : Program} {n : Nat}
theorem wp_range {g : Operand} {ps : Array Tmp} {assign body : Code} {Q : Exit → Act → World → Prop} {a : Act} {w : World} {gf : Nat} {lb : Array Value}
    (hg : a.eval g = .func (.func gf) #[] lb) (eg : ∀ args w, (callFunc gf args).run P w = .ok (.enter gf args) w) (Rest : World → Prop)
    (h : ∀ fn, Calls P gf (#[.func (.yield (w.heap.size + 1)) #[] #[]] ++ lb) ((w.alloc (.deferred (some []))).alloc (.loop (loopRec fn a.tmps ps assign body w.heap.size .ready))) fun e W => (∃ v, e = .returned v) ∧ W.heap[w.heap.size + 1]? = some (.loop (loopRec fn a.tmps ps assign body w.heap.size .ready)) ∧ Rest W)
    (hdone : ∀ fn W, W.heap[w.heap.size + 1]? = some (.loop (loopRec fn a.tmps ps assign body w.heap.size .ready)) → Rest W → Q .normal { a with defers := { target := .collected w.heap.size, args := #[] } :: a.defers } (W.putObj (w.heap.size + 1) (.loop (loopRec fn a.tmps ps assign body w.heap.size .exhausted)))) :
    (Code.rangeFunc g ps assign body).wp P Q a w := by
  refine (wpIn_wide (n := 3)).1 (wpIn_rangeFunc ?_)
  intro fn _
  have hW := h fn
  obtain ⟨W1, hW1⟩ : ∃ W1, (w.alloc (.deferred (some []))).alloc (.loop (loopRec fn a.tmps ps assign body w.heap.size .ready)) = W1 := ⟨_, rfl⟩
  rw [hW1] at hW
  refine ⟨w.heap.size + 1, [{ target := .collected w.heap.size, args := #[] }], W1, { target := .fn (.func gf) lb, args := #[.func (.yield (w.heap.size + 1)) #[] #[]] }, W1, gf,
    #[.func (.yield (w.heap.size + 1)) #[] #[]] ++ lb, W1, ?_, ?_, fun _ _ => trivial, ?_, fun _ => by omega, ?_⟩
  · rw [← hW1]; exact run_enterLoop_outer _ _ _ _ _
  · simp only [resolve, hg]
    simp [go_sem]
  · simp [invoke, go_sem, eg]
  · refine callsIn_wide.2 (hW.mono ?_)
    rintro e W ⟨⟨v, rfl⟩, hl, hr⟩
    exact ⟨none, _, run_endLoop hl (by simp [loopRec]), hdone fn W hl hr⟩
theorem calls_of_marks {f : FuncId} {fn : Func} {c : Code} {args : Array Value} {w : World} {R : Ending → World → Prop} (hf : P.funcs[f]? = some fn) (hb : fn.body = some c)
    (h : c.wp P (bodyPostM Fence.wide 3 P fn R) { tmps := args ++ Array.replicate (fn.ntmps - args.size) undef, defers := [] } w) : Calls P f args w R :=
  callsIn_wide.1 (callsIn_of_wp_marks hf hb trivial (wpIn_wide.2 h))
theorem marks_ret0 {fn : Func} {R : Ending → World → Prop} {a : Act} {w : World} {v : Value} (hd : a.defers = []) (hr : (results fn a.tmps).run P w = .ok v w) (h : R (.returned v) w) : bodyPostM Fence.wide 3 P fn R .ret a w := by
  show LeavesInM Fence.wide 3 P fn a.tmps R a.defers .returning w
  rw [hd]
  exact ⟨v, hr, h⟩
theorem marks_ret1 {fn : Func} {R : Ending → World → Prop} {a : Act} {w : World} {v : Value} {D : Nat} (hd : a.defers = [{ target := .collected D, args := #[] }]) (hk : w.heap[D]? = some (.deferred (some [])))
    (hr : (results fn a.tmps).run P (w.putObj D (.deferred none)) = .ok v (w.putObj D (.deferred none))) (h : R (.returned v) (w.putObj D (.deferred none))) : bodyPostM Fence.wide 3 P fn R .ret a w := by
  show LeavesInM Fence.wide 3 P fn a.tmps R a.defers .returning w
  rw [hd]
  exact ⟨by simp, .inl ⟨_, _, rfl, run_takeDeferred hk, v, hr, h⟩⟩
theorem yield_round {fn : FuncId} {tmps : Array Value} {ps : Array Tmp} {assign body : Code} {D l : Nat} {args : Array Value} {W : World}
    (hl : W.heap[l]? = some (.loop (loopRec fn tmps ps assign body D .ready))) (hs : args.size = ps.size) (Post : World → Prop)
    (hb : assign.wpIn (Fence.wide.inRound l) n P (Exit.then (fun a1 W1 => W1 = W ∧ body.wpIn (Fence.wide.inRound l) n P (fun e _ W3 => e = .normal ∧ W3.heap[l]? = some (.loop (loopRec fn tmps ps assign body D .busy)) ∧ Post (W3.putObj l (.loop (loopRec fn tmps ps assign body D .ready)))) a1 (W.putObj l (.loop (loopRec fn tmps ps assign body D .busy)))) (fun _ _ _ => False))
      { tmps := (ps.zip args).foldl (fun t (p, v) => t.setIfInBounds p v) tmps, defers := [] } W) :
    YieldAt Fence.wide n P l args W fun e W' => e = .returned (.bool true) ∧ Post W' := by
  refine ⟨fn, _, assign, body, run_yield hl hs, roundIn_of_wpIn trivial (Code.wpIn_mono ?_ hb)⟩
  rintro e a1 W1 h
  cases e with
  | normal =>
    obtain ⟨rfl, h⟩ := h
    refine ⟨_, run_beginRound hl rfl, Code.wpIn_mono ?_ h⟩
    rintro e a3 W3 ⟨rfl, h3, hp⟩
    exact ⟨_, _, run_endRound none h3, rfl, hp⟩
  | exit id => exact h.elim
  | goto t => exact h.elim
  | ret => exact h.elim
  | panic ch => exact h.elim
  | outgrown => exact h.elim
end
section
variable {P : Program} {w : World} {t e : TypeId} {sz bytes : Nat}
theorem wpListIn_append_g {F : Fence} {k : Nat} {ops : Array Oper} {rest : List Oper} {o : Oper} {a : Act} {Q : Exit → Act → World → Prop} (hgd : o.guard = none) (s x : Operand) (E : ElemInfo P t e sz bytes)
    (ho : o.op = .call { callee := .builtin .append, args := #[s, x], argTypes := #[t, t] })
    (v : Value) (n : Nat) (xs : List Value) (hs : a.eval s = v) (hown : GRow w e sz v n xs)
    (xv : Value) (m : Nat) (news : List Value) (hx : a.eval x = xv) (hsrc : Src w sz xv m news)
    (h63 : n + m ≤ maxLen) (hbytes : (n + m) * bytes ≤ 140737488355328)
    (h : ∀ v' w', GRow w' e sz v' (n + m) (xs ++ news) → Fr (fun k => v.ownBlock = some k) w w' →
      (v'.ownBlock = v.ownBlock ∨ v'.ownBlock = some w.heap.size ∧ w.heap.size < w'.heap.size) → (m = 0 → v' = v) → wpListIn F k P ops Q rest (a.put o.dst v') w') : wpListIn F k P ops Q (o :: rest) a w := by
  refine wpListIn_plain hgd fun K hK' => ?_
  obtain ⟨v', w', hr, h2, h3, h4, h5⟩ := run_append_g (ty := o.type) E v n xs hown xv m news hsrc h63 hbytes
  unfold Oper.wpIn
  refine ⟨?_, ?_⟩
  · simp [Oper.about, ho, resolve, Target.leads, Sem.run_pure]
  · rw [Oper.semAt_plain F _ _ (by rw [ho]; intro c hc'; cases hc')]
    simp [execOp, ho, resolve, invoke, builtin, hs, hx, hr, Result.andThen]
    exact hK' _ _ (h v' w' h2 h3 h4 h5)
end
end Go.Proofs.Ytplhcfaonhkegaa

namespace Go.Proofs.Ytplhcfaonhkegaa
open Go.RowKit Go.Maps

set_option maxRecDepth 100000 in
set_option maxHeartbeats 4000000 in
theorem indexHap0_any {w : World} {u : Value} {l : List MHap} (hl : Sl kHap All w u l) (g : Nat) (p : MHap → Bool) (eg : ∀ args w, (callFunc g args).run Try.prog w = .ok (.enter g args) w)
    (hg : ∀ (W : World) (v : Value) (x : MHap), Fr Non w W → x ∈ l → HapV All W v x → Calls Try.prog g #[v] W fun e w' => e = .returned (.bool (p x)) ∧ Fr Non W w') :
    Calls Try.prog 121 #[u, .func (.func g) #[] #[]] w fun e w' => e = .returned (.int .i64 (firstAt p 0 l)) ∧ Fr Non w w' := by
  obtain ⟨va, vc, rfl, _, hx, _⟩ := hl.frm
  unfold maxLen at hx
  have HL := Lib.hid hl
  have HG := Lib.hid hg
  clear hl hg
  go_enter Try.func121, Try.ntmps121
  go_wp2_with fail
  go_loopw [8] (fun i wr => ∃ (j : Nat), j ≤ l.length ∧ i = .int .i64 j ∧ Hid (Fr Non w wr ∧ firstAt p 0 l = firstAt p j (l.drop j))) (fun i _ => l.length - (intOf i).toNat)
  case atStart => exact ⟨0, by omega, rfl, Fr.refl _ _, by simp⟩
  case round =>
    obtain ⟨j, hj, rfl, HI⟩ := hrel
    by_cases hlt : j < l.length
    · have f1 := HI.out.1
      obtain ⟨B, O, V, rfl, hV, hld⟩ := hap_load (HL.out.stay f1) j hlt
      have HD := Lib.hid (drop_at hlt)
      have hcall := HG.out wr V l[j] f1 (List.getElem_mem hlt) hV
      obtain ⟨x, hx⟩ : ∃ x, l[j] = x := ⟨_, rfl⟩
      rw [hx] at HD hcall
      clear hx hV
      obtain ⟨t, ht⟩ : ∃ t, p x = t := ⟨_, rfl⟩
      rw [ht] at hcall
      have HT := Lib.hid ht
      have HCALL := Lib.hid hcall
      have HLD := Lib.hid hld
      clear ht hcall hld
      have j0 : (0 : Int) ≤ (j : Int) := by omega
      have j1 : (j : Int) < (l.length : Int) := by omega
      go_wp2_with (refine wpList_load_v rfl 76 _ rfl _ rfl V HLD.out ?_)
      refine HCALL.out.mono ?_
      rintro e w4 ⟨rfl, f4⟩
      cases t with
      | true =>
        go_wp2_with fail
        go_ret
        exact ⟨by rw [HI.out.2, HD.out, firstAt, if_pos HT.out]; rfl, f1.trans f4⟩
      | false =>
        go_wp2_with fail
        go_roundw
        case rel => exact ⟨j + 1, by omega, by go_num, f1.trans f4, by rw [HI.out.2, HD.out, firstAt, if_neg (by rw [HT.out]; simp)]; rfl⟩
        case measure => simp [intOf]; omega
    · obtain rfl : j = l.length := by omega
      obtain ⟨h1, h2⟩ := HI.out
      go_wp2_with fail
      go_ret
      exact ⟨by rw [h2, List.drop_length, firstAt]; rfl, h1⟩

theorem containsHap0_any {w : World} {u : Value} {l : List MHap} (hl : Sl kHap All w u l) (g : Nat) (p : MHap → Bool) (eg : ∀ args w, (callFunc g args).run Try.prog w = .ok (.enter g args) w)
    (hg : ∀ (W : World) (v : Value) (x : MHap), Fr Non w W → x ∈ l → HapV All W v x → Calls Try.prog g #[v] W fun e w' => e = .returned (.bool (p x)) ∧ Fr Non W w') :
    Calls Try.prog 100 #[u, .func (.func g) #[] #[]] w fun e w' => e = .returned (.bool (l.any p)) ∧ Fr Non w w' := by
  obtain ⟨va, vc, rfl, _, hx, _⟩ := hl.frm
  have h := indexHap0_any hl g p eg hg
  have ha := firstAt_any p l 0 (Int.le_refl 0)
  obtain ⟨n, hn⟩ : ∃ n, firstAt p 0 l = n := ⟨_, rfl⟩
  rw [hn] at h ha
  rw [← ha]
  have H := Lib.hid h
  clear h ha hn hg
  go_enter Try.func100, Try.ntmps100
  go_wp2_with fail
  refine H.out.mono ?_
  rintro e w4 ⟨rfl, f4⟩
  go_wp2_with fail
  go_ret
  exact ⟨by trivial, f4⟩
set_option maxRecDepth 100000 in
set_option maxHeartbeats 4000000 in
theorem indexHap1_any {w : World} {u : Value} {l : List MHap} (hl : Sl kHap All w u l) (g : Nat) (q1 : Value) (p : MHap → Bool) (eg : ∀ args w, (callFunc g args).run Try.prog w = .ok (.enter g args) w)
    (hg : ∀ (W : World) (v : Value) (x : MHap), Fr Non w W → x ∈ l → HapV All W v x → Calls Try.prog g #[v, q1] W fun e w' => e = .returned (.bool (p x)) ∧ Fr Non W w') :
    Calls Try.prog 121 #[u, .func (.func g) #[] #[q1]] w fun e w' => e = .returned (.int .i64 (firstAt p 0 l)) ∧ Fr Non w w' := by
  obtain ⟨va, vc, rfl, _, hx, _⟩ := hl.frm
  unfold maxLen at hx
  have HL := Lib.hid hl
  have HG := Lib.hid hg
  clear hl hg
  go_enter Try.func121, Try.ntmps121
  go_wp2_with fail
  go_loopw [8] (fun i wr => ∃ (j : Nat), j ≤ l.length ∧ i = .int .i64 j ∧ Hid (Fr Non w wr ∧ firstAt p 0 l = firstAt p j (l.drop j))) (fun i _ => l.length - (intOf i).toNat)
  case atStart => exact ⟨0, by omega, rfl, Fr.refl _ _, by simp⟩
  case round =>
    obtain ⟨j, hj, rfl, HI⟩ := hrel
    by_cases hlt : j < l.length
    · have f1 := HI.out.1
      obtain ⟨B, O, V, rfl, hV, hld⟩ := hap_load (HL.out.stay f1) j hlt
      have HD := Lib.hid (drop_at hlt)
      have hcall := HG.out wr V l[j] f1 (List.getElem_mem hlt) hV
      obtain ⟨x, hx⟩ : ∃ x, l[j] = x := ⟨_, rfl⟩
      rw [hx] at HD hcall
      clear hx hV
      obtain ⟨t, ht⟩ : ∃ t, p x = t := ⟨_, rfl⟩
      rw [ht] at hcall
      have HT := Lib.hid ht
      have HCALL := Lib.hid hcall
      have HLD := Lib.hid hld
      clear ht hcall hld
      have j0 : (0 : Int) ≤ (j : Int) := by omega
      have j1 : (j : Int) < (l.length : Int) := by omega
      go_wp2_with (refine wpList_load_v rfl 76 _ rfl _ rfl V HLD.out ?_)
      refine HCALL.out.mono ?_
      rintro e w4 ⟨rfl, f4⟩
      cases t with
      | true =>
        go_wp2_with fail
        go_ret
        exact ⟨by rw [HI.out.2, HD.out, firstAt, if_pos HT.out]; rfl, f1.trans f4⟩
      | false =>
        go_wp2_with fail
        go_roundw
        case rel => exact ⟨j + 1, by omega, by go_num, f1.trans f4, by rw [HI.out.2, HD.out, firstAt, if_neg (by rw [HT.out]; simp)]; rfl⟩
        case measure => simp [intOf]; omega
    · obtain rfl : j = l.length := by omega
      obtain ⟨h1, h2⟩ := HI.out
      go_wp2_with fail
      go_ret
      exact ⟨by rw [h2, List.drop_length, firstAt]; rfl, h1⟩

set_option maxRecDepth 100000 in
theorem ceil_any {W : World} {v : Value} {x : MHap} (hV : HapV All W v x) : Calls Try.prog 101 #[v] W fun e w' => e = .returned (.bool (decide (x.1.1 = 4))) ∧ Fr Non W w' := by
  obtain ⟨cs, rfl, _⟩ := hV.size
  have BX := BoxH.made hV
  obtain ⟨_, _, x0, _⟩ := BX.facts
  obtain ⟨k, hk⟩ : ∃ k, x.1.1 = k := ⟨_, rfl⟩
  rw [hk] at x0 ⊢
  clear BX hV hk
  go_enter Try.func101, Try.ntmps101
  go_wp2_with fail
  go_ret
  exact ⟨by rfl, (Fr.refl _ _).alloc _⟩
set_option maxRecDepth 100000 in
theorem samekey_any {W : World} {v : Value} {x : MHap} {B : Nat} {y : MHap} {V : Value} (hV : HapV All W v x) (hB : BoxH W B y V) :
    Calls Try.prog 123 #[v, .pointer (some ⟨B, 0, none⟩)] W fun e w' => e = .returned (.bool (decide (x.1.2.1 = y.1.2.1))) ∧ Fr Non W w' := by
  obtain ⟨cs, rfl, _⟩ := hV.size
  have BX := BoxH.made hV
  have f0 : Fr Non W (W.alloc (.cells cs.toArray 76)) := (Fr.refl _ _).alloc _
  obtain ⟨_, _, _, x1, _⟩ := BX.facts
  obtain ⟨_, _, _, y1, _⟩ := (hB.fr f0).facts
  obtain ⟨k, hk⟩ : ∃ k, x.1.2.1 = k := ⟨_, rfl⟩
  obtain ⟨m, hm⟩ : ∃ k, y.1.2.1 = k := ⟨_, rfl⟩
  rw [hk] at x1 ⊢
  rw [hm] at y1 ⊢
  clear BX hV hB hk hm f0
  go_enter Try.func123, Try.ntmps123
  go_wp2_with fail
  go_ret
  exact ⟨by rfl, (Fr.refl _ _).alloc _⟩

/-- The places of a key's. -/
def lPl (K : Int) : Nat → List MHap → List Int
  | _, [] => []
  | n, x :: l => if x.1.2.1 = K then (n : Int) :: lPl K (n + 1) l else lPl K (n + 1) l
/-- The places of each key's own, in the order in which the keys come. -/
def lKeysAt (l : List MHap) : Nat → List MHap → List (List Int)
  | _, [] => []
  | i, x :: r => if firstAt (fun y => decide (y.1.2.1 = x.1.2.1)) 0 l = (i : Int) then lPl x.1.2.1 i (x :: r) :: lKeysAt l (i + 1) r else lKeysAt l (i + 1) r
def lAllPl (l : List MHap) : List Int := (List.range l.length).map fun i : Nat => (i : Int)
def lParts (l : List MHap) : List (List Int) × Int :=
  if lCheck l = 0 then (if l.any (fun x => decide (x.1.1 = 4)) then ([lAllPl l], 0) else (lKeysAt l 0 l, 0)) else ([], lCheck l)
theorem lPl_len (K : Int) : ∀ (n : Nat) (l : List MHap), (lPl K n l).length ≤ l.length
  | _, [] => by simp [lPl]
  | n, x :: l => by
    have := lPl_len K (n + 1) l
    rw [lPl]
    split <;> simp <;> omega
theorem lKeysAt_len (l : List MHap) : ∀ (n : Nat) (r : List MHap), (lKeysAt l n r).length ≤ r.length
  | _, [] => by simp [lKeysAt]
  | n, x :: r => by
    have := lKeysAt_len l (n + 1) r
    rw [lKeysAt]
    split <;> simp <;> omega
theorem lPl_append (K : Int) : ∀ (n : Nat) (a b : List MHap), lPl K n (a ++ b) = lPl K n a ++ lPl K (n + a.length) b
  | n, [], b => by simp [lPl]
  | n, x :: a, b => by
    rw [List.cons_append, lPl, lPl, lPl_append K (n + 1) a b, List.length_cons, show n + 1 + a.length = n + (a.length + 1) by omega]
    split <;> rfl
end Go.Proofs.Ytplhcfaonhkegaa

namespace Go.Proofs.Ytplhcfaonhkegaa
open Go.RowKit Go.Maps

abbrev kRowI : Kd (List Int) := kRow kI 8
/-- Rows of places, in rows of their own. -/
def BuildP (N0 : Nat) (W : World) (ov : Value) (pre : List (List Int)) : Prop := ∃ cs, GRow W 73 1 ov pre.length cs ∧ Row kRowI (fun b => ov.ownBlock ≠ some b ∧ N0 ≤ b) W cs pre
theorem BuildP.fr {N0 : Nat} {W W' : World} {ov : Value} {pre : List (List Int)} {T : Nat → Prop} (h : BuildP N0 W ov pre) (f : Fr T W W') (ho : ∀ b, ov.ownBlock = some b → ¬ T b) (hT : ∀ b, T b → b < N0) : BuildP N0 W' ov pre := by
  obtain ⟨cs, h1, h2⟩ := h
  exact ⟨cs, h1.keep fun b hb => f.block b (h1.lt b hb) (ho b hb), h2.fr (fun b hb hs => f.block b hb fun ht => by have := hT b ht; omega) fun _ _ h => h⟩
/-- Between two rounds. -/
def JK (l : Nat) (r : Loop) (B7 : Nat) (wS : World) (pre : List (List Int)) (W : World) : Prop := W.heap[l]? = some (.loop r) ∧ ∃ ov, W.heap[B7]? = some (.cells #[ov] 104 (0, 0)) ∧
  BuildP (l + 1) W ov pre ∧ (∀ b, ov.ownBlock = some b → l + 1 ≤ b) ∧ Fr (fun b => b = B7) wS W
theorem JK.fr {l : Nat} {r : Loop} {B7 : Nat} {wS : World} {pre : List (List Int)} {W W' : World} (h : JK l r B7 wS pre W) (f : Fr Non W W') : JK l r B7 wS pre W' := by
  obtain ⟨h1, ov, h2, h3, h4, h5⟩ := h
  exact ⟨f.heap h1 id, ov, f.heap h2 id, h3.fr f (fun _ _ => id) (fun _ h => h.elim), h4, h5.trans (f.mono fun _ _ h => h.elim)⟩
theorem enters123 : ∀ args w, (callFunc 123 args).run Try.prog w = .ok (.enter 123 args) w := enters_of Try.func123 (by kernel_rfl) rfl
theorem wf_small {n : Nat} (h : n ≤ 100) : (Lit.int .i64 (n : Int)).wf = true := by
  have e : IntKind.i64.wrap (n : Int) = (n : Int) := by rw [IntKind.wrap_i64]; omega
  simp [Lit.wf]
  exact ⟨by have : IntKind.i64.min ≤ 0 := by decide
            omega, by omega⟩
theorem lPl_next {K : Int} {L : List MHap} {j k : Nat} (hjk : j ≤ k) (hk : k < L.length) : lPl K j ((L.drop j).take (k + 1 - j)) = lPl K j ((L.drop j).take (k - j)) ++ (if L[k].1.2.1 = K then [(k : Int)] else []) := by
  have e : (L.drop j).take (k + 1 - j) = (L.drop j).take (k - j) ++ [L[k]] := by
    rw [show k + 1 - j = (k - j) + 1 by omega, List.take_succ_eq_append_getElem (by rw [List.length_drop]; omega), List.getElem_drop]
    congr 2
    congr 1
    omega
  rw [e, lPl_append, List.length_take, List.length_drop, Nat.min_eq_left (by omega), show j + (k - j) = k by omega, lPl]
  split <;> rfl
theorem lPl_wf {K : Int} : ∀ {n : Nat} {l : List MHap}, n + l.length ≤ 100 → ∀ x ∈ lPl K n l, (Lit.int .i64 x).wf = true
  | _, [], _, x, h => by simp [lPl] at h
  | n, y :: l, hn, x, h => by
    have ih := lPl_wf (K := K) (n := n + 1) (l := l) (by simp at hn; omega)
    rw [lPl] at h
    split at h
    · rcases List.mem_cons.1 h with rfl | h
      · exact wf_small (by simp at hn; omega)
      · exact ih x h
    · exact ih x h
set_option maxRecDepth 100000 in
set_option maxHeartbeats 4000000 in
theorem keys_any {l : Nat} {r : Loop} {B7 B1 : Nat} {wS : World} {u : Value} {L : List MHap} (hL : Sl kHap (fun b => ¬ b = B7) wS u L) (hb1 : wS.heap[B1]? = some (.cells #[u] 71 (0, 0))) (hne : ¬ B1 = B7) (hlen : L.length ≤ 100)
    (hY : ∀ pre ps v Wi W, JK l r B7 wS pre Wi → Fr Non Wi W → Sl kI (fun b => Wi.heap.size ≤ b) W v ps → ps.length ≤ 100 → pre.length ≤ 100 → YieldAt Fence.wide 2 Try.prog l #[v] W fun e W' => e = .returned (.bool true) ∧ JK l r B7 wS (pre ++ [ps]) W')
    {W0 : World} (h0 : JK l r B7 wS [] W0) :
    Calls Try.prog 122 #[.func (.yield l) #[] #[], .pointer (some ⟨B1, 0, none⟩)] W0 fun e W' => (∃ v, e = .returned v) ∧ JK l r B7 wS (lKeysAt L 0 L) W' := by
  obtain ⟨ua, uc, rfl, _⟩ := hL.frm
  have HL := Lib.hid hL
  have HY := Lib.hid hY
  have HB1 := Lib.hid (fun (W : World) (f : Fr (fun b => b = B7) wS W) => f.heap hb1 hne)
  have q0 := (box_facts (HB1.out W0 h0.2.choose_spec.2.2.2)).1
  have H0 := Lib.hid h0
  clear hL hY hb1 h0
  go_enter Try.func122, Try.ntmps122
  go_wp2_with fail
  clear q0
  go_loopw [10] (fun i wr => ∃ (j : Nat) (pre : List (List Int)), j ≤ L.length ∧ i = .int .i64 j ∧ Hid (JK l r B7 wS pre wr ∧ pre ++ lKeysAt L j (L.drop j) = lKeysAt L 0 L ∧ pre.length ≤ j)) (fun i _ => L.length - (intOf i).toNat)
  case atStart => exact ⟨0, [], by omega, rfl, H0.out, by simp, by simp⟩
  case round =>
    obtain ⟨j, pre, hj, rfl, HI⟩ := hrel
    have j0 : (0 : Int) ≤ (j : Int) := by omega
    by_cases hlt : j < L.length
    · have j1 : (j : Int) < (L.length : Int) := by omega
      obtain ⟨hJ, hE, hpl⟩ := HI.out
      have HJ := Lib.hid hJ
      have HE := Lib.hid hE
      have HPL := Lib.hid hpl
      have hF := hJ.2.choose_spec.2.2.2
      have HF := Lib.hid hF
      obtain ⟨b, o', cs, e, hr, hV, hlen2, hld⟩ := hap_held (HL.out.frame hF (fun _ _ h => h)) j hlt
      subst e
      have LD := Lib.hid (hld _ (Fr.refl _ _))
      have ONES := Lib.hid (kHap.one hr)
      have HLE := Lib.hid hlen2
      have HV := Lib.hid hV
      have Q1 := Lib.hid (fun (y : World) (f : Fr Non wr y) => (box_facts (HB1.out y (HF.out.trans (f.mono fun _ _ h => h.elim)))).1)
      clear hr hld hlen2 hV hJ hE hpl hF HI H0
      go_wp2_with (first | refine wpList_load_w 76 (.pointer (some ⟨b, o' + j * 23, none⟩)) _ LD.out _ rfl rfl (by rfl) ?_ | refine wpList_store_block rfl 76 _ _ rfl wr.heap.size 0 rfl (.agg cs.toArray) rfl _ 76 (alloc_at wr _) ?hfit ?hinf ?hone ?_)
      case hinf => rw [show (Value.agg cs.toArray).cells.size = 23 by simp [Value.cells, HLE.out]]; kernel_rfl
      case hfit => simp [Value.cells, HLE.out]
      case hone => intro u hu; exact ONES.out u (by simpa [Value.cells] using hu)
      intro w5 hbx f2
      rw [putAt_whole _ _ (by simp [HLE.out])] at hbx
      have f3 : Fr Non wr w5 := ((Fr.refl Non wr).alloc _).trans2 f2 (fun b hb he => by omega)
      replace hbx : w5.heap[wr.heap.size]? = some (.cells cs.toArray 76 (0, 0)) := by simpa [Value.cells] using hbx
      have HBX := Lib.hid (show BoxH w5 wr.heap.size L[j] (.agg cs.toArray) from ⟨cs, rfl, (HV.out.mono (fun _ _ _ => trivial)).stay f3, hbx⟩)
      have F3 := Lib.hid f3
      have q1 := Q1.out w5 f3
      clear hbx f2 f3 LD
      have hk5 : Sl kHap All w5 (.slice (some ⟨b, o', none⟩) L.length uc) L := ((HL.out.frame HF.out (fun _ _ h => h)).stay F3.out).mono fun _ _ _ => trivial
      have HIX := Lib.hid (indexHap1_any hk5 123 (.pointer (some ⟨wr.heap.size, 0, none⟩)) (fun y => decide (y.1.2.1 = L[j].1.2.1)) enters123 (fun W v x f _ hv => samekey_any hv (HBX.out.fr f)))
      clear hk5
      go_wp2_with fail
      refine HIX.out.mono ?_
      rintro e w6 ⟨rfl, f6⟩
      obtain ⟨F, hF⟩ : ∃ F, firstAt (fun y => decide (y.1.2.1 = L[j].1.2.1)) 0 L = F := ⟨_, rfl⟩
      rw [hF]
      have HFI := Lib.hid hF
      have F6 := Lib.hid (F3.out.trans f6)
      have HBX6 := Lib.hid (HBX.out.fr f6)
      clear hF f6 HIX q1 HBX
      by_cases hskip : F = (j : Int)
      rotate_left
      · have n0 : (F != (j : Int)) = true := by simpa using hskip
        have HSK := Lib.hid (show lKeysAt L j (L.drop j) = lKeysAt L (j + 1) (L.drop (j + 1)) by rw [List.drop_eq_getElem_cons hlt, lKeysAt, if_neg (by rw [HFI.out]; exact hskip)])
        go_wp2_with fail
        go_roundw
        case rel => exact ⟨j + 1, pre, by omega, by go_num, HJ.out.fr F6.out, by rw [← HSK.out]; exact HE.out, by have := HPL.out; omega⟩
        case measure => simp [intOf]; omega
      subst hskip
      have HSK := Lib.hid (show lKeysAt L j (L.drop j) = lPl L[j].1.2.1 j (L.drop j) :: lKeysAt L (j + 1) (L.drop (j + 1)) by rw [List.drop_eq_getElem_cons hlt, lKeysAt, if_pos HFI.out])
      have q1 := Q1.out w6 F6.out
      obtain ⟨K, hK⟩ : ∃ K, L[j].1.2.1 = K := ⟨_, rfl⟩
      rw [hK] at HSK
      have HKK := Lib.hid hK
      clear hK
      go_wp2_with fail
      clear q1
      obtain ⟨W1, rfl⟩ : ∃ W1, W1 = wr := ⟨_, rfl⟩
      have HSZ1 := Lib.hid F6.out.size
      go_loopw [6, 7] (fun v kv wx => ∃ (k : Nat), j ≤ k ∧ k ≤ L.length ∧ kv = .int .i64 k ∧ Hid (GRow wx 3 1 v (lPl K j ((L.drop j).take (k - j))).length (ints (lPl K j ((L.drop j).take (k - j)))) ∧ (∀ b, v.ownBlock = some b → w6.heap.size ≤ b) ∧ Fr Non w6 wx)) (fun _ kv _ => L.length - (intOf kv).toNat)
      case atStart => exact ⟨j, Nat.le_refl _, by omega, rfl, by simpa [lPl, ints] using GRow.nil _ _ _, by simp [Value.ownBlock], Fr.refl _ _⟩
      case round =>
        obtain ⟨k, hjk, hk, rfl, HI2⟩ := hrel
        obtain ⟨hg, hown, hfx⟩ := HI2.out
        have q1 := Q1.out wr (F6.out.trans hfx)
        have k0 : (0 : Int) ≤ (k : Int) := by omega
        obtain ⟨ga, gc, rfl⟩ := hg.form
        have HGR := Lib.hid hg
        have HOW := Lib.hid hown
        have HFX := Lib.hid hfx
        clear hg hown hfx HI2
        by_cases hlt2 : k < L.length
        · have k1 : (k : Int) < (L.length : Int) := by omega
          have HNX := Lib.hid (lPl_next (K := K) hjk hlt2)
          obtain ⟨b2, o2, ds, e, hr2, hV2, hlen3, hld2⟩ := hap_held (((HL.out.frame HF.out (fun _ _ h => h)).stay F6.out).stay HFX.out) k hlt2
          cases e
          have LD2 := Lib.hid (hld2 _ (Fr.refl _ _))
          have HSAME := Lib.hid (samekey_any (hV2.mono fun _ _ _ => trivial) (HBX6.out.fr HFX.out))
          rw [HKK.out] at HSAME
          obtain ⟨Y, hY⟩ : ∃ Y, lPl K j ((L.drop j).take (k - j)) = Y := ⟨_, rfl⟩
          have hYL : Y.length ≤ 100 := by rw [← hY]; have := lPl_len K j ((L.drop j).take (k - j)); rw [List.length_take, List.length_drop] at this; omega
          rw [hY] at HNX HGR HOW ⊢
          clear hr2 hV2 hlen3 hld2 hY
          go_wp2_with (refine wpList_load_w 76 (.pointer (some ⟨b, o' + k * 23, none⟩)) _ LD2.out _ rfl rfl (by rfl) ?_)
          refine HSAME.out.mono ?_
          rintro e w8 ⟨rfl, f8⟩
          have F8 := Lib.hid f8
          clear LD2 HSAME q1 f8
          by_cases hsame : L[k].1.2.1 = K
          · rw [decide_eq_true hsame]
            have HE2 := Lib.hid (show lPl K j ((L.drop j).take (k + 1 - j)) = Y ++ [(k : Int)] by rw [HNX.out, if_pos hsame])
            have hg8 := Lib.hid (HGR.out.keep fun b hb => F8.out.block b (HGR.out.lt b hb) id)
            go_wp2_with (at_builtin; refine wpList_append_g rfl _ _ eI3 rfl (.slice ga Y.length gc) Y.length (ints Y) rfl (hg8.out.keep fun b hb => ?k1) _ 1 [.int .i64 k] rfl (Src.block (m := 1) (alloc_at w8 _) rfl (by simp [Value.oneCell'])) ?k2 ?k3 ?_)
            case k1 => exact Below.heap_alloc _ _ _ (hg8.out.lt b hb)
            case k2 => unfold maxLen; omega
            case k3 => omega
            intro v' w9 r1 r2 r3
            go_wp2_with fail
            go_roundw
            case rel =>
              refine ⟨k + 1, by omega, by omega, by go_num, ?_, ?_, ?_⟩
              · rw [HE2.out]
                simpa [ints] using r1
              · intro b hb
                rcases r3 with r3 | ⟨r3, _⟩
                · exact HOW.out b (r3 ▸ hb)
                · rw [r3] at hb
                  cases hb
                  have := (HFX.out.trans F8.out).size
                  (try simp)
                  omega
              · exact ((HFX.out.trans F8.out).alloc _).trans2 r2 (fun b hb hx => by have := HOW.out b hx; omega)
            case measure => simp [intOf]; omega
          · rw [decide_eq_false hsame]
            have HE2 := Lib.hid (show lPl K j ((L.drop j).take (k + 1 - j)) = Y by rw [HNX.out, if_neg hsame, List.append_nil])
            go_wp2_with fail
            go_roundw
            case rel => exact ⟨k + 1, by omega, by omega, by go_num, by rw [HE2.out]; exact HGR.out.keep (fun b hb => F8.out.block b (HGR.out.lt b hb) id), HOW.out, HFX.out.trans F8.out⟩
            case measure => simp [intOf]; omega
        · obtain rfl : k = L.length := by omega
          have e9 : (L.drop j).take (L.length - j) = L.drop j := List.take_of_length_le (by rw [List.length_drop]; omega)
          rw [e9] at HGR HOW ⊢
          clear e9
          obtain ⟨Y, hY⟩ : ∃ Y, lPl K j (L.drop j) = Y := ⟨_, rfl⟩
          have hYL : Y.length ≤ 100 := by rw [← hY]; have := lPl_len K j (L.drop j); rw [List.length_drop] at this; omega
          have HWF := Lib.hid (show ∀ x ∈ Y, (Lit.int .i64 x).wf = true by rw [← hY]; exact lPl_wf (by rw [List.length_drop]; omega))
          rw [hY] at HGR HOW HSK ⊢
          have hsl : Sl kI (fun b => W1.heap.size ≤ b) wr (.slice ga Y.length gc) Y := grow_ints HGR.out HWF.out (fun b hb => by have := HOW.out b hb; have := HSZ1.out; omega)
          obtain ⟨fn, tmps, assign, body, hy, hR⟩ := HY.out pre Y _ W1 wr HJ.out (F6.out.trans HFX.out) hsl hYL (by have := HPL.out; omega)
          have HR := Lib.hid hR
          clear hR hsl hY
          go_upto_region 11 with (fail)
          refine (wpIn_wide (n := 3)).1 ?_
          gi_wp2
          refine HR.out.mono ?_
          rintro e w8 ⟨rfl, hJ8⟩
          have HJ8 := Lib.hid hJ8
          clear hJ8 hy HR q1
          gi_wp2
          go_wp2_with fail
          go_roundw
          case rel => exact ⟨j + 1, pre ++ [Y], by omega, by go_num, HJ8.out, by rw [List.append_assoc, List.singleton_append, ← HSK.out]; exact HE.out, by rw [List.length_append]; have := HPL.out; simp; omega⟩
          case measure => simp [intOf]; omega
    · obtain rfl : j = L.length := by omega
      obtain ⟨hJ, hE, hpl⟩ := HI.out
      have HJ := Lib.hid (show JK l r B7 wS (lKeysAt L 0 L) wr by rw [← hE, List.drop_length, lKeysAt, List.append_nil]; exact hJ)
      clear hJ hE hpl HI H0
      go_wp2_with fail
      go_end0
      exact ⟨⟨_, rfl⟩, HJ.out⟩
end Go.Proofs.Ytplhcfaonhkegaa

namespace Go.Proofs.Ytplhcfaonhkegaa
open Go.RowKit Go.Maps
attribute [local go_sem] Oper.semAt_some

theorem enters101 : ∀ args w, (callFunc 101 args).run Try.prog w = .ok (.enter 101 args) w := enters_of Try.func101 (by kernel_rfl) rfl
theorem enters122 : ∀ args w, (callFunc 122 args).run Try.prog w = .ok (.enter 122 args) w := enters_of Try.func122 (by kernel_rfl) rfl
theorem eI104 : ElemInfo Try.prog 104 73 1 24 := elemInfo (z := .slice none 0 0) Try.underlying104 (by kernel_rfl) rfl (by decide)
set_option maxRecDepth 100000 in
set_option maxHeartbeats 4000000 in
theorem sl_one {w : World} {b : Nat} {x : Value} {y : List Int} (h : w.heap[b]? = some (.cells #[x] 73 (0, 0))) (hy : kRowI.rd All w [x] y) : Sl kRowI All w (.slice (some ⟨b, 0, none⟩) 1 1) [y] := by
  refine .inr ⟨_, _, rfl, Nat.le_refl _, by unfold maxLen; omega, fun _ => ⟨rfl, trivial⟩, fun i hi => ?_⟩
  obtain rfl : i = 0 := by simpa using hi
  refine ⟨[x], hy, fun j hj => ?_⟩
  obtain rfl : j = 0 := by simpa using hj
  rw [(box_facts h).1]
  simp
theorem mkeys_any {w : World} {a : Option Addr} {n c : Nat} : Calls Try.prog 102 #[.slice a n c] w fun e w' => ∃ B, e = .returned (.func (.func 122) #[] #[.pointer (some ⟨B, 0, none⟩)]) ∧ w'.heap[B]? = some (.cells #[.slice a n c] 71 (0, 0)) ∧ Fr Non w w' ∧ w.heap.size ≤ B := by
  go_enter Try.func102, Try.ntmps102
  go_wp2_with fail
  go_ret
  exact ⟨_, by rfl, alloc_at w _, (Fr.refl _ _).alloc _, Nat.le_refl _⟩
set_option maxRecDepth 100000 in
set_option maxHeartbeats 4000000 in
theorem parts_any {w : World} {u : Value} {L : List MHap} (hl : Sl kHap All w u L) :
    Calls Try.prog 64 #[u] w fun e w' => ∃ v, e = .returned (.tuple #[v, .int .i64 (lParts L).2]) ∧ Sl kRowI All w' v (lParts L).1 ∧ Fr Non w w' := by
  obtain ⟨ua, uc, rfl, _⟩ := hl.frm
  have HC := Lib.hid (lcheck_any hl)
  have HL := Lib.hid hl
  clear hl
  obtain ⟨R, hR⟩ : ∃ R, lParts L = R := ⟨_, rfl⟩
  have HR := Lib.hid (show R = if lCheck L = 0 then (if L.any (fun x => decide (x.1.1 = 4)) then ([lAllPl L], 0) else (lKeysAt L 0 L, 0)) else ([], lCheck L) from hR.symm)
  rw [hR]
  clear hR
  refine calls_of_marks Try.func64 rfl ?_
  simp only [Try.ntmps64, List.size_toArray, List.length_cons, List.length_nil, Nat.reduceAdd, Nat.reduceSub, Array.replicate_succ, Array.replicate_zero, List.push_toArray, List.append_toArray, List.nil_append, List.cons_append]
  go_wp2_with fail
  refine HC.out.mono ?_
  rintro e w1 ⟨rfl, f1⟩
  have F1 := Lib.hid f1
  clear f1 HC
  by_cases hc : lCheck L = 0
  rotate_left
  · have n0 : (lCheck L != 0) = true := by simpa using hc
    have HE := Lib.hid (show R = ([], lCheck L) by rw [HR.out, if_neg hc])
    obtain ⟨C, hC⟩ : ∃ C, lCheck L = C := ⟨_, rfl⟩
    rw [hC] at n0 HE ⊢
    clear hc hC HR
    go_wp2_with fail
    refine marks_ret0 (v := .tuple #[.slice none 0 0, .int .i64 C]) rfl (by simp [results, Try.results64, go_sem]) ⟨_, by rw [HE.out], by rw [HE.out]; exact .inl ⟨rfl, rfl⟩, F1.out⟩
  have hlen : L.length ≤ 64 := by
    unfold lCheck at hc
    split at hc
    · cases hc
    · omega
  replace HR := Lib.hid (show R = (if L.any (fun x => decide (x.1.1 = 4)) then ([lAllPl L], 0) else (lKeysAt L 0 L, 0)) by rw [HR.out, if_pos hc])
  rw [hc]
  clear hc
  have HCO := Lib.hid (containsHap0_any (HL.out.stay F1.out) 101 (fun x => decide (x.1.1 = 4)) enters101 (fun W v x f _ hv => ceil_any hv))
  go_wp2_with fail
  refine HCO.out.mono ?_
  rintro e w2 ⟨rfl, f2⟩
  have F2 := Lib.hid (F1.out.trans f2)
  obtain ⟨b, hb⟩ : ∃ b, L.any (fun x => decide (x.1.1 = 4)) = b := ⟨_, rfl⟩
  rw [hb] at HR ⊢
  clear hb f2 HCO F1
  cases b with
  | true =>
    have HE := Lib.hid (show R = ([lAllPl L], 0) by rw [HR.out]; rfl)
    clear HR
    go_wp2_with fail
    go_loopw [5, 18] (fun v iv wr => ∃ (j : Nat), j ≤ L.length ∧ iv = .int .i64 j ∧ Hid (GRow wr 3 1 v j (ints ((List.range j).map fun i : Nat => (i : Int))) ∧ (∀ b, v.ownBlock = some b → w2.heap.size ≤ b) ∧ Fr Non w2 wr)) (fun _ iv _ => L.length - (intOf iv).toNat)
    case atStart => exact ⟨0, by omega, rfl, GRow.nil _ _ _, by simp [Value.ownBlock], Fr.refl _ _⟩
    case round =>
      obtain ⟨j, hj, rfl, HI⟩ := hrel
      have j0 : (0 : Int) ≤ (j : Int) := by omega
      obtain ⟨hg, hown, hfx⟩ := HI.out
      obtain ⟨ga, gc, rfl⟩ := hg.form
      have HGR := Lib.hid hg
      have HOW := Lib.hid hown
      have HFX := Lib.hid hfx
      clear hg hown hfx HI
      by_cases hlt : j < L.length
      · have j1 : (j : Int) < (L.length : Int) := by omega
        go_wp2_with (at_builtin; refine wpList_append_g rfl _ _ eI3 rfl (.slice ga j gc) j (ints ((List.range j).map fun i : Nat => (i : Int))) rfl (HGR.out.keep fun b hb => ?k1) _ 1 [.int .i64 j] rfl (Src.block (m := 1) (alloc_at wr _) rfl (by simp [Value.oneCell'])) ?k2 ?k3 ?_)
        case k1 => exact Below.heap_alloc _ _ _ (HGR.out.lt b hb)
        case k2 => unfold maxLen; omega
        case k3 => omega
        intro v' w9 r1 r2 r3
        go_wp2_with fail
        go_roundw
        case rel =>
          refine ⟨j + 1, by omega, by go_num, ?_, ?_, ?_⟩
          · rw [List.range_succ]
            simpa [ints] using r1
          · intro b hb
            rcases r3 with r3 | ⟨r3, _⟩
            · exact HOW.out b (r3 ▸ hb)
            · rw [r3] at hb
              cases hb
              have := HFX.out.size
              (try simp)
              omega
          · exact (HFX.out.alloc _).trans2 r2 (fun b hb hx => by have := HOW.out b hx; omega)
        case measure => simp [intOf]; omega
      · obtain rfl : j = L.length := by omega
        have hlA : (lAllPl L).length = L.length := by simp [lAllPl]
        have hsl : Sl kI All wr (.slice ga L.length gc) (lAllPl L) := by
          have := grow_ints (l := lAllPl L) (n := L.length) HGR.out (fun x hx => by obtain ⟨i, hi, rfl⟩ := List.mem_map.1 hx; exact wf_small (by have := List.mem_range.1 hi; omega)) (fun b hb => trivial)
          exact this
        have HSL := Lib.hid (hsl.stay ((Fr.refl Non wr).alloc (.cells #[.slice ga L.length gc] 73)))
        have b9 := alloc_at wr (.cells #[.slice ga L.length gc] 73)
        have HF9 := Lib.hid ((F2.out.trans HFX.out).alloc (.cells #[.slice ga L.length gc] 73))
        have HB9 := Lib.hid b9
        clear b9 hsl HGR HOW
        go_wp2_with fail
        refine marks_ret0 (v := .tuple #[.slice (some ⟨wr.heap.size, 0, none⟩) 1 1, .int .i64 0]) rfl (by simp [results, Try.results64, go_sem]) ⟨_, by rw [HE.out], ?_, HF9.out⟩
        rw [HE.out]
        exact sl_one HB9.out ⟨_, rfl, HSL.out, by rw [hlA]; unfold reachBytes; omega⟩
  | false =>
    go_wp2_with fail
    refine mkeys_any.mono ?_
    rintro e w3 ⟨B1, rfl, hb1, f3, hB1⟩
    have b7 := f3.heap (alloc_at w2 (.cells #[.slice none 0 0] 104)) id
    have F3 := Lib.hid (((Fr.refl Non w2).alloc (.cells #[.slice none 0 0] 104)).trans f3)
    rw [World.size_alloc] at hB1
    obtain ⟨B7, hB7⟩ : ∃ B, w2.heap.size = B := ⟨_, rfl⟩
    rw [hB7] at b7 hB1 ⊢
    have HB7 := Lib.hid b7
    have HB1 := Lib.hid hb1
    clear b7 hb1 f3
    have HE := Lib.hid (show R = (lKeysAt L 0 L, 0) by rw [HR.out]; rfl)
    have HS2 := Lib.hid F2.out.size
    clear HR
    go_wp2_with fail
    refine wp_range rfl enters122 (fun W => ∃ ov, W.heap[B7]? = some (.cells #[ov] 104 (0, 0)) ∧ BuildP (w3.heap.size + 1 + 1) W ov (lKeysAt L 0 L) ∧ (∀ b, ov.ownBlock = some b → w3.heap.size + 1 + 1 ≤ b) ∧ Fr (fun b => b = B7) w3 W ∧ W.heap[w3.heap.size]? = some (.deferred (some []))) ?_ ?_
    · intro fn
      generalize hr : loopRec fn _ _ _ _ _ _ = r
      have hfS : Fr Non w3 (w3.alloc (.deferred (some []))) := (Fr.refl _ _).alloc _
      have hLS : Sl kHap (fun b => ¬ b = B7) (w3.alloc (.deferred (some []))) (.slice ua L.length uc) L := ((HL.out.there.mono fun b _ hb => by have := HS2.out; omega).stay ((F2.out.trans F3.out).trans hfS))
      have h0 : JK (w3.heap.size + 1) r B7 (w3.alloc (.deferred (some []))) [] ((w3.alloc (.deferred (some []))).alloc (.loop r)) :=
        ⟨alloc_at2' w3 _ _, _, (((Fr.refl Non w3).alloc _).alloc _).heap HB7.out id, ⟨[], GRow.nil _ _ _, rfl⟩, by simp [Value.ownBlock], (Fr.refl _ _).alloc _⟩
      refine (keys_any (l := w3.heap.size + 1) (r := r) (B7 := B7) (B1 := B1) (wS := w3.alloc (.deferred (some []))) hLS (hfS.heap HB1.out id) (by omega) (by omega) ?_ h0).mono ?_
      · intro pre ps v Wi W hJ hf hsl hpsl hprel
        obtain ⟨va, vc, rfl, _⟩ := hsl.frm
        have hsz : w3.heap.size + 1 + 1 ≤ Wi.heap.size := lt_of_block hJ.1
        obtain ⟨_, ov0, ho0, hB0, hown0, _⟩ := id hJ
        obtain ⟨hl, ov, ho, hB, hown, hF⟩ := hJ.fr hf
        have hov : ov = ov0 := by
          have := hf.heap ho0 id
          rw [ho] at this
          cases this
          rfl
        subst hov
        subst hr
        refine yield_round hl rfl (JK (w3.heap.size + 1) _ B7 (w3.alloc (.deferred (some []))) (pre ++ [ps])) ?_
        generalize hrr : loopRec fn _ _ _ _ _ .ready = rr at hl ⊢
        generalize hrb : loopRec fn _ _ _ _ _ .busy = rb
        have hne7 : ¬ B7 = w3.heap.size + 1 := by have := lt_of_block HB7.out; omega
        have fB : Fr (fun b => b = w3.heap.size + 1) W (W.putObj (w3.heap.size + 1) (.loop rb)) := ⟨rfl, rfl, rfl, by simp, fun k _ hk => World.putObj_heap_other hk⟩
        have hlb : (W.putObj (w3.heap.size + 1) (.loop rb)).heap[w3.heap.size + 1]? = some (.loop rb) := World.putObj_heap_same (lt_of_block hl)
        have hob := fB.heap ho hne7
        obtain ⟨vs, g1, g2⟩ := hB.fr fB (fun b hb e => by have := hown b hb; omega) (fun b e => by omega)
        have hFb : Fr (fun b => b = B7) (w3.alloc (.deferred (some []))) (W.putObj (w3.heap.size + 1) (.loop rb)) := hF.trans2 fB (fun b hb e => by simp at hb; omega)
        have hslb : Sl kI (fun b => Wi.heap.size ≤ b) (W.putObj (w3.heap.size + 1) (.loop rb)) (.slice va ps.length vc) ps := hsl.frame fB fun b _ hb e => by omega
        have hovi : ∀ b, ov.ownBlock = some b → b < Wi.heap.size := fun b hb => by
          obtain ⟨cs0, k1, _⟩ := hB0
          exact k1.lt b hb
        have hszb : Wi.heap.size ≤ (W.putObj (w3.heap.size + 1) (.loop rb)).heap.size := by have := hf.size; simpa using this
        obtain ⟨oa, oc, rfl⟩ := g1.form
        generalize W.putObj (w3.heap.size + 1) (.loop rb) = Wb at hlb hob g1 g2 hFb hslb hszb ⊢
        obtain ⟨q1, z1⟩ := box_facts hob
        have hlt7 := lt_of_block hob
        have HLB := Lib.hid hlb
        have HOB := Lib.hid hob
        have G1 := Lib.hid g1
        have G2 := Lib.hid g2
        have HFB := Lib.hid hFb
        have HSLB := Lib.hid hslb
        have HOVI := Lib.hid hovi
        have HOWN := Lib.hid hown
        have HSZB := Lib.hid hszb
        clear hrr hrb fB hlb hob g1 g2 hFb hslb hovi hown hszb ho hB hF hl hsl hf ho0 hB0 hown0 hJ h0 hLS hfS
        gi_wp2_with (gi_at_builtin; refine wpListIn_append_g rfl _ _ eI104 rfl (.slice oa pre.length oc) pre.length vs rfl (G1.out.keep fun b hb => ?k1) _ 1 [.slice va ps.length vc] rfl (Src.block (m := 1) (alloc_at Wb _) rfl (by simp [Value.oneCell'])) ?k2 ?k3 ?_)
        case k1 => exact Below.heap_alloc _ _ _ (G1.out.lt b hb)
        case k2 => unfold maxLen; omega
        case k3 => omega
        intro v' w9 r1 r2 r3
        have hov7 : ∀ b, (Value.slice oa pre.length oc).ownBlock = some b → b ≠ B7 ∧ b ≠ w3.heap.size + 1 := fun b hb => by have := HOWN.out b hb; have := lt_of_block HB7.out; omega
        have h97 := r2.heap (((Fr.refl Non Wb).alloc _).heap HOB.out id) (fun e => (hov7 _ e).1 rfl)
        have h9l := r2.heap (((Fr.refl Non Wb).alloc (.cells #[.slice va ps.length vc] 73)).heap HLB.out id) (fun e => (hov7 _ e).2 rfl)
        have hv' : ∀ b, v'.ownBlock = some b → w3.heap.size + 1 + 1 ≤ b ∧ (b < Wi.heap.size ∨ Wb.heap.size < b) := fun b hb => by
          rcases r3 with r3 | ⟨r3, _⟩
          · exact ⟨HOWN.out b (r3 ▸ hb), .inl (HOVI.out b (r3 ▸ hb))⟩
          · rw [r3] at hb
            cases hb
            have := HSZB.out
            omega
        have hvv : ∀ b, b < Wb.heap.size → (Value.slice oa pre.length oc).ownBlock ≠ some b → v'.ownBlock ≠ some b := fun b hb hn e => by
          rcases r3 with r3 | ⟨r3, _⟩
          · exact hn (r3 ▸ e)
          · rw [r3] at e
            cases e
            omega
        have f9 : Fr (fun b => (Value.slice oa pre.length oc).ownBlock = some b) Wb w9 := ((Fr.refl _ Wb).alloc _).trans r2
        obtain ⟨va', vc', rfl⟩ := r1.form
        have H97 := Lib.hid h97
        have H9L := Lib.hid h9l
        have HVP := Lib.hid hv'
        have HVV := Lib.hid hvv
        have F9 := Lib.hid f9
        have R1 := Lib.hid r1
        have HOV7 := Lib.hid hov7
        obtain ⟨q2, z2⟩ := box_facts h97
        clear q1 z1 r1 r2 r3 h97 h9l hv' hvv f9 hov7
        gi_wp2
        have h7 := lt_of_block HB7.out
        have k7 := heap_setCell_same w9 B7 0 _ 104 (.slice va' (pre.length + 1) vc') H97.out
        have kl : (w9.setCell ⟨B7, 0, none⟩ (.slice va' (pre.length + 1) vc')).heap[w3.heap.size + 1]? = some (.loop rb) := (Below.heap_setCell _ _ _ _ (by simp only; omega)).trans H9L.out
        refine ⟨kl, ?_⟩
        have fS : Fr (fun b => b = B7) w9 (w9.setCell ⟨B7, 0, none⟩ (.slice va' (pre.length + 1) vc')) := (Fr.refl (fun b => b = B7) w9).setCell (p := ⟨B7, 0, none⟩) (.inl rfl) _
        have fP : Fr (fun b => b = w3.heap.size + 1) (w9.setCell ⟨B7, 0, none⟩ (.slice va' (pre.length + 1) vc')) ((w9.setCell ⟨B7, 0, none⟩ (.slice va' (pre.length + 1) vc')).putObj (w3.heap.size + 1) (.loop rr)) := ⟨rfl, rfl, rfl, by simp, fun k _ hk => World.putObj_heap_other hk⟩
        have kL := World.putObj_heap_same (o := Obj.loop rr) (lt_of_block kl)
        have k72 := fP.heap k7 (by omega)
        have f94 : Fr (fun b => b = B7 ∨ b = w3.heap.size + 1) w9 ((w9.setCell ⟨B7, 0, none⟩ (.slice va' (pre.length + 1) vc')).putObj (w3.heap.size + 1) (.loop rr)) := (fS.mono fun _ _ h => .inl h).trans (fP.mono fun _ _ h => .inr h)
        have f4 : Fr (fun b => ((Value.slice oa pre.length oc).ownBlock = some b) ∨ (b = B7 ∨ b = w3.heap.size + 1)) Wb ((w9.setCell ⟨B7, 0, none⟩ (.slice va' (pre.length + 1) vc')).putObj (w3.heap.size + 1) (.loop rr)) := (F9.out.mono fun _ _ h => .inl h).trans (f94.mono fun _ _ h => .inr h)
        clear kl k7 fS fP q2 z2
        generalize (w9.setCell ⟨B7, 0, none⟩ (.slice va' (pre.length + 1) vc')).putObj (w3.heap.size + 1) (.loop rr) = W4 at kL k72 f94 f4 ⊢
        refine ⟨kL, _, by simpa using k72, ⟨vs ++ [.slice va ps.length vc], ?_, ?_⟩, fun b hb => (HVP.out b hb).1, ?_⟩
        · have g := R1.out.keep (w' := W4) fun b hb => f94.block b (R1.out.lt b hb) (by have := HVP.out b hb; omega)
          simpa using g
        · refine (G2.out.fr (fun b hb hs => f4.block b hb ?_) fun b hb hs => ⟨HVV.out b hb hs.1, hs.2⟩).append (Row.single ⟨_, rfl, ?_, ?_⟩)
          · rintro (e | e)
            · exact hs.1 e
            · have := hs.2
              omega
          · refine HSLB.out.fr (fun b hb hs => f4.block b hb ?_) fun b hb hs => ⟨fun e => ?_, by omega⟩
            · rintro (e | e)
              · have := HOVI.out b e
                omega
              · omega
            · have := HVP.out b e
              omega
          · unfold reachBytes
            omega
        · refine HFB.out.trans2 f4 fun b hb e => ?_
          simp only [World.size_alloc] at hb
          rcases e with e | e | e
          · have := HOWN.out b e
            omega
          · exact e
          · omega
      · rintro e W ⟨hv, h1, ov, h2, h3, h4, h5⟩
        exact ⟨hv, h1, ov, h2, h3, h4, ⟨h5.os, h5.tape, h5.output, Nat.le_trans hfS.size h5.size, fun k hk hn => (h5.block k (by simp; omega) hn).trans (hfS.block k hk id)⟩, h5.heap (alloc_at w3 _) (by have := lt_of_block HB7.out; omega)⟩
    · intro fn W hl hrest
      obtain ⟨ov, ho, hB, hown, hF, hD⟩ := hrest
      generalize hr : loopRec fn _ _ _ _ _ .exhausted = r
      have hlt := lt_of_block HB7.out
      have fP : Fr (fun b => b = w3.heap.size + 1) W (W.putObj (w3.heap.size + 1) (.loop r)) := ⟨rfl, rfl, rfl, by simp, fun k _ hk => World.putObj_heap_other hk⟩
      have ho2 := fP.heap ho (by omega)
      have hD2 := fP.heap hD (by omega)
      have hB2 := Lib.hid (hB.fr fP (fun b hb e => by have := hown b hb; omega) (fun b e => by omega))
      have HF := Lib.hid ((F2.out.trans F3.out).trans2 (hF.trans2 (T := fun b => b = B7) fP (fun b hb e => by omega)) (fun b hb e => by have := HS2.out; omega))
      generalize W.putObj (w3.heap.size + 1) (.loop r) = W2 at fP ho2 hD2 hB2 HF ⊢
      have HO2 := Lib.hid ho2
      have HD2 := Lib.hid hD2
      have HOWN := Lib.hid hown
      obtain ⟨q1, _⟩ := box_facts ho2
      clear hl ho hB hown hF hD hr fP ho2 hD2
      simp only
      go_wp2_with fail
      have fQ : Fr (fun b => b = w3.heap.size) W2 (W2.putObj w3.heap.size (.deferred none)) := ⟨rfl, rfl, rfl, by simp, fun k _ hk => World.putObj_heap_other hk⟩
      have HB3 := hB2.out.fr fQ (fun b hb e => by have := HOWN.out b hb; omega) (fun b e => by omega)
      refine marks_ret1 (v := .tuple #[ov, .int .i64 0]) rfl HD2.out (by simp [results, Try.results64, go_sem]) ⟨ov, by rw [HE.out], ?_, HF.out.trans2 fQ (fun b hb e => by have := HS2.out; have := F3.out.size; omega)⟩
      rw [HE.out]
      obtain ⟨cs, g1, g2⟩ := HB3
      exact (show Build kRowI 73 _ ov (lKeysAt L 0 L) from ⟨cs, g1, g2.fr (fun _ _ _ => rfl) fun _ _ h => h.1⟩).sl
end Go.Proofs.Ytplhcfaonhkegaa

namespace Go.Proofs.Ytplhcfaonhkegaa
open Go.RowKit Go.Maps

def lPickI (l : List MHap) (p : List Int) : List MHap := p.filterMap fun i => l[i.toNat]?
def lLinFold (l : List MHap) : Bool → List (List Int) → Bool × Int
  | all, [] => (all, 0)
  | all, p :: ps => if (lOrder (lPickI l p)).2.2 = 0 then lLinFold l (all && (lOrder (lPickI l p)).2.1) ps else (false, (lOrder (lPickI l p)).2.2)
def lLinear (l : List MHap) : Bool × Int := if (lParts l).2 = 0 then lLinFold l true (lParts l).1 else (false, (lParts l).2)
theorem lPl_in (K : Int) : ∀ (n : Nat) (l : List MHap), ∀ x ∈ lPl K n l, (n : Int) ≤ x ∧ x < ((n + l.length : Nat) : Int)
  | _, [], x, h => by simp [lPl] at h
  | n, y :: l, x, h => by
    have ih := lPl_in K (n + 1) l x
    rw [lPl] at h
    simp only [List.length_cons] at ih ⊢
    split at h
    · rcases List.mem_cons.1 h with rfl | h
      · omega
      · have := ih h; omega
    · have := ih h; omega
theorem lKeysAt_in (l : List MHap) : ∀ (n : Nat) (r : List MHap), ∀ p ∈ lKeysAt l n r, p.length ≤ r.length ∧ ∀ x ∈ p, (0 : Int) ≤ x ∧ x < ((n + r.length : Nat) : Int)
  | _, [], p, h => by simp [lKeysAt] at h
  | n, y :: r, p, h => by
    have ih := lKeysAt_in l (n + 1) r p
    have hl := lPl_in y.1.2.1 n (y :: r)
    have hn := lPl_len y.1.2.1 n (y :: r)
    rw [lKeysAt] at h
    simp only [List.length_cons] at ih hl hn ⊢
    have ih2 : p ∈ lKeysAt l (n + 1) r → p.length ≤ r.length + 1 ∧ ∀ x ∈ p, (0 : Int) ≤ x ∧ x < ((n + (r.length + 1) : Nat) : Int) := fun h => by
      obtain ⟨a, b⟩ := ih h
      refine ⟨by omega, fun x hx => ?_⟩
      have := b x hx
      omega
    split at h
    · rcases List.mem_cons.1 h with rfl | h
      · refine ⟨hn, fun x hx => ?_⟩
        have := hl x hx
        omega
      · exact ih2 h
    · exact ih2 h
theorem lParts_in {l : List MHap} : (lParts l).1.length ≤ l.length + 1 ∧ ∀ p ∈ (lParts l).1, p.length ≤ l.length ∧ ∀ x ∈ p, (0 : Int) ≤ x ∧ x < (l.length : Int) := by
  unfold lParts
  split
  · split
    · refine ⟨by simp, fun p hp => ?_⟩
      obtain rfl : p = lAllPl l := by simpa using hp
      refine ⟨by simp [lAllPl], fun x hx => ?_⟩
      obtain ⟨i, hi, rfl⟩ := List.mem_map.1 hx
      have := List.mem_range.1 hi
      omega
    · refine ⟨by have := lKeysAt_len l 0 l; simp only; omega, fun p hp => ?_⟩
      have := lKeysAt_in l 0 l p hp
      simpa using this
  · exact ⟨by simp, fun p hp => by simp at hp⟩
theorem lParts_len {l : List MHap} (h : (lParts l).2 = 0) : l.length ≤ 64 := by
  unfold lParts at h
  split at h
  · rename_i hc
    unfold lCheck at hc
    split at hc
    · cases hc
    · omega
  · rename_i hc
    exact absurd h hc
theorem lPickI_next {l : List MHap} {p : List Int} {j : Nat} (h : j < p.length) (h0 : 0 ≤ p[j]) (h1 : p[j] < (l.length : Int)) : lPickI l (p.take (j + 1)) = lPickI l (p.take j) ++ [l[p[j].toNat]'(by omega)] := by
  unfold lPickI
  rw [List.take_succ_eq_append_getElem h, List.filterMap_append, List.filterMap_cons, List.getElem?_eq_getElem (by omega)]
  rfl
theorem lPickI_len (l : List MHap) (p : List Int) : (lPickI l p).length ≤ p.length := List.length_filterMap_le _ _
theorem lLinFold_drop {l : List MHap} {all : Bool} {ps : List (List Int)} {j : Nat} (h : j < ps.length) : lLinFold l all (ps.drop j) = if (lOrder (lPickI l ps[j])).2.2 = 0 then lLinFold l (all && (lOrder (lPickI l ps[j])).2.1) (ps.drop (j + 1)) else (false, (lOrder (lPickI l ps[j])).2.2) := by
  rw [List.drop_eq_getElem_cons h, lLinFold]
set_option maxRecDepth 100000 in
set_option maxHeartbeats 4000000 in
theorem linear_any {w : World} {u : Value} {L : List MHap} (hl : Sl kHap All w u L) :
    Calls Try.prog 67 #[u] w fun e w' => e = .returned (.tuple #[.bool (lLinear L).1, .int .i64 (lLinear L).2]) ∧ Fr Non w w' := by
  obtain ⟨ua, uc, rfl, _⟩ := hl.frm
  have HP := Lib.hid (parts_any hl)
  have HL := Lib.hid hl
  have HIN := Lib.hid (lParts_in (l := L))
  have HLEN := Lib.hid (lParts_len (l := L))
  clear hl
  obtain ⟨R, hR⟩ : ∃ R, lLinear L = R := ⟨_, rfl⟩
  have HR := Lib.hid (show R = if (lParts L).2 = 0 then lLinFold L true (lParts L).1 else (false, (lParts L).2) from hR.symm)
  rw [hR]
  clear hR
  obtain ⟨PP, hPP⟩ : ∃ P, lParts L = P := ⟨_, rfl⟩
  rw [hPP] at HP HR HIN HLEN
  clear hPP
  obtain ⟨Ps, pe⟩ := PP
  simp only at HP HR HIN HLEN
  go_enter Try.func67, Try.ntmps67
  go_wp2_with fail
  refine HP.out.mono ?_
  rintro e w1 ⟨pv, rfl, hps, f1⟩
  obtain ⟨pa, pc, rfl, _, hpx, _⟩ := hps.frm
  unfold maxLen at hpx
  have HPS := Lib.hid hps
  have F1 := Lib.hid f1
  clear f1 hps HP
  by_cases hc : pe = 0
  rotate_left
  · have n0 : (pe != 0) = true := by simpa using hc
    have HE := Lib.hid (show R = (false, pe) by rw [HR.out, if_neg hc])
    clear HR
    go_wp2_with fail
    refine bodyPost_ret (v := .tuple #[.bool false, .int .i64 pe]) (by simp [results, Try.results67, go_sem]) rfl ⟨by rw [HE.out], F1.out⟩
  subst hc
  have hlen := HLEN.out rfl
  have hPl : Ps.length ≤ 65 := by have := HIN.out.1; omega
  replace HR := Lib.hid (show R = lLinFold L true Ps by rw [HR.out, if_pos rfl])
  go_wp2_with fail
  go_loopw [6, 25] (fun av iv wr => ∃ (j : Nat) (all : Bool), j ≤ Ps.length ∧ iv = .int .i64 j ∧ av = .bool all ∧ Hid (Fr Non w1 wr ∧ R = lLinFold L all (Ps.drop j))) (fun _ iv _ => Ps.length - (intOf iv).toNat)
  case atStart => exact ⟨0, true, by omega, rfl, rfl, Fr.refl _ _, HR.out⟩
  case round =>
    obtain ⟨j, all, hj, rfl, rfl, HI⟩ := hrel
    have j0 : (0 : Int) ≤ (j : Int) := by omega
    have FR := Lib.hid HI.out.1
    by_cases hlt : j < Ps.length
    · have j1 : (j : Int) < (Ps.length : Int) := by omega
      have HRJ := Lib.hid (show R = _ from HI.out.2.trans (lLinFold_drop (l := L) (all := all) hlt))
      obtain ⟨b, a, cs, e, _, _, _, hr, hcs⟩ := (HPS.out.stay FR.out).at j hlt
      cases e
      obtain ⟨v, rfl, hsv, _⟩ := hr
      have q0 := hcs 0 (by simp)
      have hsz : kRowI.sz = 1 := rfl
      rw [hsz] at q0
      simp only [Nat.mul_one, Nat.add_zero, List.getElem_cons_zero] at q0
      obtain ⟨hpn, hpi⟩ := HIN.out.2 Ps[j] (List.getElem_mem hlt)
      obtain ⟨p, hp⟩ : ∃ p, Ps[j] = p := ⟨_, rfl⟩
      rw [hp] at hsv HRJ hpn hpi
      obtain ⟨sa, sc, rfl, _⟩ := hsv.frm
      have HSV := Lib.hid hsv
      have HPI := Lib.hid hpi
      have HRJ2 := Lib.hid HRJ.out
      clear hcs hsz hp hsv hpi HI HRJ HR
      go_wp2_with fail
      clear q0
      obtain ⟨Wo, rfl⟩ : ∃ W, W = wr := ⟨_, rfl⟩
      go_loopw [9, 31] (fun hv iv wx => ∃ (k : Nat), k ≤ p.length ∧ iv = .int .i64 k ∧ Hid (Build kHap 76 wx hv (lPickI L (p.take k)) ∧ Fr Non Wo wx ∧ ∀ b, hv.ownBlock = some b → Wo.heap.size ≤ b)) (fun _ iv _ => p.length - (intOf iv).toNat)
      case atStart => exact ⟨0, by omega, rfl, by simpa [lPickI] using Build.nil _ _ _, Fr.refl _ _, by simp [Value.ownBlock]⟩
      case round =>
        obtain ⟨k, hk, rfl, HI2⟩ := hrel
        have k0 : (0 : Int) ≤ (k : Int) := by omega
        obtain ⟨g1, f1, g3⟩ := HI2.out
        obtain ⟨oa, oc, rfl⟩ := g1.form
        have HG1 := Lib.hid g1
        have FX := Lib.hid f1
        have G3 := Lib.hid g3
        clear g1 f1 g3 HI2
        by_cases hlt2 : k < p.length
        · have k1 : (k : Int) < (p.length : Int) := by omega
          obtain ⟨b3, a3, cs3, e, _, _, _, hr3, hcs3⟩ := (HSV.out.stay FX.out).at k hlt2
          cases e
          have e2 : cs3 = [.int .i64 p[k]] := hr3.1
          have q0 := hcs3 0 (by rw [e2]; simp)
          have hsz : kI.sz = 1 := rfl
          rw [hsz] at q0
          simp only [e2, Nat.mul_one, Nat.add_zero, List.getElem_cons_zero] at q0
          obtain ⟨x0, x1⟩ := HPI.out p[k] (List.getElem_mem hlt2)
          have HNX := Lib.hid (lPickI_next hlt2 x0 x1)
          obtain ⟨q, hq⟩ : ∃ q : Nat, p[k] = (q : Int) := ⟨p[k].toNat, by omega⟩
          rw [hq] at q0 x0 x1
          have hql : q < L.length := by omega
          have HNX2 := Lib.hid (show lPickI L (p.take (k + 1)) = lPickI L (p.take k) ++ [L[q]] by rw [HNX.out]; simp only [hq, Int.toNat_natCast])
          have x2 : ¬ (q : Int) < 0 := by omega
          have x3 : ¬ L.length ≤ q := by omega
          obtain ⟨b4, a4, ds, e, hr4, _, hlen4, hld4⟩ := hap_held (((HL.out.stay F1.out).stay FR.out).there.stay FX.out) q hql
          cases e
          have LD4 := Lib.hid (hld4 _ (Fr.refl _ _))
          have ONES := Lib.hid (kHap.one hr4)
          obtain ⟨X, hX⟩ : ∃ X, L[q] = X := ⟨_, rfl⟩
          obtain ⟨Y, hY⟩ : ∃ Y, lPickI L (p.take k) = Y := ⟨_, rfl⟩
          have hYL : Y.length ≤ 100 := by rw [← hY]; have := lPickI_len L (p.take k); rw [List.length_take] at this; omega
          rw [hX] at hr4 HNX2
          rw [hY] at HNX2 HG1 G3 ⊢
          have HR4 := Lib.hid hr4
          clear hr3 hcs3 e2 hsz hr4 hld4 HNX hq hX hY
          obtain ⟨rcs, g6, hrow⟩ := HG1.out
          have HROW := Lib.hid hrow
          have hg6 := Lib.hid g6
          clear hrow g6
          go_wp2_with (first | refine wpList_load_w 76 (.pointer (some ⟨b4, a4 + q * 23, none⟩)) _ LD4.out _ rfl rfl (by rfl) ?_ | (at_builtin; refine wpList_append_g rfl _ _ eI76 rfl _ _ _ rfl (hg6.out.keep fun b hb => ?k1) _ 1 ds rfl ?hsrc ?k2 ?k3 ?_))
          case hsrc =>
            have e := fold_set0 ds 0 [] [.int .i64 0, .int .u64 0, .int .u64 0, .slice none 0 0, .int .i64 0, .int .u64 0, .slice none 0 0, .slice none 0 0, .int .i64 0, .int .i64 0, .int .u64 0, .int .i64 0, .int .u64 0, .int .i64 0, .int .i64 0, .int .u64 0, .int .i64 0, .int .u64 0, .bool false, .int .i64 0, .int .i64 0, .bool false, .bool false] rfl (by rw [hlen4]; rfl)
            simp only [List.nil_append] at e
            rw [e]
            exact Src.block (m := 1) (alloc_at wr _) (by simp [hlen4]) ONES.out
          case k1 => exact Below.heap_alloc _ _ _ (hg6.out.lt b hb)
          case k2 => unfold maxLen; omega
          case k3 => omega
          intro v' w7 r1 r2 r3
          go_wp2_with fail
          go_roundw
          case rel =>
            refine ⟨k + 1, by omega, by go_num, ?_, ?_, ?_⟩
            · rw [HNX2.out]
              refine Build.push (w := wr) HROW.out (kHap.mono HR4.out (fun b _ hb e => by have := G3.out b e; omega)) r1 (((Fr.refl _ _).alloc _).trans2 r2 (fun b _ h => h)) ?_
              rcases r3 with r3 | ⟨r3, _⟩
              · exact .inl r3
              · exact .inr ⟨_, r3, by (try simp)⟩
            · exact (FX.out.alloc _).trans2 r2 (fun b hb hx => by have := G3.out b hx; omega)
            · intro b hb
              rcases r3 with r3 | ⟨r3, _⟩
              · exact G3.out b (r3 ▸ hb)
              · rw [r3] at hb; cases hb; have := FX.out.size; (try simp); omega
          case measure => simp [intOf]; omega
        · obtain rfl : k = p.length := by omega
          rw [List.take_length] at HG1 G3 ⊢
          have HG2 := Lib.hid HG1.out.sl
          have FRX := Lib.hid (FR.out.trans FX.out)
          obtain ⟨Y, hY⟩ : ∃ Y, lPickI L p = Y := ⟨_, rfl⟩
          rw [hY] at HG2 HRJ2 ⊢
          clear HG1 G3 hY
          go_wp2_with fail
          refine (order_any HG2.out).mono ?_
          rintro e w5 ⟨v5, rfl, hv5, f5⟩
          obtain ⟨v5a, v5c, rfl, _⟩ := hv5.frm
          obtain ⟨O, hO⟩ : ∃ O, lOrder Y = O := ⟨_, rfl⟩
          rw [hO] at HRJ2 ⊢
          obtain ⟨o5, ok5, er5⟩ := O
          simp only at HRJ2 ⊢
          have F5 := Lib.hid (FRX.out.trans f5)
          clear hO hv5 f5 HG2
          by_cases h0 : er5 = 0
          rotate_left
          · have n0 : (er5 != 0) = true := by simpa using h0
            have HE := Lib.hid (show R = (false, er5) by rw [HRJ2.out, if_neg h0])
            go_wp2_with fail
            refine bodyPost_ret (v := .tuple #[.bool false, .int .i64 er5]) (by simp [results, Try.results67, go_sem]) rfl ⟨by rw [HE.out], F1.out.trans F5.out⟩
          subst h0
          have HE := Lib.hid (show R = lLinFold L (all && ok5) (Ps.drop (j + 1)) by rw [HRJ2.out, if_pos rfl])
          cases all with
          | false =>
            go_wp2_with fail
            go_roundw
            case rel => exact ⟨j + 1, false, by omega, by go_num, rfl, F5.out, by rw [HE.out]; rfl⟩
            case measure => simp [intOf]; omega
          | true =>
            go_wp2_with fail
            go_roundw
            case rel => exact ⟨j + 1, ok5, by omega, by go_num, rfl, F5.out, by rw [HE.out]; rfl⟩
            case measure => simp [intOf]; omega
    · obtain rfl : j = Ps.length := by omega
      have HE := Lib.hid (show R = (all, 0) by rw [HI.out.2, List.drop_length, lLinFold])
      clear HR HI
      go_wp2_with fail
      refine bodyPost_ret (v := .tuple #[.bool all, .int .i64 0]) (by simp [results, Try.results67, go_sem]) rfl ⟨by rw [HE.out], F1.out.trans FR.out⟩
end Go.Proofs.Ytplhcfaonhkegaa

namespace Go.Proofs.Ytplhcfaonhkegaa
open Go.RowKit

def lPlN (K : Int) : Nat → List MHap → List Nat
  | _, [] => []
  | n, x :: l => if x.1.2.1 = K then n :: lPlN K (n + 1) l else lPlN K (n + 1) l
theorem lPl_nat (K : Int) : ∀ (n : Nat) (l : List MHap), lPl K n l = (lPlN K n l).map fun i : Nat => (i : Int)
  | _, [] => rfl
  | n, x :: l => by
    rw [lPl, lPlN, lPl_nat K (n + 1) l]
    split <;> rfl
theorem lPlN_mem (K : Int) : ∀ (n : Nat) (l : List MHap) (k : Nat), k ∈ lPlN K n l ↔ n ≤ k ∧ ∃ x, l[k - n]? = some x ∧ x.1.2.1 = K
  | n, [], k => by simp [lPlN]
  | n, y :: l, k => by
    have ih := lPlN_mem K (n + 1) l k
    have e : ∀ h : n + 1 ≤ k, (y :: l)[k - n]? = l[k - (n + 1)]? := fun h => by
      rw [show k - n = (k - (n + 1)) + 1 by omega, List.getElem?_cons_succ]
    rw [lPlN]
    split
    · rename_i hy
      rw [List.mem_cons, ih]
      constructor
      · rintro (rfl | ⟨h1, x, h2, h3⟩)
        · exact ⟨Nat.le_refl _, y, by simp, hy⟩
        · exact ⟨by omega, x, by rw [e h1]; exact h2, h3⟩
      · rintro ⟨h1, x, h2, h3⟩
        by_cases hk : k = n
        · exact .inl hk
        · exact .inr ⟨by omega, x, by rw [← e (by omega)]; exact h2, h3⟩
    · rename_i hy
      rw [ih]
      constructor
      · rintro ⟨h1, x, h2, h3⟩
        exact ⟨by omega, x, by rw [e h1]; exact h2, h3⟩
      · rintro ⟨h1, x, h2, h3⟩
        by_cases hk : k = n
        · subst hk
          simp only [Nat.sub_self, List.getElem?_cons_zero, Option.some.injEq] at h2
          subst h2
          exact absurd h3 hy
        · exact ⟨by omega, x, by rw [← e (by omega)]; exact h2, h3⟩
theorem lPlN_nodup (K : Int) : ∀ (n : Nat) (l : List MHap), (lPlN K n l).Nodup
  | _, [] => List.nodup_nil
  | n, y :: l => by
    have ih := lPlN_nodup K (n + 1) l
    rw [lPlN]
    split
    · refine List.nodup_cons.2 ⟨fun h => ?_, ih⟩
      have := ((lPlN_mem K (n + 1) l n).1 h).1
      omega
    · exact ih
theorem firstAt_lt (p : MHap → Bool) : ∀ (l : List MHap) (n i : Nat), firstAt p n l = ((n + i : Nat) : Int) → (∃ h : i < l.length, p l[i] = true) ∧ ∀ k (hk : k < l.length), k < i → p l[k] = false
  | [], n, i, h => by
    rw [firstAt] at h
    omega
  | x :: l, n, i, h => by
    rw [firstAt] at h
    split at h
    · rename_i hx
      obtain rfl : i = 0 := by omega
      exact ⟨⟨by simp, by simpa using hx⟩, fun k _ hk => by omega⟩
    · rename_i hx
      cases i with
      | zero =>
        exfalso
        have : ∀ (l : List MHap) (m : Nat), firstAt p m l = -1 ∨ (m : Int) ≤ firstAt p m l := fun l => by
          induction l with
          | nil => intro m; exact .inl rfl
          | cons y l ih =>
            intro m
            rw [firstAt]
            split
            · exact .inr (Int.le_refl _)
            · rcases ih (m + 1) with h | h
              · exact .inl (by simpa using h)
              · refine .inr ?_
                have : ((m + 1 : Nat) : Int) = (m : Int) + 1 := by omega
                rw [this] at h
                omega
        have h2 := this l (n + 1)
        have e : ((n + 1 : Nat) : Int) = (n : Int) + 1 := by omega
        rw [e] at h2
        omega
      | succ i =>
        have e : ((n + 1 : Nat) : Int) = (n : Int) + 1 := by omega
        rw [← e] at h
        obtain ⟨⟨h1, h2⟩, h3⟩ := firstAt_lt p l (n + 1) i (by rw [h]; congr 1; omega)
        refine ⟨⟨by simpa using h1, by simpa using h2⟩, fun k hk hki => ?_⟩
        cases k with
        | zero => simpa using hx
        | succ k => simpa using h3 k (by simpa using hk) (by omega)
theorem firstAt_of (p : MHap → Bool) : ∀ (l : List MHap) (n i : Nat) (h : i < l.length), p l[i] = true → (∀ k (hk : k < l.length), k < i → p l[k] = false) → firstAt p n l = ((n + i : Nat) : Int)
  | [], n, i, h, _, _ => by simp at h
  | x :: l, n, i, h, h1, h2 => by
    rw [firstAt]
    cases i with
    | zero => rw [if_pos (by simpa using h1)]; rfl
    | succ i =>
      have h0 := h2 0 (by simp) (by omega)
      rw [if_neg (by simpa using h0)]
      have e : ((n + 1 : Nat) : Int) = (n : Int) + 1 := by omega
      rw [← e, firstAt_of p l (n + 1) i (by simpa using h) (by simpa using h1) fun k hk hki => by have := h2 (k + 1) (by simp; omega) (by omega); rw [List.getElem_cons_succ] at this; exact this]
      congr 1
      omega
theorem first_exists (p : MHap → Bool) : ∀ (l : List MHap) (i : Nat) (h : i < l.length), p l[i] = true → ∃ j, ∃ hj : j < l.length, p l[j] = true ∧ ∀ k (hk : k < l.length), k < j → p l[k] = false
  | [], i, h, _ => by simp at h
  | x :: l, i, h, hp => by
    by_cases hx : p x = true
    · exact ⟨0, by simp, by simpa using hx, fun k _ hk => by omega⟩
    · cases i with
      | zero => exact absurd hp hx
      | succ i =>
        obtain ⟨j, hj, h1, h2⟩ := first_exists p l i (by simpa using h) (by simpa using hp)
        refine ⟨j + 1, by simpa using hj, by simpa using h1, fun k hk hkj => ?_⟩
        cases k with
        | zero => simpa using hx
        | succ k => simpa using h2 k (by simpa using hk) (by omega)
theorem lKeysAt_mem (l : List MHap) : ∀ (n : Nat) (r : List MHap) (P : List Int), P ∈ lKeysAt l n r ↔ ∃ i x, r[i]? = some x ∧ firstAt (fun y => decide (y.1.2.1 = x.1.2.1)) 0 l = ((n + i : Nat) : Int) ∧ P = lPl x.1.2.1 (n + i) (r.drop i)
  | n, [], P => by simp [lKeysAt]
  | n, y :: r, P => by
    have ih := lKeysAt_mem l (n + 1) r P
    have e : ∀ i, n + 1 + i = n + (i + 1) := fun i => by omega
    simp only [e] at ih
    rw [lKeysAt]
    split
    · rename_i hf
      rw [List.mem_cons, ih]
      constructor
      · rintro (rfl | ⟨i, x, h1, h2, h3⟩)
        · exact ⟨0, y, by simp, hf, rfl⟩
        · exact ⟨i + 1, x, by simpa using h1, h2, by simpa using h3⟩
      · rintro ⟨i, x, h1, h2, h3⟩
        cases i with
        | zero =>
          simp only [List.getElem?_cons_zero, Option.some.injEq] at h1
          subst h1
          exact .inl h3
        | succ i => exact .inr ⟨i, x, by simpa using h1, h2, by simpa using h3⟩
    · rename_i hf
      rw [ih]
      constructor
      · rintro ⟨i, x, h1, h2, h3⟩
        exact ⟨i + 1, x, by simpa using h1, h2, by simpa using h3⟩
      · rintro ⟨i, x, h1, h2, h3⟩
        cases i with
        | zero =>
          simp only [List.getElem?_cons_zero, Option.some.injEq] at h1
          subst h1
          exact absurd h2 hf
        | succ i => exact ⟨i, x, by simpa using h1, h2, by simpa using h3⟩
/-- A part is the places of a key's. -/
theorem part_of {l : List MHap} {P : List Int} (h : P ∈ lKeysAt l 0 l) : ∃ (K : Int) (Q : List Nat), P = (Q.map fun i : Nat => (i : Int)) ∧ Q.Nodup ∧ ∀ k, k ∈ Q ↔ ∃ x, l[k]? = some x ∧ x.1.2.1 = K := by
  obtain ⟨i, x, h1, h2, rfl⟩ := (lKeysAt_mem l 0 l P).1 h
  simp only [Nat.zero_add] at h2 ⊢
  have h2' : firstAt (fun y => decide (y.1.2.1 = x.1.2.1)) ((0 : Nat) : Int) l = ((0 + i : Nat) : Int) := by rw [Nat.zero_add]; exact h2
  obtain ⟨_, hb⟩ := firstAt_lt _ l 0 i h2'
  refine ⟨x.1.2.1, lPlN x.1.2.1 i (l.drop i), lPl_nat _ _ _, lPlN_nodup _ _ _, fun k => ?_⟩
  rw [lPlN_mem]
  constructor
  · rintro ⟨hk, y, hy, e⟩
    rw [List.getElem?_drop, show i + (k - i) = k by omega] at hy
    exact ⟨y, hy, e⟩
  · rintro ⟨y, hy, e⟩
    obtain ⟨hk, rfl⟩ := List.getElem?_eq_some_iff.1 hy
    have hik : i ≤ k := by
      by_cases hlt : k < i
      · have := hb k hk hlt
        simp [e] at this
      · omega
    exact ⟨hik, _, by rw [List.getElem?_drop, show i + (k - i) = k by omega]; exact hy, e⟩
theorem part_has {l : List MHap} {K : Int} {k : Nat} {x : MHap} (hx : l[k]? = some x) (hK : x.1.2.1 = K) : ∃ Q : List Nat, (Q.map fun i : Nat => (i : Int)) ∈ lKeysAt l 0 l ∧ Q.Nodup ∧ ∀ k, k ∈ Q ↔ ∃ x, l[k]? = some x ∧ x.1.2.1 = K := by
  obtain ⟨hk, rfl⟩ := List.getElem?_eq_some_iff.1 hx
  obtain ⟨j, hj, h1, h2⟩ := first_exists (fun y => decide (y.1.2.1 = K)) l k hk (by simpa using hK)
  have hKj : l[j].1.2.1 = K := by simpa using h1
  have hf := firstAt_of (fun y => decide (y.1.2.1 = K)) l 0 j hj h1 h2
  have hm : lPl K j (l.drop j) ∈ lKeysAt l 0 l := (lKeysAt_mem l 0 l _).2 ⟨j, l[j], List.getElem?_eq_getElem hj, by rw [hKj]; exact hf, by rw [hKj, Nat.zero_add]⟩
  obtain ⟨K', Q, e, hn, hq⟩ := part_of hm
  have hjQ : j ∈ lPlN K j (l.drop j) := (lPlN_mem _ _ _ _).2 ⟨Nat.le_refl _, l[j], by rw [List.getElem?_drop]; simp [List.getElem?_eq_getElem hj], hKj⟩
  have hjQ' : j ∈ Q := by
    have : (j : Int) ∈ Q.map fun i : Nat => (i : Int) := by rw [← e, lPl_nat]; exact List.mem_map.2 ⟨j, hjQ, rfl⟩
    obtain ⟨i, hi, h⟩ := List.mem_map.1 this
    have : i = j := by omega
    exact this ▸ hi
  obtain ⟨y, hy, e2⟩ := (hq j).1 hjQ'
  rw [List.getElem?_eq_getElem hj] at hy
  cases hy
  rw [hKj] at e2
  subst e2
  exact ⟨Q, e ▸ hm, hn, hq⟩
theorem pick_nat {l : List MHap} (Q : List Nat) : lPickI l (Q.map fun i : Nat => (i : Int)) = lPick l Q := by
  unfold lPickI lPick
  rw [List.filterMap_map]
  rfl
theorem pick_sub {l : List MHap} {Q : List Nat} (hc : lCheck l = 0) (hl : Q.length ≤ l.length) : lCheck (lPick l Q) = 0 := by
  obtain ⟨h1, h2⟩ := lCheck_iff.1 hc
  refine lCheck_iff.2 ⟨?_, fun x hx => ?_⟩
  · have := List.length_filterMap_le (fun i => l[i]?) Q
    unfold lPick
    omega
  · obtain ⟨i, _, hi⟩ := pick_mem hx
    exact h2 x (List.mem_of_getElem? hi)
theorem lOrder_code {l : List MHap} (hc : lCheck l = 0) : (lOrder l).2.2 = 0 ∨ (lOrder l).2.2 = 3 := by
  unfold lOrder
  rw [if_pos hc]
  obtain ⟨⟨s, r⟩, hX⟩ : ∃ X, lLook l (l.length + 1) 0 [] [] ([], false) = X := ⟨_, rfl⟩
  rw [hX]
  simp only
  cases hs : s.2 with
  | true => simp
  | false => simp
theorem lOrder_ok {l : List MHap} (hc : lCheck l = 0) (h0 : (lOrder l).2.2 = 0) : (lOrder l).2.1 = true ↔ ∃ ps, Ord l ps := by
  constructor
  · intro h
    obtain ⟨_, ps, _, ho⟩ := lFollows_iff.1 (lOrder_found h).1
    exact ⟨ps, ho⟩
  · rintro ⟨ps, ho⟩
    cases hb : (lOrder l).2.1 with
    | true => rfl
    | false =>
      have := lOrder_none hb h0 (ps.map fun i : Nat => (i : Int))
      rw [lFollows_iff.2 ⟨hc, ps, rfl, ho⟩] at this
      cases this
theorem fold_said {l : List MHap} : ∀ (Ps : List (List Int)) (all : Bool), (∀ P ∈ Ps, (lOrder (lPickI l P)).2.2 = 0 ∨ (lOrder (lPickI l P)).2.2 = 3) →
    (lLinFold l all Ps).2 = 3 ∨ ((lLinFold l all Ps).2 = 0 ∧ (∀ P ∈ Ps, (lOrder (lPickI l P)).2.2 = 0) ∧ ((lLinFold l all Ps).1 = true ↔ all = true ∧ ∀ P ∈ Ps, (lOrder (lPickI l P)).2.1 = true))
  | [], all, _ => .inr ⟨rfl, by simp, by simp [lLinFold]⟩
  | P :: Ps, all, h => by
    rw [lLinFold]
    rcases h P (by simp) with h0 | h0
    · rw [if_pos h0]
      rcases fold_said Ps (all && (lOrder (lPickI l P)).2.1) (fun Q hQ => h Q (by simp [hQ])) with h1 | ⟨h1, h2, h3⟩
      · exact .inl h1
      · refine .inr ⟨h1, fun Q hQ => ?_, ?_⟩
        · rcases List.mem_cons.1 hQ with rfl | hQ
          · exact h0
          · exact h2 Q hQ
        · rw [h3, Bool.and_eq_true]
          constructor
          · rintro ⟨⟨a, b⟩, c⟩
            refine ⟨a, fun Q hQ => ?_⟩
            rcases List.mem_cons.1 hQ with rfl | hQ
            · exact b
            · exact c Q hQ
          · rintro ⟨a, b⟩
            exact ⟨⟨a, b P (by simp)⟩, fun Q hQ => b Q (by simp [hQ])⟩
    · rw [if_neg (by omega)]
      exact .inl h0
theorem may_one {x : MHap} (h : lMay x = true) (h4 : ¬ x.1.1 = 4) : kOne x := by
  unfold lMay at h
  simp only [Bool.and_eq_true, decide_eq_true_eq] at h
  have hc := h.1
  refine ⟨?_, hc⟩
  unfold mCallOk at hc
  by_cases e1 : x.1.1 = 1
  · exact .inl e1
  · rw [if_neg e1] at hc
    by_cases e2 : x.1.1 = 2 ∨ x.1.1 = 3 ∨ x.1.1 = 4
    · omega
    · rw [if_neg e2] at hc
      by_cases e5 : x.1.1 = 5
      · exact absurd e5 h.2.1
      · rw [if_neg e5] at hc
        cases hc
theorem may_ahead {x : MHap} (h : lMay x = true) : hAhead x x = false := by
  unfold lMay at h
  unfold hAhead
  cases ho : x.2.2.2.2.1 with
  | true => rfl
  | false =>
    rw [ho] at h
    simp at h
    simp
    omega
/-- There is an order of all just if there is one of each part. -/
theorem parts_ord {l : List MHap} (hc : lCheck l = 0) : (∃ ps, Ord l ps) ↔ ∀ P ∈ (lParts l).1, ∃ qs, Ord (lPickI l P) qs := by
  obtain ⟨hl, hm⟩ := lCheck_iff.1 hc
  unfold lParts
  rw [if_pos hc]
  by_cases h4 : l.any (fun x => decide (x.1.1 = 4)) = true
  · rw [if_pos h4]
    have e : lPickI l (lAllPl l) = l := by
      unfold lAllPl
      rw [pick_nat]
      unfold lPick
      apply List.ext_getElem?
      intro k
      by_cases hk : k < l.length
      · have := pick_get (l := l) (P := List.range l.length) (fun p hp => List.mem_range.1 hp) k
        unfold lPick at this
        rw [this, List.getElem?_range hk, Option.bind_some]
      · have := pick_get (l := l) (P := List.range l.length) (fun p hp => List.mem_range.1 hp) k
        unfold lPick at this
        rw [this, List.getElem?_eq_none (by simpa using hk), List.getElem?_eq_none (by omega)]
        rfl
    constructor
    · rintro h P hP
      obtain rfl : P = lAllPl l := by simpa using hP
      rw [e]
      exact h
    · intro h
      have := h (lAllPl l) (by simp)
      rw [e] at this
      exact this
  · rw [if_neg h4]
    have h4' : ∀ x ∈ l, ¬ x.1.1 = 4 := fun x hx e => h4 (List.any_eq_true.2 ⟨x, hx, by simpa using e⟩)
    have hone : ∀ x ∈ l, kOne x := fun x hx => may_one (hm x hx) (h4' x hx)
    constructor
    · rintro ⟨ps, hps⟩ P hP
      obtain ⟨K, Q, rfl, hn, hq⟩ := part_of hP
      have hK := key_of_all hone hps K
      obtain ⟨qs, e⟩ := part_to (P := Q) (q := ps.filter (kAt l K)) fun i hi => (hq i).2 (hK.mem i hi)
      rw [pick_nat]
      exact ⟨qs, (part_iff hone hn hq e).2 hK⟩
    · intro h
      refine all_of_keys hone (fun x hx => may_ahead (hm x hx)) fun K => ?_
      by_cases hex : ∃ (k : Nat) (x : MHap), l[k]? = some x ∧ x.1.2.1 = K
      · obtain ⟨k, x, hx, hK⟩ := hex
        obtain ⟨Q, hm', hn, hq⟩ := part_has hx hK
        obtain ⟨qs, ho⟩ := h _ hm'
        rw [pick_nat] at ho
        have hlt : ∀ p ∈ Q, p < l.length := fun p hp => by
          obtain ⟨x, hx, _⟩ := (hq p).1 hp
          exact (List.getElem?_eq_some_iff.1 hx).1
        obtain ⟨q, e⟩ := part_from (P := Q) (qs := qs) fun k hk => by
          have h1 := ho.lt k hk
          have h2 := List.length_filterMap_le (fun i => l[i]?) Q
          unfold lPick at h1
          omega
        exact ⟨q, (part_iff hone hn hq e).1 ho⟩
      · exact ⟨[], (fun i hi => by cases hi), List.nodup_nil, List.Pairwise.nil, fun k x hx hK _ => absurd ⟨k, x, hx, hK⟩ hex, rfl⟩
theorem parts_code {l : List MHap} (hc : lCheck l = 0) : ∀ P ∈ (lParts l).1, lCheck (lPickI l P) = 0 := by
  intro P hP
  obtain ⟨h1, h2⟩ := (lParts_in (l := l)).2 P hP
  obtain ⟨h3, h4⟩ := lCheck_iff.1 hc
  refine lCheck_iff.2 ⟨?_, fun x hx => ?_⟩
  · have := lPickI_len l P
    omega
  · obtain ⟨i, _, hi⟩ := List.mem_filterMap.1 hx
    exact h4 x (List.mem_of_getElem? hi)
/-- The law of locality. -/
theorem lin_local (l : List MHap) : (lOrder l).2.2 = 3 ∨ (lLinear l).2 = 3 ∨ ((lOrder l).2.2 = (lLinear l).2 ∧ (lOrder l).2.1 = (lLinear l).1) := by
  by_cases hc : lCheck l = 0
  · rcases lOrder_code hc with h0 | h0
    · have e : lLinear l = lLinFold l true (lParts l).1 := by
        unfold lLinear
        rw [if_pos (by unfold lParts; rw [if_pos hc]; split <;> rfl)]
      rw [e]
      rcases fold_said (lParts l).1 true (fun P hP => lOrder_code (parts_code hc P hP)) with h1 | ⟨h1, h2, h3⟩
      · exact .inr (.inl h1)
      · refine .inr (.inr ⟨by rw [h0, h1], ?_⟩)
        have h4 := lOrder_ok hc h0
        rw [Bool.eq_iff_iff, h4, h3, parts_ord hc]
        constructor
        · intro h
          exact ⟨rfl, fun P hP => (lOrder_ok (parts_code hc P hP) (h2 P hP)).2 (h P hP)⟩
        · rintro ⟨_, h⟩ P hP
          exact (lOrder_ok (parts_code hc P hP) (h2 P hP)).1 (h P hP)
    · exact .inl h0
  · refine .inr (.inr ?_)
    have e1 : lOrder l = ([], false, lCheck l) := by unfold lOrder; rw [if_neg hc]
    have e2 : lParts l = ([], lCheck l) := by unfold lParts; rw [if_neg hc]
    unfold lLinear
    rw [e1, e2, if_neg hc]
    exact ⟨rfl, rfl⟩
/-- What has an order is linearizable, as far as the search goes. -/
theorem lin_has {l : List MHap} (hc : lCheck l = 0) (h : ∃ ps, Ord l ps) : (lLinear l).2 = 3 ∨ ((lLinear l).2 = 0 ∧ (lLinear l).1 = true) := by
  have e : lLinear l = lLinFold l true (lParts l).1 := by
    unfold lLinear
    rw [if_pos (by unfold lParts; rw [if_pos hc]; split <;> rfl)]
  rw [e]
  rcases fold_said (lParts l).1 true (fun P hP => lOrder_code (parts_code hc P hP)) with h1 | ⟨h1, h2, h3⟩
  · exact .inl h1
  · exact .inr ⟨h1, h3.2 ⟨rfl, fun P hP => (lOrder_ok (parts_code hc P hP) (h2 P hP)).2 ((parts_ord hc).1 h P hP)⟩⟩
end Go.Proofs.Ytplhcfaonhkegaa

namespace Go.Proofs.Ytplhcfaonhkegaa
open Go.RowKit Go.Maps

set_option maxRecDepth 100000 in
set_option maxHeartbeats 4000000 in
theorem linLocal_any {w : World} {u : Value} {L : List MHap} (hl : Sl kHap All w u L) :
    Calls Try.prog 19 #[u] w fun e w' => e = .returned (.bool true) ∧ Fr Non w w' := by
  obtain ⟨va, vc, rfl, _⟩ := hl.frm
  have HL := Lib.hid hl
  clear hl
  go_enter Try.func19, Try.ntmps19
  go_wp2_with fail
  refine (lawake_any w).mono ?_
  rintro e w1 ⟨rfl, f1⟩
  go_wp2_with fail
  refine (lcut_any (HL.out.stay f1) 9 (by decide)).mono ?_
  rintro e w2 ⟨v2, rfl, hv2, f2⟩
  obtain ⟨l, hl⟩ : ∃ l, lCut 9 L = l := ⟨_, rfl⟩
  rw [hl] at hv2
  obtain ⟨l2a, l2c, rfl, _⟩ := hv2.frm
  have HV2 := Lib.hid hv2
  have F2 := Lib.hid (f1.trans f2)
  clear hl hv2 f1 f2 HL
  go_wp2_with fail
  refine (order_any HV2.out).mono ?_
  rintro e w3 ⟨v3, rfl, hv3, f3⟩
  obtain ⟨v3a, v3c, rfl, _⟩ := hv3.frm
  have F3 := Lib.hid (F2.out.trans f3)
  have HLI := Lib.hid (linear_any (HV2.out.stay f3))
  have HLW := Lib.hid (lin_local l)
  obtain ⟨R, hR⟩ : ∃ R, lOrder l = R := ⟨_, rfl⟩
  obtain ⟨T, hT⟩ : ∃ T, lLinear l = T := ⟨_, rfl⟩
  rw [hR, hT] at HLW
  rw [hR]
  rw [hT] at HLI
  obtain ⟨o, ok, er⟩ := R
  obtain ⟨ok2, er2⟩ := T
  simp only at HLW HLI ⊢
  clear hR hT f3 hv3 HV2 F2
  go_wp2_with fail
  refine HLI.out.mono ?_
  rintro e w4 ⟨rfl, f4⟩
  have F4 := Lib.hid (F3.out.trans f4)
  clear f4 HLI F3
  by_cases h1 : er = 3
  · subst h1
    go_wp2_with fail
    go_ret
    exact ⟨by rfl, F4.out⟩
  have g1 : (er == 3) = false := by simpa using h1
  by_cases h2 : er2 = 3
  · subst h2
    go_wp2_with fail
    go_ret
    exact ⟨by rfl, F4.out⟩
  have g2 : (er2 == 3) = false := by simpa using h2
  obtain ⟨rfl, rfl⟩ := (HLW.out.resolve_left h1).resolve_left h2
  go_wp2_with fail
  go_ret
  exact ⟨by simp, F4.out⟩
end Go.Proofs.Ytplhcfaonhkegaa
