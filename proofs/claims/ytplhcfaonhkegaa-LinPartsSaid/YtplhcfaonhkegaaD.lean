/-
  A region that draws its order, walked in one order that is picked: the soft operations as early as they may come, then the tail.
-/
import Derived.OrdersHeld
import Derived.StillTail
import Derived.RegionTactic
import Derived.KernelRfl
namespace Go.Proofs.Ytplhcfaonhkegaa
open Go

/-- How an operation is met: held (soft: its value is the same in every world that meets S), free (soft: the same in every world), kept (carried out; S holds behind it), last (carried out, behind all that is held). -/
inductive Way where
  | held | free | kept | last
  deriving DecidableEq

/-- The order that is picked. -/
abbrev Plan := List (Way × Nat)
def Plan.way (p : Plan) (i : Nat) : Way := match p.find? (fun x => x.2 == i) with | some x => x.1 | none => .last

section
variable {P : Program} {ops : Array Oper} {Q : Exit → Act → World → Prop} {S : World → Prop} {kd : Nat → Way}

/-- Whatever order is picked from here on. -/
def wpX (P : Program) (ops : Array Oper) (Q : Exit → Act → World → Prop) (S : World → Prop) (kd : Nat → Way) : Nat → Array Bool → Act → World → Prop
  | 0, listed, a, w => Region.ready .any ops listed = [] ∧ Q .normal a w
  | fuel + 1, listed, a, w =>
    (Region.ready .any ops listed = [] → Q .normal a w) ∧
    ∀ i ∈ Region.ready .any ops listed, wpOp P ops Q i (fun a' w' => (kd i = .held ∨ kd i = .kept → S w') ∧ (kd i = .free → w' = w) ∧ wpX P ops Q S kd fuel (listed.setIfInBounds i true) a' w') a w

theorem wpAny_of_X : ∀ (fuel : Nat) (listed : Array Bool) (a : Act) (w : World), wpX P ops Q S kd fuel listed a w → wpAny P .any ops Q fuel listed a w
  | 0, _, _, _, h => h
  | fuel + 1, _, _, _, h => ⟨h.1, fun i hi => wpOp_mono (fun a' w' h' => wpAny_of_X fuel _ a' w' h'.2.2) (h.2 i hi)⟩

/-- As far as one may come without i. -/
structure Without (ops : Array Oper) (i : Nat) (L : Array Bool) : Prop where
  shut : ∀ j ∈ Region.ready .any ops L, j = i

theorem Without.step {i : Nat} {L listed : Array Bool} (h : Without ops i L) (hs : listed.size = L.size) (hsub : ∀ k, listed.getD k false = true → L.getD k false = true) {j : Nat} (hj : j ∈ Region.ready .any ops listed) (hne : j ≠ i) : L.getD j false = true := by
  obtain ⟨hun, oj, hoj, hall⟩ := mem_ready.1 hj
  cases hl : L.getD j false with
  | true => rfl
  | false =>
    have hlt : j < L.size := by
      rw [← hs]
      rcases Nat.lt_or_ge j listed.size with h | h
      · exact h
      · simp [Array.getElem?_eq_none h] at hun
    exact absurd (h.shut j (mem_ready.2 ⟨getD_in hlt hl, oj, hoj, fun e he hb => hsub _ (hall e he hb)⟩)) hne

theorem wpX_first {i : Nat} {oi : Oper} {v : Value} {S' : World → Prop} (hi : ops[i]? = some oi) (hsel : ∀ (j : Nat) (o : Oper) cs b, ops[j]? = some o → o.op ≠ .select cs b)
    (hQ : ∀ c a w, Q (.panic c) (a.put oi.dst v) w → Q (.panic c) a w) (hk : kd i = .held ∧ S' = S ∨ kd i = .free ∧ S' = fun _ => True)
    (L : Array Bool) (hL : kd i = .held → Without ops i L ∧ ∀ j, L.getD j false = true → kd j ≠ .last) :
    ∀ (fuel : Nat) (listed : Array Bool) (a : Act) (w : World), (kd i = .held → listed.size = L.size ∧ ∀ k, listed.getD k false = true → L.getD k false = true) →
      (∀ j oj, ops[j]? = some oj → j ≠ i → listed.getD j true = false → (∀ e ∈ oj.after, Region.binds .any e = true → e.on ≠ i) → oi.apart ops oj = true) →
      i ∈ Region.ready .any ops listed → YieldsIf P ops S' oi v a → S' w →
      wpX P ops Q S kd fuel (listed.setIfInBounds i true) (a.put oi.dst v) w → wpX P ops Q S kd (fuel + 1) listed a w := by
  have own : ∀ {w : World}, S' w → (kd i = .held ∨ kd i = .kept → S w) := by
    intro w hS h
    rcases hk with ⟨_, rfl⟩ | ⟨hk, _⟩
    · exact hS
    · rw [hk] at h; simp at h
  intro fuel
  induction fuel with
  | zero =>
    intro listed a w _ _ hr hy hS H
    refine ⟨fun h => (by rw [h] at hr; cases hr), fun j hj => ?_⟩
    by_cases hji : j = i
    · subst hji; exact hy.wpOp hi hS ⟨own hS, fun _ => rfl, H⟩
    · have := ready_mono hj hji
      rw [H.1] at this
      cases this
  | succ fuel ih =>
    intro listed a w hsub hfree hr hy hS H
    refine ⟨fun h => (by rw [h] at hr; cases hr), fun j hj => ?_⟩
    by_cases hji : j = i
    · subst hji; exact hy.wpOp hi hS ⟨own hS, fun _ => rfl, H⟩
    · have h1 := H.2 j (ready_mono hj hji)
      obtain ⟨hjun, oj, hoj, hall⟩ := mem_ready.1 hj
      have hnot : ∀ e ∈ oj.after, Region.binds .any e = true → e.on ≠ i := fun e he hb heq => by
        have h1 := hall e he hb
        rw [heq, getD_both (mem_ready.1 hr).1] at h1
        cases h1
      have h2 := wpOp_putIf hoj (hfree j oj hoj hji hjun hnot) (fun cs b => hsel i oi cs b hi) (fun cs b => hsel j oj cs b hoj) hQ hy h1
      have hfree' : ∀ k ok, ops[k]? = some ok → k ≠ i → (listed.setIfInBounds j true).getD k true = false →
          (∀ e ∈ ok.after, Region.binds .any e = true → e.on ≠ i) → oi.apart ops ok = true := fun k ok hk hki hun hno => by
        refine hfree k ok hk hki ?_ hno
        by_cases hjk : j = k
        · subst hjk; exact hjun
        · rw [getD_set_ne true hjk] at hun; exact hun
      have hin : kd i = .held → L.getD j false = true := fun h => (hL h).1.step (hsub h).1 (hsub h).2 hj hji
      have hsub' : kd i = .held → (listed.setIfInBounds j true).size = L.size ∧ ∀ k, (listed.setIfInBounds j true).getD k false = true → L.getD k false = true := fun h => by
        refine ⟨by simpa using (hsub h).1, fun k hk => ?_⟩
        by_cases hjk : j = k
        · subst hjk; exact hin h
        · rw [getD_set_ne false hjk] at hk; exact (hsub h).2 k hk
      refine wpOp_mono (fun a' w' h3 => ?_) h2
      obtain ⟨hy', h4, h5, h6⟩ := h3
      have hS' : S' w' := by
        rcases hk with ⟨hk, rfl⟩ | ⟨_, rfl⟩
        · have hnl := (hL hk).2 j (hin hk)
          cases hkj : kd j with
          | held => exact h4 (.inl hkj)
          | kept => exact h4 (.inr hkj)
          | free => rw [h5 hkj]; exact hS
          | last => exact absurd hkj hnl
        · trivial
      refine ⟨h4, h5, ih (listed.setIfInBounds j true) a' w' hsub' hfree' (ready_mono hr (Ne.symm hji)) hy' hS' ?_⟩
      rw [Array.setIfInBounds_comm _ _ hji]
      exact h6

def wpPlan (P : Program) (ops : Array Oper) (Q : Exit → Act → World → Prop) (S : World → Prop) (T : Act → World → Prop) : Plan → Act → World → Prop
  | [], a, w => T a w
  | (.held, i) :: rest, a, w => ∃ o v, ops[i]? = some o ∧ YieldsIf P ops S o v a ∧ wpPlan P ops Q S T rest (a.put o.dst v) w
  | (.free, i) :: rest, a, w => ∃ o v, ops[i]? = some o ∧ YieldsIf P ops (fun _ => True) o v a ∧ wpPlan P ops Q S T rest (a.put o.dst v) w
  | (_, i) :: rest, a, w => wpOp P ops Q i (fun a' w' => S w' ∧ wpPlan P ops Q S T rest a' w') a w

/-- As far as one comes without i. -/
def without (ops : Array Oper) (i : Nat) : Nat → Array Bool → Array Bool
  | 0, l => l
  | f + 1, l => match (Region.ready .any ops l).filter (· != i) with
    | [] => l
    | rs => without ops i f (rs.foldl (fun l j => l.setIfInBounds j true) l)

def heldOk (ops : Array Oper) (p : Plan) (i : Nat) (listed L : Array Bool) : Bool :=
  (Region.ready .any ops L).all (· == i) && decide (listed.size = L.size) && (List.range ops.size).all (fun j => (!listed.getD j false || L.getD j false) && (!L.getD j false || decide (p.way j ≠ .last)))

def headOk (ops : Array Oper) (p : Plan) : Plan → Array Bool → Option (Array Bool)
  | [], listed => some listed
  | (.held, i) :: rest, listed => if (Region.ready .any ops listed).contains i && Region.free .any ops listed i && heldOk ops p i listed (without ops i ops.size (Array.replicate ops.size false)) && decide (p.way i = .held) then headOk ops p rest (listed.setIfInBounds i true) else none
  | (.free, i) :: rest, listed => if (Region.ready .any ops listed).contains i && Region.free .any ops listed i && decide (p.way i = .free) then headOk ops p rest (listed.setIfInBounds i true) else none
  | (.kept, i) :: rest, listed => if Region.ready .any ops listed = [i] ∧ p.way i = .kept then headOk ops p rest (listed.setIfInBounds i true) else none
  | (.last, _) :: _, _ => none

/-- Part by part: behind each one, all of its operations have come. -/
def segsOk (ops : Array Oper) : List Plan → Array Bool → Option (Array Bool)
  | [], listed => some listed
  | p :: ps, listed => match headOk ops p p listed with
    | some l => if (List.range ops.size).all (fun j => l.getD j true || decide (p.way j = .last)) then segsOk ops ps l else none
    | none => none

def segsLen : List Plan → Nat
  | [] => 0
  | p :: ps => p.length + segsLen ps

/-- The plan fits: the parts as said; the tail goes in one order alone. -/
def planOk (ops : Array Oper) (ps : List Plan) (n : Nat) : Bool :=
  Region.noSelect ops && decide (n ≤ ops.size) && decide (segsLen ps = n) &&
  match segsOk ops ps (Array.replicate ops.size false) with
  | some listed => Region.seqB .any ops (ops.size - n) n listed
  | none => false

theorem put_panic (hQ : ∀ c (a : Act) (d : Nat) v w, Q (.panic c) { a with tmps := a.tmps.setIfInBounds d v } w → Q (.panic c) a w) (c : List PanicEntry) (a : Act) (d : Option Tmp) (v : Value) (w : World) : Q (.panic c) (a.put d v) w → Q (.panic c) a w := by
  cases d with
  | none => exact id
  | some d => exact hQ c a d v w

theorem getD_range {L : Array Bool} {n k : Nat} (h : L.getD k false = true) (hn : L.size = n) : k ∈ List.range n := by
  rw [List.mem_range, ← hn]
  rcases Nat.lt_or_ge k L.size with h' | h'
  · exact h'
  · simp [Array.getElem?_eq_none h'] at h

theorem heldOk_spec {p : Plan} {i : Nat} {listed L : Array Bool} (hsz : listed.size = ops.size) (h : heldOk ops p i listed L = true) :
    (Without ops i L ∧ ∀ j, L.getD j false = true → p.way j ≠ .last) ∧ listed.size = L.size ∧ ∀ k, listed.getD k false = true → L.getD k false = true := by
  unfold heldOk at h
  simp only [Bool.and_eq_true, decide_eq_true_eq] at h
  obtain ⟨⟨h1, h2⟩, h3⟩ := h
  refine ⟨⟨⟨fun j hj => by simpa using List.all_eq_true.1 h1 j hj⟩, fun j hj => ?_⟩, h2, fun k hk => ?_⟩
  · have := List.all_eq_true.1 h3 j (getD_range hj (h2 ▸ hsz))
    simp only [Bool.and_eq_true, Bool.or_eq_true, hj, Bool.not_true, Bool.false_eq_true, false_or, decide_eq_true_eq] at this
    exact this.2
  · have := List.all_eq_true.1 h3 k (getD_range hk hsz)
    simp only [Bool.and_eq_true, Bool.or_eq_true, hk, Bool.not_true, Bool.false_eq_true, false_or] at this
    exact this.1

theorem getD_set_self {listed : Array Bool} {i : Nat} : (listed.setIfInBounds i true).getD i true = true := by
  rcases Nat.lt_or_ge i listed.size with h | h
  · simp [h]
  · simp

theorem headOk_size (p0 : Plan) : ∀ (p : Plan) (listed l : Array Bool), listed.size = ops.size → headOk ops p0 p listed = some l → l.size = ops.size
  | [], listed, l, hs, h => by simp only [headOk, Option.some.injEq] at h; subst h; exact hs
  | (.held, i) :: rest, listed, l, hs, h => by
    simp only [headOk] at h
    split at h
    · exact headOk_size p0 rest _ l (by simpa using hs) h
    · cases h
  | (.free, i) :: rest, listed, l, hs, h => by
    simp only [headOk] at h
    split at h
    · exact headOk_size p0 rest _ l (by simpa using hs) h
    · cases h
  | (.kept, i) :: rest, listed, l, hs, h => by
    simp only [headOk] at h
    split at h
    · exact headOk_size p0 rest _ l (by simpa using hs) h
    · cases h
  | (.last, _) :: _, _, _, _, h => by simp [headOk] at h

/-- Where nothing is asked of what is still to come, the names may be others. -/
theorem wpX_change {S' : World → Prop} {kd' : Nat → Way} : ∀ (fuel : Nat) (listed : Array Bool) (a : Act) (w : World), (∀ j, listed.getD j true = false → kd' j = .last) → wpX P ops Q S kd fuel listed a w → wpX P ops Q S' kd' fuel listed a w
  | 0, _, _, _, _, h => h
  | fuel + 1, listed, a, w, hkd, h => ⟨h.1, fun i hi => wpOp_mono (fun a' w' h' => by
      have hk := hkd i (mem_ready.1 hi).1
      refine ⟨fun h => (by rw [hk] at h; simp at h), fun h => (by rw [hk] at h; cases h), wpX_change fuel _ a' w' (fun j hj => hkd j ?_) h'.2.2⟩
      by_cases hij : i = j
      · subst hij; rw [getD_set_self] at hj; cases hj
      · rwa [getD_set_ne true hij] at hj) (h.2 i hi)⟩

theorem wpX_plan {p0 : Plan} (hsel : Region.noSelect ops = true) (hQ : ∀ c (a : Act) (d : Nat) v w, Q (.panic c) { a with tmps := a.tmps.setIfInBounds d v } w → Q (.panic c) a w)
    {T : Act → World → Prop} {g : Nat} {last : Array Bool} (hT : ∀ a w, T a w → wpX P ops Q S p0.way g last a w) :
    ∀ (p : Plan) (listed : Array Bool) (a : Act) (w : World), listed.size = ops.size → headOk ops p0 p listed = some last → S w → wpPlan P ops Q S T p a w → wpX P ops Q S p0.way (p.length + g) listed a w := by
  intro p
  induction p with
  | nil =>
    intro listed a w _ hl _ h
    simp only [headOk, Option.some.injEq] at hl
    subst hl
    simpa using hT a w h
  | cons x rest ih =>
    intro listed a w hsz hl hS h
    obtain ⟨b, i⟩ := x
    rw [show ((b, i) :: rest).length + g = (rest.length + g) + 1 from by simp; omega]
    have hsz' : (listed.setIfInBounds i true).size = ops.size := by simpa using hsz
    cases b with
    | held =>
      simp only [headOk] at hl
      split at hl
      · rename_i hc
        simp only [Bool.and_eq_true, decide_eq_true_eq] at hc
        obtain ⟨⟨⟨hc1, hc2⟩, hc3⟩, hc4⟩ := hc
        obtain ⟨o, v, ho, hy, hr⟩ := h
        have hh := heldOk_spec hsz hc3
        exact wpX_first ho (Region.noSelect_spec hsel) (fun c a w => put_panic hQ c a o.dst v w) (.inl ⟨hc4, rfl⟩) _ (fun _ => hh.1) _ listed a w (fun _ => hh.2) (Region.free_spec ho hc2) (by simpa using hc1) hy hS (ih _ _ _ hsz' hl hS hr)
      · cases hl
    | free =>
      simp only [headOk] at hl
      split at hl
      · rename_i hc
        simp only [Bool.and_eq_true, decide_eq_true_eq] at hc
        obtain ⟨⟨hc1, hc2⟩, hc4⟩ := hc
        obtain ⟨o, v, ho, hy, hr⟩ := h
        exact wpX_first ho (Region.noSelect_spec hsel) (fun c a w => put_panic hQ c a o.dst v w) (.inr ⟨hc4, rfl⟩) #[] (fun h => by rw [hc4] at h; cases h) _ listed a w (fun h => by rw [hc4] at h; cases h) (Region.free_spec ho hc2) (by simpa using hc1) hy trivial (ih _ _ _ hsz' hl hS hr)
      · cases hl
    | kept =>
      simp only [headOk] at hl
      split at hl
      · rename_i hc
        obtain ⟨hc, hc4⟩ := hc
        refine ⟨fun h0 => (by rw [h0] at hc; cases hc), fun j hj => ?_⟩
        rw [hc] at hj
        simp only [List.mem_singleton] at hj
        subst hj
        exact wpOp_mono (fun a' w' h' => ⟨fun _ => h'.1, fun h => (by rw [hc4] at h; cases h), ih _ _ _ hsz' hl h'.1 h'.2⟩) h
      · cases hl
    | last => simp [headOk] at hl

theorem wpX_of_seq : ∀ (l : List Oper) (k : Nat) (listed : Array Bool) (a : Act) (w : World), (∀ j, l[j]? = ops[k + j]?) → (∀ j, listed.getD j true = false → kd j = .last) →
    Region.seqB .any ops l.length k listed = true → wpList P ops Q l a w → wpX P ops Q S kd l.length listed a w
  | [], _, _, _, _, _, _, hB, h => ⟨by simpa [Region.seqB] using hB, h⟩
  | o :: l, k, listed, a, w, hl, hhd, hB, h => by
    simp only [List.length_cons, Region.seqB, Bool.and_eq_true, decide_eq_true_eq] at hB
    refine ⟨fun h0 => (by rw [h0] at hB; exact absurd hB.1 (by simp)), fun j hj => ?_⟩
    have hjl := hhd j (mem_ready.1 hj).1
    rw [hB.1] at hj
    simp only [List.mem_singleton] at hj
    subst hj
    have h0 : ops[j]? = some o := by simpa using (hl 0).symm
    have step := fun a' w' => wpX_of_seq l (j + 1) (listed.setIfInBounds j true) a' w' (fun i => by have := hl (i + 1); simpa [Nat.add_assoc, Nat.add_comm 1 i] using this) (fun i hi => hhd i (by
      by_cases hji : j = i
      · subst hji
        have hs := getD_set_self (listed := listed) (i := j)
        rw [hs] at hi; cases hi
      · rwa [getD_set_ne true hji] at hi)) hB.2
    unfold wpOp
    simp only [h0]
    unfold wpList at h
    split at h
    · rename_i hw
      rw [if_pos hw]
      exact h.imp (Oper.wp_mono fun a' w' h' => ⟨fun h => (by rw [hjl] at h; simp at h), fun h => (by rw [hjl] at h; cases h), step a' w' h'⟩) id
    · rename_i hw
      rw [if_neg hw]
      exact ⟨fun h => (by rw [hjl] at h; simp at h), fun h => (by rw [hjl] at h; cases h), step _ _ h⟩

/-- The parts, one behind the other, each with what holds in it; then the tail. -/
def wpSegs (P : Program) (ops : Array Oper) (Q : Exit → Act → World → Prop) (n : Nat) : List ((World → Prop) × Plan) → Act → World → Prop
  | [], a, w => wpList P ops Q (ops.toList.drop n) a w
  | (S, p) :: ps, a, w => S w ∧ wpPlan P ops Q S (wpSegs P ops Q n ps) p a w

theorem wpX_segs {n : Nat} (hsel : Region.noSelect ops = true) (hn : n ≤ ops.size) (hQ : ∀ c (a : Act) (d : Nat) v w, Q (.panic c) { a with tmps := a.tmps.setIfInBounds d v } w → Q (.panic c) a w) :
    ∀ (ps : List ((World → Prop) × Plan)) (listed last : Array Bool) (S : World → Prop) (kd : Nat → Way) (a : Act) (w : World), listed.size = ops.size → segsOk ops (ps.map (·.2)) listed = some last →
      Region.seqB .any ops (ops.size - n) n last = true → (∀ j, listed.getD j true = false → kd j = .last) → wpSegs P ops Q n ps a w → wpX P ops Q S kd (segsLen (ps.map (·.2)) + (ops.size - n)) listed a w
  | [], listed, last, S, kd, a, w, _, hok, hseq, hkd, h => by
    simp only [List.map_nil, segsOk, Option.some.injEq] at hok
    subst hok
    have hl : (ops.toList.drop n).length = ops.size - n := by simp
    have := wpX_of_seq (P := P) (ops := ops) (Q := Q) (S := S) (kd := kd) (ops.toList.drop n) n listed a w (fun j => by simp) hkd (by rw [hl]; exact hseq) h
    simpa [segsLen, hl] using this
  | (S1, p) :: ps, listed, last, S, kd, a, w, hsz, hok, hseq, hkd, h => by
    simp only [List.map_cons, segsOk] at hok
    split at hok
    · rename_i l hl
      split at hok
      · rename_i hall
        have hlsz : l.size = ops.size := headOk_size p p listed l hsz hl
        have hlast : ∀ j, l.getD j true = false → p.way j = .last := fun j hj => by
          have hjlt : j < ops.size := by
            rw [← hlsz]
            rcases Nat.lt_or_ge j l.size with h' | h'
            · exact h'
            · simp [Array.getElem?_eq_none h'] at hj
          have := List.all_eq_true.1 hall j (List.mem_range.2 hjlt)
          simpa [hj] using this
        have hT : ∀ a w, wpSegs P ops Q n ps a w → wpX P ops Q S1 p.way (segsLen (ps.map (·.2)) + (ops.size - n)) l a w := fun a w hh =>
          wpX_segs hsel hn hQ ps l last S1 p.way a w hlsz hok hseq hlast hh
        have h1 := wpX_plan (P := P) (S := S1) hsel hQ hT p listed a w hsz hl h.1 h.2
        have h2 := wpX_change (S' := S) (kd' := kd) _ listed a w hkd h1
        simpa [segsLen, Nat.add_assoc] using h2
      · cases hok
    · cases hok

/-- The law. -/
theorem wp_draw {id : Nat} {a : Act} {w : World} (ps : List ((World → Prop) × Plan)) (n : Nat) (hm : P.follows .mixedOrders = true) (hok : planOk ops (ps.map (·.2)) n = true)
    (hQ : ∀ c (a : Act) (d : Nat) v w, Q (.panic c) { a with tmps := a.tmps.setIfInBounds d v } w → Q (.panic c) a w)
    (h : wpSegs P ops Q n ps a w.drew) : (Code.region id ops true).wp P Q a w := by
  unfold planOk at hok
  simp only [Bool.and_eq_true, decide_eq_true_eq] at hok
  obtain ⟨⟨⟨hsel, hn⟩, hlen⟩, hrest⟩ := hok
  split at hrest
  · rename_i last hlast
    refine wp_region_any hm ?_
    have := wpX_segs (P := P) (Q := Q) hsel hn hQ ps (Array.replicate ops.size false) last (fun _ => True) (fun _ => .last) a w.drew (by simp) hlast hrest (fun _ _ => rfl) h
    rw [hlen, show n + (ops.size - n) = ops.size from by omega] at this
    exact wpAny_of_X _ _ _ _ this
  · cases hrest

variable {T : Act → World → Prop} {rest : Plan} {i : Nat} {o : Oper} {a : Act} {w : World}

theorem wpPlan_held {v : Value} (ho : ops[i]? = some o) (hw : Region.wanted o (yielded ops a.tmps) = true) (hv : ∀ w', S w' → (execOp a.eval o).run P w' = .ok (.value v) w')
    (h : wpPlan P ops Q S T rest (a.put o.dst v) w) : wpPlan P ops Q S T ((.held, i) :: rest) a w := ⟨o, v, ho, .inl ⟨hw, hv⟩, h⟩
theorem wpPlan_free {v : Value} (ho : ops[i]? = some o) (hw : Region.wanted o (yielded ops a.tmps) = true) (hv : ∀ w', (execOp a.eval o).run P w' = .ok (.value v) w')
    (h : wpPlan P ops Q S T rest (a.put o.dst v) w) : wpPlan P ops Q S T ((.free, i) :: rest) a w := ⟨o, v, ho, .inl ⟨hw, fun w' _ => hv w'⟩, h⟩
theorem wpPlan_skip (ho : ops[i]? = some o) (hw : Region.wanted o (yielded ops a.tmps) = false)
    (h : wpPlan P ops Q S T rest (a.put o.dst undef) w) : wpPlan P ops Q S T ((.free, i) :: rest) a w := ⟨o, undef, ho, .inr ⟨hw, rfl⟩, h⟩
theorem wpPlan_skipHeld (ho : ops[i]? = some o) (hw : Region.wanted o (yielded ops a.tmps) = false)
    (h : wpPlan P ops Q S T rest (a.put o.dst undef) w) : wpPlan P ops Q S T ((.held, i) :: rest) a w := ⟨o, undef, ho, .inr ⟨hw, rfl⟩, h⟩
theorem wpPlan_kept (ho : ops[i]? = some o)
    (h : ∀ K : Act → World → Prop, (∀ a w, S w ∧ wpPlan P ops Q S T rest a w → K a w) → if Region.wanted o (yielded ops a.tmps) = true then Oper.wp P o a w K Q else K (a.put o.dst undef) w) :
    wpPlan P ops Q S T ((.kept, i) :: rest) a w := wpOp_step ho h
theorem wpPlan_end (h : T a w) : wpPlan P ops Q S T [] a w := h
end
#print axioms wp_draw
end Go.Proofs.Ytplhcfaonhkegaa
