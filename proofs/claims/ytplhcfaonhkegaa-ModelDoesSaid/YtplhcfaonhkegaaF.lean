/-
  Drawn regions whose sets are handed over: as E, but what may come without an operation is given, not reckoned.
-/
import Derived.Test.YtplhcfaonhkegaaE
namespace Go.Proofs.Ytplhcfaonhkegaa
open Go

/-- As headOk, with the sets given. -/
def headOkL (ops : Array Oper) (Ls : Nat → Array Bool) (p : Plan) : Plan → Array Bool → Option (Array Bool)
  | [], listed => some listed
  | (.held, i) :: rest, listed => if (Region.ready .any ops listed).contains i && Region.free .any ops listed i && heldOk ops p i listed (Ls i) && decide (p.way i = .held) then headOkL ops Ls p rest (listed.setIfInBounds i true) else none
  | (.free, i) :: rest, listed => if (Region.ready .any ops listed).contains i && Region.free .any ops listed i && decide (p.way i = .free) then headOkL ops Ls p rest (listed.setIfInBounds i true) else none
  | (.kept, i) :: rest, listed => if Region.ready .any ops listed = [i] ∧ p.way i = .kept then headOkL ops Ls p rest (listed.setIfInBounds i true) else none
  | (.last, _) :: _, _ => none

section
variable {P : Program} {ops : Array Oper} {Q : Exit → Act → World → Prop} {S : World → Prop} {Ls : Nat → Array Bool}

theorem headOkL_size (p0 : Plan) : ∀ (p : Plan) (listed l : Array Bool), listed.size = ops.size → headOkL ops Ls p0 p listed = some l → l.size = ops.size
  | [], listed, l, hs, h => by simp only [headOkL, Option.some.injEq] at h; subst h; exact hs
  | (.held, i) :: rest, listed, l, hs, h => by
    simp only [headOkL] at h
    split at h
    · exact headOkL_size p0 rest _ l (by simpa using hs) h
    · cases h
  | (.free, i) :: rest, listed, l, hs, h => by
    simp only [headOkL] at h
    split at h
    · exact headOkL_size p0 rest _ l (by simpa using hs) h
    · cases h
  | (.kept, i) :: rest, listed, l, hs, h => by
    simp only [headOkL] at h
    split at h
    · exact headOkL_size p0 rest _ l (by simpa using hs) h
    · cases h
  | (.last, _) :: _, _, _, _, h => by simp [headOkL] at h

theorem wpX_planL {p0 : Plan} (hsel : Region.noSelect ops = true) (hQ : ∀ c (a : Act) (d : Nat) v w, Q (.panic c) { a with tmps := a.tmps.setIfInBounds d v } w → Q (.panic c) a w)
    {T : Act → World → Prop} {g : Nat} {last : Array Bool} (hT : ∀ a w, T a w → wpX P ops Q S p0.way g last a w) :
    ∀ (p : Plan) (listed : Array Bool) (a : Act) (w : World), listed.size = ops.size → headOkL ops Ls p0 p listed = some last → S w → wpPlan P ops Q S T p a w → wpX P ops Q S p0.way (p.length + g) listed a w := by
  intro p
  induction p with
  | nil =>
    intro listed a w _ hl _ h
    simp only [headOkL, Option.some.injEq] at hl
    subst hl
    simpa using hT a w h
  | cons x rest ih =>
    intro listed a w hsz hl hS h
    obtain ⟨b, i⟩ := x
    rw [show ((b, i) :: rest).length + g = (rest.length + g) + 1 from by simp; omega]
    have hsz' : (listed.setIfInBounds i true).size = ops.size := by simpa using hsz
    cases b with
    | held =>
      simp only [headOkL] at hl
      split at hl
      · rename_i hc
        simp only [Bool.and_eq_true, decide_eq_true_eq] at hc
        obtain ⟨⟨⟨hc1, hc2⟩, hc3⟩, hc4⟩ := hc
        obtain ⟨o, v, ho, hy, hr⟩ := h
        have hh := heldOk_spec hsz hc3
        exact wpX_first ho (Region.noSelect_spec hsel) (fun c a w => put_panic hQ c a o.dst v w) (.inl ⟨hc4, rfl⟩) _ (fun _ => hh.1) _ listed a w (fun _ => hh.2) (Region.free_spec ho hc2) (by simpa using hc1) hy hS (ih _ _ _ hsz' hl hS hr)
      · cases hl
    | free =>
      simp only [headOkL] at hl
      split at hl
      · rename_i hc
        simp only [Bool.and_eq_true, decide_eq_true_eq] at hc
        obtain ⟨⟨hc1, hc2⟩, hc4⟩ := hc
        obtain ⟨o, v, ho, hy, hr⟩ := h
        exact wpX_first ho (Region.noSelect_spec hsel) (fun c a w => put_panic hQ c a o.dst v w) (.inr ⟨hc4, rfl⟩) #[] (fun h => by rw [hc4] at h; cases h) _ listed a w (fun h => by rw [hc4] at h; cases h) (Region.free_spec ho hc2) (by simpa using hc1) hy trivial (ih _ _ _ hsz' hl hS hr)
      · cases hl
    | kept =>
      simp only [headOkL] at hl
      split at hl
      · rename_i hc
        obtain ⟨hc, hc4⟩ := hc
        refine ⟨fun h0 => (by rw [h0] at hc; cases hc), fun j hj => ?_⟩
        rw [hc] at hj
        simp only [List.mem_singleton] at hj
        subst hj
        exact wpOp_mono (fun a' w' h' => ⟨fun _ => h'.1, fun h => (by rw [hc4] at h; cases h), ih _ _ _ hsz' hl h'.1 h'.2⟩) h
      · cases hl
    | last => simp [headOkL] at hl

/-- One part alone, with its sets. -/
def planOkL (ops : Array Oper) (Ls : Nat → Array Bool) (p : Plan) (n : Nat) : Bool :=
  Region.noSelect ops && decide (n ≤ ops.size) && decide (p.length = n) &&
  match headOkL ops Ls p p (Array.replicate ops.size false) with
  | some listed => (List.range ops.size).all (fun j => listed.getD j true || decide (p.way j = .last)) && Region.seqB .any ops (ops.size - n) n listed
  | none => false

theorem wp_drawL {id : Nat} {a : Act} {w : World} (S : World → Prop) (p : Plan) (n : Nat) (Ls : Nat → Array Bool) (hm : P.follows .mixedOrders = true) (hok : planOkL ops Ls p n = true)
    (hQ : ∀ c (a : Act) (d : Nat) v w, Q (.panic c) { a with tmps := a.tmps.setIfInBounds d v } w → Q (.panic c) a w)
    (h : S w.drew ∧ wpPlan P ops Q S (wpSegsX P ops Q n []) p a w.drew) : (Code.region id ops true).wp P Q a w := by
  unfold planOkL at hok
  simp only [Bool.and_eq_true, decide_eq_true_eq] at hok
  obtain ⟨⟨⟨hsel, hn⟩, hlen⟩, hrest⟩ := hok
  split at hrest
  · rename_i l hl
    simp only [Bool.and_eq_true] at hrest
    obtain ⟨hall, hseq⟩ := hrest
    have hlsz : l.size = ops.size := headOkL_size p p _ l (by simp) hl
    have hlast : ∀ j, l.getD j true = false → p.way j = .last := fun j hj => by
      have hjlt : j < ops.size := by
        rw [← hlsz]
        rcases Nat.lt_or_ge j l.size with h' | h'
        · exact h'
        · simp [Array.getElem?_eq_none h'] at hj
      have := List.all_eq_true.1 hall j (List.mem_range.2 hjlt)
      simpa [hj] using this
    refine wp_region_any hm ?_
    have hT : ∀ a w, wpSegsX P ops Q n [] a w → wpX P ops Q S p.way (segsLen [] + (ops.size - n)) l a w := fun a w hh =>
      wpX_segsX hsel hn hQ [] [] l l S p.way a w hlsz rfl hseq hlast hh
    have h1 := wpX_planL (P := P) (S := S) (Ls := Ls) hsel hQ hT p (Array.replicate ops.size false) a w.drew (by simp) hl h.1 h.2
    rw [show p.length + (segsLen [] + (ops.size - n)) = ops.size from by simp only [segsLen]; omega] at h1
    exact wpAny_of_X _ _ _ _ h1
  · cases hrest
end
#print axioms wp_drawL
end Go.Proofs.Ytplhcfaonhkegaa
