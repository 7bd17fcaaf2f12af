/-
  Drawn regions in parts, where what holds in a part is chosen when the part begins.
-/
import Derived.Test.YtplhcfaonhkegaaD
namespace Go.Proofs.Ytplhcfaonhkegaa
open Go

section
variable {P : Program} {ops : Array Oper} {Q : Exit → Act → World → Prop}

/-- Part by part; what came in the parts ahead counts as known. -/
def segsOkX (ops : Array Oper) : Plan → List Plan → Array Bool → Option (Array Bool)
  | _, [], listed => some listed
  | d, p :: ps, listed => match headOk ops (p ++ d) p listed with
    | some l => if (List.range ops.size).all (fun j => l.getD j true || decide ((p ++ d).way j = .last)) then segsOkX ops (p ++ d) ps l else none
    | none => none
def planOkX (ops : Array Oper) (ps : List Plan) (n : Nat) : Bool :=
  Region.noSelect ops && decide (n ≤ ops.size) && decide (segsLen ps = n) &&
  match segsOkX ops [] ps (Array.replicate ops.size false) with
  | some listed => Region.seqB .any ops (ops.size - n) n listed
  | none => false

/-- The parts, one behind the other; what holds in each is found on the way. -/
def wpSegsX (P : Program) (ops : Array Oper) (Q : Exit → Act → World → Prop) (n : Nat) : List Plan → Act → World → Prop
  | [], a, w => wpList P ops Q (ops.toList.drop n) a w
  | p :: ps, a, w => ∃ S : World → Prop, S w ∧ wpPlan P ops Q S (wpSegsX P ops Q n ps) p a w

theorem wpX_segsX {n : Nat} (hsel : Region.noSelect ops = true) (hn : n ≤ ops.size) (hQ : ∀ c (a : Act) (d : Nat) v w, Q (.panic c) { a with tmps := a.tmps.setIfInBounds d v } w → Q (.panic c) a w) :
    ∀ (ps : List Plan) (d : Plan) (listed last : Array Bool) (S : World → Prop) (kd : Nat → Way) (a : Act) (w : World), listed.size = ops.size → segsOkX ops d ps listed = some last →
      Region.seqB .any ops (ops.size - n) n last = true → (∀ j, listed.getD j true = false → kd j = .last) → wpSegsX P ops Q n ps a w → wpX P ops Q S kd (segsLen ps + (ops.size - n)) listed a w
  | [], d, listed, last, S, kd, a, w, _, hok, hseq, hkd, h => by
    simp only [segsOkX, Option.some.injEq] at hok
    subst hok
    have hl : (ops.toList.drop n).length = ops.size - n := by simp
    have := wpX_of_seq (P := P) (ops := ops) (Q := Q) (S := S) (kd := kd) (ops.toList.drop n) n listed a w (fun j => by simp) hkd (by rw [hl]; exact hseq) h
    simpa [segsLen, hl] using this
  | p :: ps, d, listed, last, S, kd, a, w, hsz, hok, hseq, hkd, h => by
    simp only [segsOkX] at hok
    split at hok
    · rename_i l hl
      split at hok
      · rename_i hall
        have hlsz : l.size = ops.size := headOk_size (p ++ d) p listed l hsz hl
        have hlast : ∀ j, l.getD j true = false → (p ++ d).way j = .last := fun j hj => by
          have hjlt : j < ops.size := by
            rw [← hlsz]
            rcases Nat.lt_or_ge j l.size with h' | h'
            · exact h'
            · simp [Array.getElem?_eq_none h'] at hj
          have := List.all_eq_true.1 hall j (List.mem_range.2 hjlt)
          simpa [hj] using this
        obtain ⟨S1, hS1, h⟩ := h
        have hT : ∀ a w, wpSegsX P ops Q n ps a w → wpX P ops Q S1 (p ++ d).way (segsLen ps + (ops.size - n)) l a w := fun a w hh =>
          wpX_segsX hsel hn hQ ps (p ++ d) l last S1 (p ++ d).way a w hlsz hok hseq hlast hh
        have h1 := wpX_plan (P := P) (S := S1) hsel hQ hT p listed a w hsz hl hS1 h
        have h2 := wpX_change (S' := S) (kd' := kd) _ listed a w hkd h1
        simpa [segsLen, Nat.add_assoc] using h2
      · cases hok
    · cases hok

/-- The law. -/
theorem wp_drawX {id : Nat} {a : Act} {w : World} (ps : List Plan) (n : Nat) (hm : P.follows .mixedOrders = true) (hok : planOkX ops ps n = true)
    (hQ : ∀ c (a : Act) (d : Nat) v w, Q (.panic c) { a with tmps := a.tmps.setIfInBounds d v } w → Q (.panic c) a w)
    (h : wpSegsX P ops Q n ps a w.drew) : (Code.region id ops true).wp P Q a w := by
  unfold planOkX at hok
  simp only [Bool.and_eq_true, decide_eq_true_eq] at hok
  obtain ⟨⟨⟨hsel, hn⟩, hlen⟩, hrest⟩ := hok
  split at hrest
  · rename_i last hlast
    refine wp_region_any hm ?_
    have := wpX_segsX (P := P) (Q := Q) hsel hn hQ ps [] (Array.replicate ops.size false) last (fun _ => True) (fun _ => .last) a w.drew (by simp) hlast hrest (fun _ _ => rfl) h
    rw [hlen, show n + (ops.size - n) = ops.size from by omega] at this
    exact wpAny_of_X _ _ _ _ this
  · cases hrest
end
#print axioms wp_drawX
end Go.Proofs.Ytplhcfaonhkegaa
