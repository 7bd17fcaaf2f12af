/-
  Slices that are built up element by element, read as data; readings that nothing can turn.
-/
import Derived.Test.YtplhcfaonhkegaaA
namespace Go.Proofs.Ytplhcfaonhkegaa
open Go.RowKit

/-- Any block. -/
def All : Nat → Prop := fun _ => True

theorem Sl.all {α : Type} {k : Kd α} {S : Nat → Prop} {w : World} {v : Value} {l : List α} (h : Sl k S w v l) : Sl k All w v l := h.mono fun _ _ _ => trivial
theorem Kd.all {α : Type} (k : Kd α) {S : Nat → Prop} {w : World} {cs : List Value} {x : α} (h : k.rd S w cs x) : k.rd All w cs x := k.mono h fun _ _ _ => trivial
theorem Sl.stay {α : Type} {k : Kd α} {S : Nat → Prop} {w w' : World} {v : Value} {l : List α} (h : Sl k S w v l) (f : Fr Non w w') : Sl k S w' v l := h.frame f fun _ _ _ => id
theorem Kd.stay {α : Type} (k : Kd α) {S : Nat → Prop} {w w' : World} {cs : List Value} {x : α} (h : k.rd S w cs x) (f : Fr Non w w') : k.rd S w' cs x := k.frame h f fun _ _ _ => id

/-- Whatever reads, reads in blocks that are there. -/
theorem Kd.there {α : Type} (k : Kd α) {w : World} {cs : List Value} {x : α} (h : k.rd All w cs x) : k.rd (fun b => b < w.heap.size) w cs x := k.mono h fun _ hb _ => hb
theorem Sl.there {α : Type} {k : Kd α} {w : World} {v : Value} {l : List α} (h : Sl k All w v l) : Sl k (fun b => b < w.heap.size) w v l := h.mono fun _ hb _ => hb

/-- A slice of one's own that holds data. -/
def Build {α : Type} (k : Kd α) (e : TypeId) (w : World) (v : Value) (l : List α) : Prop :=
  ∃ cs, GRow w e k.sz v l.length cs ∧ Row k (fun b => v.ownBlock ≠ some b) w cs l

section
variable {α : Type} {k : Kd α} {e : TypeId} {w w' : World} {v v' : Value} {l : List α}

theorem Build.nil (k : Kd α) (e : TypeId) (w : World) : Build k e w (.slice none 0 0) [] := ⟨[], GRow.nil _ _ _, rfl⟩
theorem Build.fr (h : Build k e w v l) (f : Fr Non w w') : Build k e w' v l := by
  obtain ⟨cs, g, hr⟩ := h
  exact ⟨cs, g.keep fun b hb => f.block b (g.lt b hb) id, hr.fr (fun b hb _ => f.block b hb id) (fun _ _ h => h)⟩
theorem Build.form (h : Build k e w v l) : ∃ a c, v = .slice a l.length c := by
  obtain ⟨cs, g, _⟩ := h
  exact g.form
theorem Build.lt (h : Build k e w v l) : ∀ b, v.ownBlock = some b → b < w.heap.size := by
  obtain ⟨cs, g, _⟩ := h
  exact g.lt
theorem Build.sl (h : Build k e w v l) : Sl k All w v l := by
  obtain ⟨cs, g, hr⟩ := h
  rcases id g.2 with ⟨rfl, h0⟩ | ⟨b, cap, cur, rfl, _, h1, h2, _⟩
  · exact .inl ⟨rfl, List.eq_nil_of_length_eq_zero h0⟩
  · refine .inr ⟨_, _, rfl, h1, h2, fun _ => ⟨rfl, trivial⟩, ?_⟩
    have hr' : Row k All w cs l := hr.fr (fun _ _ _ => rfl) (fun _ _ _ => trivial)
    refine Elems.of_row hr' fun j u hu => ?_
    rw [Nat.zero_add]
    exact g.cells rfl j u hu
/-- One more. -/
theorem Build.push {cs c : List Value} {x : α} (hr : Row k (fun b => v.ownBlock ≠ some b) w cs l) (hx : k.rd (fun b => v.ownBlock ≠ some b) w c x)
    (g : GRow w' e k.sz v' (l.length + 1) (cs ++ c)) (f : Fr (fun b => v.ownBlock = some b) w w')
    (hv : v'.ownBlock = v.ownBlock ∨ ∃ n, v'.ownBlock = some n ∧ w.heap.size ≤ n) : Build k e w' v' (l ++ [x]) := by
  refine ⟨cs ++ c, by simpa using g, ?_⟩
  have h2 : Row k (fun b => v.ownBlock ≠ some b) w (cs ++ c) (l ++ [x]) := hr.append (Row.single hx)
  refine h2.fr (fun b hb hs => f.block b hb hs) (fun b hb hs => ?_)
  rcases hv with hv | ⟨n, hv, hn⟩
  · rw [hv]; exact hs
  · intro e
    rw [hv] at e
    have := Option.some.inj e
    omega
end
/-- The cells of one element. -/
theorem Sl.at {α : Type} {k : Kd α} {S : Nat → Prop} {w : World} {a : Option Addr} {n c : Nat} {l : List α} (h : Sl k S w (.slice a n c) l) (i : Nat) (hi : i < l.length) :
    ∃ b o cs, a = some ⟨b, o, none⟩ ∧ n = l.length ∧ l.length ≤ c ∧ c ≤ maxLen ∧ k.rd S w cs l[i] ∧ ∀ j (hj : j < cs.length), w.cell? ⟨b, o + i * k.sz + j, none⟩ = some cs[j] := by
  rcases h with ⟨_, rfl⟩ | ⟨ad, c', he, h1, h2, h3, h4⟩
  · simp at hi
  · cases he
    have hne : l ≠ [] := by intro e; subst e; simp at hi
    obtain ⟨b, o, sp⟩ := ad
    obtain ⟨hsp, _⟩ := h3 hne
    simp only at hsp
    subst hsp
    obtain ⟨cs, hr, hc⟩ := h4 i hi
    exact ⟨b, o, cs, rfl, rfl, h1, h2, hr, hc⟩
theorem Sl.frm {α : Type} {k : Kd α} {S : Nat → Prop} {w : World} {v : Value} {l : List α} (h : Sl k S w v l) : ∃ a c, v = .slice a l.length c ∧ l.length ≤ c ∧ c ≤ maxLen ∧ (a = none → l = []) := by
  rcases h with ⟨rfl, rfl⟩ | ⟨a, c, rfl, h1, h2, _⟩
  · exact ⟨none, 0, rfl, Nat.le_refl _, by unfold maxLen; omega, fun _ => rfl⟩
  · exact ⟨some a, c, rfl, h1, h2, fun h => by cases h⟩
/-- A part of a slice. -/
theorem Sl.sub {α : Type} {k : Kd α} {S : Nat → Prop} {w : World} {b o n c : Nat} {l : List α} (h : Sl k S w (.slice (some ⟨b, o, none⟩) n c) l) (i m c' : Nat) (hm : i + m ≤ l.length) (hc : m ≤ c') (hc' : c' ≤ maxLen) :
    Sl k S w (.slice (some ⟨b, o + i * k.sz, none⟩) m c') ((l.drop i).take m) := by
  have hl : ((l.drop i).take m).length = m := by rw [List.length_take, List.length_drop]; omega
  rcases h with ⟨he, _⟩ | ⟨ad, c0, he, h1, h2, h3, h4⟩
  · cases he
  · cases he
    refine .inr ⟨_, c', by rw [hl], by omega, hc', fun hn => ⟨rfl, ?_⟩, fun j hj => ?_⟩
    · have : l ≠ [] := by intro e; subst e; simp at hn
      exact (h3 this).2
    · have hj' : j < m := by omega
      obtain ⟨cs, hr, hcc⟩ := h4 (i + j) (by omega)
      refine ⟨cs, by rw [List.getElem_take, List.getElem_drop]; exact hr, fun q hq => ?_⟩
      have := hcc q hq
      rw [show o + i * k.sz + j * k.sz + q = o + (i + j) * k.sz + q from by rw [Nat.add_mul]; omega]
      exact this
end Go.Proofs.Ytplhcfaonhkegaa
