/-
  HistTrue: calls done on a map one by one, as a history; walked; the row.
-/
import Derived.Test.YtplhcfaonhkegaaH0
import Derived.Test.YtplhcfaonhkegaaM0b
import Derived.Test.YtplhcfaonhkegaaH29
import Derived.Test.YtplhcfaonhkegaaM21
import Derived.Deep.CutBlock
import Derived.Test.YtplhcfaonhkegaaP0x
import Derived.Carry
namespace Go.Proofs.Ytplhcfaonhkegaa

theorem mKey_mem {k : Int} {v : List UInt8} : ∀ {p : Option Int} {l : List MItem}, mOk p l = true → ((k, v) ∈ l ↔ mKey k l = some v)
  | _, [], _ => by simp [mKey]
  | p, x :: l, h => by
    obtain ⟨_, _, h3⟩ := mOk_cons.1 h
    have ih := mKey_mem (k := k) (v := v) h3
    have hg := mOk_gt h3
    rw [List.mem_cons, mKey]
    by_cases e : x.1 = k
    · rw [if_pos e]
      constructor
      · rintro (h | h)
        · rw [← h]
        · have := hg _ h; simp at this; omega
      · intro h
        left
        cases h
        rw [← e]
    · rw [if_neg e, ← ih]
      constructor
      · rintro (h | h)
        · rw [← h] at e; exact absurd rfl e
        · exact h
      · exact .inr
theorem mBetween_mem {a b : Int} {x : MItem} : ∀ {l : List MItem}, x ∈ mBetween a b l ↔ x ∈ l ∧ a ≤ x.1 ∧ x.1 ≤ b
  | [] => by simp [mBetween]
  | y :: l => by
    have ih := mBetween_mem (a := a) (b := b) (x := x) (l := l)
    rw [mBetween]
    split
    · rename_i h
      rw [List.mem_cons, List.mem_cons, ih]
      constructor
      · rintro (rfl | h')
        · exact ⟨.inl rfl, h⟩
        · exact ⟨.inr h'.1, h'.2⟩
      · rintro ⟨rfl | h', h2⟩
        · exact .inl rfl
        · exact .inr ⟨h', h2⟩
    · rename_i h
      rw [List.mem_cons, ih]
      constructor
      · exact fun h' => ⟨.inr h'.1, h'.2⟩
      · rintro ⟨rfl | h', h2⟩
        · exact absurd h2 h
        · exact ⟨h', h2⟩
theorem mOk_between {a b : Int} : ∀ {p : Option Int} {l : List MItem}, mOk p l = true → mOk p (mBetween a b l) = true
  | _, [], _ => by simp [mBetween, mOk]
  | p, x :: l, h => by
    obtain ⟨h1, h2, h3⟩ := mOk_cons.1 h
    have ih := mOk_between (a := a) (b := b) h3
    rw [mBetween]
    split
    · exact mOk_cons.2 ⟨h1, h2, ih⟩
    · cases p with
      | none => exact mOk_none ih
      | some q => exact mOk_mono (by have := h2 q rfl; omega) ih

def isIns (L : List MHap) (p : Nat) (k : Int) (v : List UInt8) : Prop := ∃ x, L[p]? = some x ∧ x.1.1 = 1 ∧ x.2.1.1 = 0 ∧ x.1.2.1 = k ∧ x.1.2.2.2 = v
def isDel (L : List MHap) (q : Nat) (k : Int) : Prop := ∃ x, L[q]? = some x ∧ x.1.1 = 2 ∧ x.2.1.1 = 0 ∧ x.1.2.1 = k
def entry (m : List MItem) (c : MCall) (n : Nat) : MHap := (c, (mDone m c).2, 2 * (n : Int), 2 * (n : Int) + 1, false, false)
inductive Trace : List MItem → List MHap → Prop
  | nil : Trace [] []
  | step {m : List MItem} {L : List MHap} {c : MCall} : Trace m L → mCallOk c = true → Trace (mDone m c).1 (L ++ [entry m c L.length])
theorem Trace.ok {m : List MItem} {L : List MHap} (h : Trace m L) : mOk none m = true := by
  induction h with
  | nil => rfl
  | step _ hc ih => exact mDone_ok ih hc
theorem isIns_app {L : List MHap} {x : MHap} {p : Nat} {k : Int} {v : List UInt8} : isIns (L ++ [x]) p k v ↔ isIns L p k v ∨ (p = L.length ∧ x.1.1 = 1 ∧ x.2.1.1 = 0 ∧ x.1.2.1 = k ∧ x.1.2.2.2 = v) := by
  unfold isIns
  rcases Nat.lt_trichotomy p L.length with h | h | h
  · rw [List.getElem?_append_left h]
    constructor
    · exact .inl
    · rintro (h' | ⟨h', _⟩)
      · exact h'
      · omega
  · subst h
    rw [List.getElem?_append_right (Nat.le_refl _), List.getElem?_eq_none (Nat.le_refl _)]
    simp
  · rw [List.getElem?_eq_none (by simp; omega), List.getElem?_eq_none (by omega)]
    simp
    omega
theorem isDel_app {L : List MHap} {x : MHap} {q : Nat} {k : Int} : isDel (L ++ [x]) q k ↔ isDel L q k ∨ (q = L.length ∧ x.1.1 = 2 ∧ x.2.1.1 = 0 ∧ x.1.2.1 = k) := by
  unfold isDel
  rcases Nat.lt_trichotomy q L.length with h | h | h
  · rw [List.getElem?_append_left h]
    constructor
    · exact .inl
    · rintro (h' | ⟨h', _⟩)
      · exact h'
      · omega
  · subst h
    rw [List.getElem?_append_right (Nat.le_refl _), List.getElem?_eq_none (Nat.le_refl _)]
    simp
  · rw [List.getElem?_eq_none (by simp; omega), List.getElem?_eq_none (by omega)]
    simp
    omega
theorem isIns_lt {L : List MHap} {p : Nat} {k : Int} {v : List UInt8} (h : isIns L p k v) : p < L.length := by
  obtain ⟨x, hx, _⟩ := h
  exact (List.getElem?_eq_some_iff.1 hx).1
theorem isDel_lt {L : List MHap} {p : Nat} {k : Int} (h : isDel L p k) : p < L.length := by
  obtain ⟨x, hx, _⟩ := h
  exact (List.getElem?_eq_some_iff.1 hx).1
def Last (L : List MHap) (k : Int) (v : List UInt8) : Prop := ∃ p, isIns L p k v ∧ ∀ q, p < q → ¬ isDel L q k
/-- One more that neither puts nor takes out. -/
theorem Last.idle {L : List MHap} {x : MHap} (h : (x.1.1 ≠ 1 ∧ x.1.1 ≠ 2) ∨ x.2.1.1 ≠ 0) (k : Int) (v : List UInt8) : Last (L ++ [x]) k v ↔ Last L k v := by
  unfold Last
  constructor
  · rintro ⟨p, h1, h2⟩
    rw [isIns_app] at h1
    rcases h1 with h1 | ⟨_, h3, h4, _⟩
    · exact ⟨p, h1, fun q hq hd => h2 q hq (isDel_app.2 (.inl hd))⟩
    · rcases h with ⟨h, _⟩ | h
      · exact absurd h3 h
      · exact absurd h4 h
  · rintro ⟨p, h1, h2⟩
    refine ⟨p, isIns_app.2 (.inl h1), fun q hq hd => ?_⟩
    rw [isDel_app] at hd
    rcases hd with hd | ⟨_, h3, h4, _⟩
    · exact h2 q hq hd
    · rcases h with ⟨_, h⟩ | h
      · exact absurd h3 h
      · exact absurd h4 h
theorem Trace.last {m : List MItem} {L : List MHap} (h : Trace m L) : ∀ k v, mKey k m = some v ↔ Last L k v := by
  induction h with
  | nil => intro k v; simp [mKey, Last, isIns]
  | @step m L c h hc ih =>
    intro k v
    by_cases h1 : c.1 = 1
    · cases hk : mKey c.2.1 m with
      | some u =>
        have e : mDone m c = (m, mErr 100) := by unfold mDone; rw [if_pos h1, hk]; rfl
        rw [e, Last.idle (.inr (by unfold entry; rw [e]; simp [mErr]))]
        exact ih k v
      | none =>
        have e : mDone m c = (mIns (c.2.1, c.2.2.2) false m, mErr 0) := by unfold mDone; rw [if_pos h1, hk]; rfl
        rw [e]
        simp only
        rw [mKey_ins k hk]
        have hno : ∀ q, ¬ (q = L.length ∧ (entry m c L.length).1.1 = 2 ∧ (entry m c L.length).2.1.1 = 0 ∧ (entry m c L.length).1.2.1 = k) := by
          rintro q ⟨_, h2, _⟩
          rw [show (entry m c L.length).1.1 = c.1 from rfl, h1] at h2
          cases h2
        have hx : (entry m c L.length).2.1.1 = 0 := by unfold entry; rw [e]; rfl
        split
        · rename_i hkk
          constructor
          · intro hv
            cases hv
            refine ⟨L.length, isIns_app.2 (.inr ⟨rfl, h1, hx, hkk, rfl⟩), fun q hq hd => ?_⟩
            rcases isDel_app.1 hd with hd | hd
            · have := isDel_lt hd; omega
            · exact hno q hd
          · rintro ⟨p, hp, hd⟩
            rcases isIns_app.1 hp with hp | ⟨_, _, _, _, hv⟩
            · have : mKey k m = some v := (ih k v).2 ⟨p, hp, fun q hq hdq => hd q hq (isDel_app.2 (.inl hdq))⟩
              rw [← hkk] at this
              simp only at this
              rw [hk] at this
              cases this
            · rw [← hv]; rfl
        · rename_i hkk
          rw [ih k v]
          constructor
          · rintro ⟨p, hp, hd⟩
            refine ⟨p, isIns_app.2 (.inl hp), fun q hq hdq => ?_⟩
            rcases isDel_app.1 hdq with hdq | hdq
            · exact hd q hq hdq
            · exact hno q hdq
          · rintro ⟨p, hp, hd⟩
            rcases isIns_app.1 hp with hp | ⟨_, _, _, hv, _⟩
            · exact ⟨p, hp, fun q hq hdq => hd q hq (isDel_app.2 (.inl hdq))⟩
            · exact absurd hv hkk
    · by_cases h2 : c.1 = 2
      · cases hk : mKey c.2.1 m with
        | none =>
          have e : mDone m c = (m, mErr 101) := by unfold mDone; rw [if_neg h1, if_pos h2, hk]; rfl
          rw [e, Last.idle (.inr (by unfold entry; rw [e]; simp [mErr]))]
          exact ih k v
        | some u =>
          have e : mDone m c = (mOut c.2.1 m, mErr 0) := by unfold mDone; rw [if_neg h1, if_pos h2, hk]; rfl
          rw [e]
          simp only
          rw [mKey_out k]
          have hx : (entry m c L.length).2.1.1 = 0 := by unfold entry; rw [e]; rfl
          have hnoi : ∀ p, ¬ (p = L.length ∧ (entry m c L.length).1.1 = 1 ∧ (entry m c L.length).2.1.1 = 0 ∧ (entry m c L.length).1.2.1 = k ∧ (entry m c L.length).1.2.2.2 = v) := by
            rintro p ⟨_, h3, _⟩
            exact h1 h3
          split
          · rename_i hkk
            constructor
            · intro hv; cases hv
            · rintro ⟨p, hp, hd⟩
              rcases isIns_app.1 hp with hp | hp
              · exact absurd (isDel_app.2 (.inr ⟨rfl, h2, hx, hkk⟩)) (hd L.length (isIns_lt hp))
              · exact absurd hp (hnoi p)
          · rename_i hkk
            rw [ih k v]
            constructor
            · rintro ⟨p, hp, hd⟩
              refine ⟨p, isIns_app.2 (.inl hp), fun q hq hdq => ?_⟩
              rcases isDel_app.1 hdq with hdq | ⟨_, _, _, hv⟩
              · exact hd q hq hdq
              · exact hkk hv
            · rintro ⟨p, hp, hd⟩
              rcases isIns_app.1 hp with hp | hp
              · exact ⟨p, hp, fun q hq hdq => hd q hq (isDel_app.2 (.inl hdq))⟩
              · exact absurd hp (hnoi p)
      · have e : (mDone m c).1 = m := by unfold mDone; rw [if_neg h1, if_neg h2]
        rw [e, Last.idle (.inl ⟨h1, h2⟩)]
        exact ih k v
theorem Trace.at {m : List MItem} {L : List MHap} (h : Trace m L) : ∀ i (hi : i < L.length), ∃ mi c, Trace mi (L.take i) ∧ mCallOk c = true ∧ L[i] = entry mi c i := by
  induction h with
  | nil => intro i hi; simp at hi
  | @step m L c h hc ih =>
    intro i hi
    by_cases hl : i < L.length
    · obtain ⟨mi, c', h1, h2, h3⟩ := ih i hl
      exact ⟨mi, c', by rw [List.take_append_of_le_length (by omega)]; exact h1, h2, by rw [List.getElem_append_left hl]; exact h3⟩
    · obtain rfl : i = L.length := by simp at hi; omega
      exact ⟨m, c, by rw [List.take_append_of_le_length (Nat.le_refl _), List.take_length]; exact h, hc, by simp⟩
end Go.Proofs.Ytplhcfaonhkegaa

namespace Go.Proofs.Ytplhcfaonhkegaa

theorem hRanges_nil {l : List MHap} : ∀ {xs : List MHap} {n : Int}, (∀ x ∈ xs, hRange l x = false) → hRanges l n xs = []
  | [], _, _ => rfl
  | x :: xs, n, h => by
    rw [hRanges, h x (by simp)]
    simpa using hRanges_nil (fun y hy => h y (by simp [hy]))
theorem hRanges_one {l : List MHap} : ∀ {xs : List MHap} {n : Int} {i : Nat} {y : MHap}, xs[i]? = some y → hRange l y = true → (∀ j x, xs[j]? = some x → j ≠ i → hRange l x = false) → hRanges l n xs = [n + (i : Int)]
  | [], _, _, _, h, _, _ => by simp at h
  | x :: xs, n, 0, y, h, hy, ho => by
    simp at h; subst h
    rw [hRanges, hy, hRanges_nil (fun z hz => by
      obtain ⟨j, hj, rfl⟩ := List.getElem_of_mem hz
      exact ho (j + 1) _ (by simp [hj]) (by omega))]
    simp
  | x :: xs, n, i + 1, y, h, hy, ho => by
    have h0 := ho 0 x (by simp) (by omega)
    have ih := hRanges_one (l := l) (n := n + 1) (by simpa using h) hy (fun j z hz hj => ho (j + 1) z (by simpa using hz) (by omega))
    rw [hRanges, h0, ih]
    simp; omega
/-- Each at its own two places, all replied to, none in doubt. -/
def Good (L : List MHap) : Prop := ∀ (p : Nat) (x : MHap), L[p]? = some x → x.2.2 = (2 * (p : Int), 2 * (p : Int) + 1, false, false)
theorem any_at {L : List MHap} {f : MHap → Bool} : L.any f = true ↔ ∃ (p : Nat) (x : MHap), L[p]? = some x ∧ f x = true := by
  rw [List.any_eq_true]
  constructor
  · rintro ⟨x, hx, hf⟩
    obtain ⟨p, hp, rfl⟩ := List.getElem_of_mem hx
    exact ⟨p, _, by simp [hp], hf⟩
  · rintro ⟨p, x, hx, hf⟩
    exact ⟨x, List.mem_of_getElem? hx, hf⟩
section
variable {L : List MHap} (g : Good L) {r : MHap} {i : Nat} (hr : r.2.2 = (2 * (i : Int), 2 * (i : Int) + 1, false, false))
include g
theorem good_done {p : Nat} {x : MHap} (hx : L[p]? = some x) (k : Int) : hDone x k = (decide (x.1.1 = k) && decide (x.2.1.1 = 0)) := by
  unfold hDone; rw [g p x hx]; simp
include hr
theorem good_may {k : Int} {v : List UInt8} {p : Nat} (h1 : isIns L p k v) (h2 : p < i) (h3 : ∀ q, p < q → q < i → ¬ isDel L q k) : hMay L r (k, v) = true := by
  obtain ⟨x, hx, e1, e2, e3, e4⟩ := h1
  unfold hMay
  rw [any_at]
  refine ⟨p, x, hx, ?_⟩
  have hg : hGone L r x = false := by
    unfold hGone
    cases ha : L.any (hGone1 r x) with
    | false => simp
    | true =>
      obtain ⟨q, y, hy, hf⟩ := any_at.1 ha
      unfold hGone1 hAhead at hf
      rw [good_done g hy, g q y hy, g p x hx, hr] at hf
      simp at hf
      obtain ⟨⟨⟨⟨f1, f2⟩, f3⟩, f4⟩, f5⟩ := hf
      exact absurd ⟨y, hy, f1.1, f1.2, by rw [f3, e3]⟩ (h3 q (by omega) (by omega))
  unfold hMay1
  rw [good_done g hx, g p x hx, hr, hg]
  simp [e1, e2, e3, e4]
  omega
theorem good_misses : hMisses L r = true ↔ ∃ (p : Nat) (x : MHap), L[p]? = some x ∧ r.1.2.1 ≤ x.1.2.1 ∧ x.1.2.1 ≤ r.1.2.2.1 ∧ hTold r x.1.2.1 = false ∧ x.1.1 = 1 ∧ x.2.1.1 = 0 ∧ p < i ∧ ∀ q, p ≤ q → q ≤ i → ¬ isDel L q x.1.2.1 := by
  unfold hMisses
  rw [any_at]
  constructor
  · rintro ⟨p, x, hx, hf⟩
    unfold hMisses1 hSure hAhead at hf
    rw [good_done g hx, g p x hx, hr] at hf
    simp at hf
    obtain ⟨⟨⟨⟨⟨f1, f2⟩, f3⟩, f4, f5⟩, f6⟩, f7⟩ := hf
    refine ⟨p, x, hx, f1, f2, f3, f4, f5, by omega, fun q hq1 hq2 hd => ?_⟩
    obtain ⟨y, hy, d1, d2, d3⟩ := hd
    have : hWithin L r x = true := by
      unfold hWithin
      rw [any_at]
      refine ⟨q, y, hy, ?_⟩
      unfold hWithin1 hAhead
      rw [good_done g hy, g q y hy, g p x hx, hr]
      simp [d1, d2, d3]
      omega
    rw [this] at f7
    cases f7
  · rintro ⟨p, x, hx, f1, f2, f3, f4, f5, f6, f7⟩
    refine ⟨p, x, hx, ?_⟩
    have hw : hWithin L r x = false := by
      unfold hWithin
      cases ha : L.any (hWithin1 r x) with
      | false => rfl
      | true =>
        obtain ⟨q, y, hy, hf⟩ := any_at.1 ha
        unfold hWithin1 hAhead at hf
        rw [good_done g hy, g q y hy, g p x hx, hr] at hf
        simp at hf
        obtain ⟨⟨⟨⟨d1, d2⟩, d3⟩, d4⟩, d5⟩ := hf
        exact absurd ⟨y, hy, d1, d2, d3⟩ (f7 q (by omega) (by omega))
    unfold hMisses1 hSure hAhead
    rw [good_done g hx, g p x hx, hr, hw]
    simp [f1, f2, f3, f4, f5]
    omega
end
theorem hBad_false {l : List MHap} {r : MHap} : ∀ {p : Option Int} {is : List MItem}, mOk p is = true → (∀ x ∈ is, r.1.2.1 ≤ x.1 ∧ x.1 ≤ r.1.2.2.1 ∧ hMay l r x = true) → hBad l r p is = false
  | _, [], _, _ => by simp [hBad]
  | p, x :: is, h, ha => by
    obtain ⟨_, h2, h3⟩ := mOk_cons.1 h
    have ih := hBad_false (l := l) (r := r) h3 (fun y hy => ha y (by simp [hy]))
    obtain ⟨a1, a2, a3⟩ := ha x (by simp)
    cases p with
    | none => simp [hBad, ih, a3]; omega
    | some q =>
      have := h2 q rfl
      simp [hBad, ih, a3]; omega
/-- A history of a trace, in which results may be told with other items. -/
def Like (L L' : List MHap) : Prop := ∀ p : Nat, (L[p]? = none ↔ L'[p]? = none) ∧ ∀ x x', L[p]? = some x → L'[p]? = some x' → x'.1 = x.1 ∧ x'.2.1.1 = x.2.1.1 ∧ x'.2.2 = x.2.2
theorem Like.get {L L' : List MHap} (h : Like L L') {p : Nat} {x : MHap} (hx : L[p]? = some x) : ∃ x', L'[p]? = some x' ∧ x'.1 = x.1 ∧ x'.2.1.1 = x.2.1.1 ∧ x'.2.2 = x.2.2 := by
  cases h' : L'[p]? with
  | none => rw [(h p).1.2 h'] at hx; cases hx
  | some x' => exact ⟨x', rfl, (h p).2 x x' hx h'⟩
theorem Like.symm {L L' : List MHap} (h : Like L L') : Like L' L := fun p => ⟨(h p).1.symm, fun x x' h1 h2 => by obtain ⟨a, b, c⟩ := (h p).2 x' x h2 h1; exact ⟨a.symm, b.symm, c.symm⟩⟩
theorem Like.ins {L L' : List MHap} (h : Like L L') {p : Nat} {k : Int} {v : List UInt8} (hi : isIns L p k v) : isIns L' p k v := by
  obtain ⟨x, hx, h1, h2, h3, h4⟩ := hi
  obtain ⟨x', hx', e1, e2, _⟩ := h.get hx
  exact ⟨x', hx', by rw [e1]; exact h1, by rw [e2]; exact h2, by rw [e1]; exact h3, by rw [e1]; exact h4⟩
theorem Like.del {L L' : List MHap} (h : Like L L') {p : Nat} {k : Int} (hi : isDel L p k) : isDel L' p k := by
  obtain ⟨x, hx, h1, h2, h3⟩ := hi
  obtain ⟨x', hx', e1, e2, _⟩ := h.get hx
  exact ⟨x', hx', by rw [e1]; exact h1, by rw [e2]; exact h2, by rw [e1]; exact h3⟩
theorem Trace.good {m : List MItem} {L : List MHap} (h : Trace m L) : Good L := by
  intro p x hx
  obtain ⟨hp, rfl⟩ := List.getElem?_eq_some_iff.1 hx
  obtain ⟨mi, c, _, _, e⟩ := h.at p hp
  rw [e]; rfl
theorem Like.good {L L' : List MHap} (h : Like L L') (g : Good L) : Good L' := by
  intro p x' hx'
  obtain ⟨x, hx, _, _, e⟩ := h.symm.get hx'
  rw [← e]; exact g p x hx
/-- What a map holds at a range, by the history ahead of it. -/
theorem Trace.held {m : List MItem} {L : List MHap} (_ : Trace m L) {i : Nat} {mi : List MItem} (ht : Trace mi (L.take i)) (k : Int) (v : List UInt8) : mKey k mi = some v ↔ ∃ p, isIns L p k v ∧ p < i ∧ ∀ q, p < q → q < i → ¬ isDel L q k := by
  rw [ht.last k v]
  constructor
  · rintro ⟨p, ⟨x, hx, hrest⟩, hd⟩
    have hp : p < i := by
      rcases Nat.lt_or_ge p i with h1 | h1
      · exact h1
      · rw [List.getElem?_take_eq_none h1] at hx; cases hx
    rw [List.getElem?_take_of_lt hp] at hx
    refine ⟨p, ⟨x, hx, hrest⟩, hp, fun q hq hqi hdq => hd q hq ?_⟩
    obtain ⟨y, hy, hr⟩ := hdq
    exact ⟨y, by rw [List.getElem?_take_of_lt hqi]; exact hy, hr⟩
  · rintro ⟨p, ⟨x, hx, hrest⟩, hp, hd⟩
    refine ⟨p, ⟨x, by rw [List.getElem?_take_of_lt hp]; exact hx, hrest⟩, fun q hq hdq => ?_⟩
    obtain ⟨y, hy, hr⟩ := hdq
    have hqi : q < i := by
      rcases Nat.lt_or_ge q i with h1 | h1
      · exact h1
      · rw [List.getElem?_take_eq_none h1] at hy; cases hy
    rw [List.getElem?_take_of_lt hqi] at hy
    exact hd q hq hqi ⟨y, hy, hr⟩
/-- A range that was told: what it was told. -/
theorem range_told {mi : List MItem} {c : MCall} {i : Nat} (h5 : c.1 = 5) (h0 : (entry mi c i).2.1.1 = 0) : (entry mi c i).2.1.2.2.2.1 = mBetween c.2.1 c.2.2.1 mi := by
  have e : (mDone mi c).2 = mAsked mi c := by unfold mDone; rw [if_neg (by omega), if_neg (by omega)]
  unfold entry at h0 ⊢
  simp only [e] at h0 ⊢
  have hh : mHigh c = c.2.2.1 := by unfold mHigh; rw [if_pos h5]
  unfold mAsked at h0 ⊢
  rw [if_pos h5, hh] at h0 ⊢
  split at h0
  · simp [mErr] at h0
  · rename_i hn
    rw [if_neg hn]
/-- Whatever is told at all is told by a range. -/
theorem items_range {mi : List MItem} {c : MCall} {i : Nat} (h : (entry mi c i).2.1.2.2.2.1 ≠ []) : c.1 = 5 ∧ (entry mi c i).2.1.1 = 0 := by
  unfold entry at h ⊢
  simp only at h ⊢
  unfold mDone at h ⊢
  split at h
  · split at h <;> simp [mErr] at h
  · split at h
    · split at h <;> simp [mErr] at h
    · rename_i h1 h2
      rw [if_neg h1, if_neg h2]
      simp only at h ⊢
      unfold mAsked at h ⊢
      split at h
      · rename_i h5
        split at h
        · simp [mErr] at h
        · rename_i hn
          rw [if_pos h5, if_neg hn]
          exact ⟨h5, rfl⟩
      · split at h <;> simp [mErr] at h
section
variable {m : List MItem} {L L' : List MHap}
/-- A range that was told what its map held is not wrong, in any history that is like its own. -/
theorem range_right (h : Trace m L) (hl : Like L L') {i : Nat} (hi : i < L.length) : hRange L' L[i] = false := by
  obtain ⟨mi, c, ht, hc, e⟩ := h.at i hi
  by_cases h5 : c.1 = 5
  rotate_left
  · rw [e]; simp [hRange, entry, h5]
  by_cases h0 : (entry mi c i).2.1.1 = 0
  rotate_left
  · rw [e]; unfold hRange; simp [h0]
  have hit := range_told h5 h0
  have gd : Good L' := hl.good h.good
  have hr : L[i].2.2 = (2 * (i : Int), 2 * (i : Int) + 1, false, false) := by rw [e]; rfl
  have ok := ht.ok
  have hheld := h.held ht
  have r1 : L[i].1 = c := by rw [e]; rfl
  have rit : L[i].2.1.2.2.2.1 = mBetween c.2.1 c.2.2.1 mi := by rw [e]; exact hit
  have hb : hBad L' L[i] none L[i].2.1.2.2.2.1 = false := by
    rw [rit]
    refine hBad_false (mOk_between ok) fun y hy => ?_
    obtain ⟨h1, h2, h3⟩ := mBetween_mem.1 hy
    rw [r1]
    refine ⟨h2, h3, ?_⟩
    obtain ⟨p, hp, hpi, hd⟩ := (hheld y.1 y.2).1 ((mKey_mem ok).1 h1)
    exact good_may gd hr (hl.ins hp) hpi fun q hq hqi hdq => hd q hq hqi (hl.symm.del hdq)
  have hm : hMisses L' L[i] = false := by
    cases hq : hMisses L' L[i] with
    | false => rfl
    | true =>
      obtain ⟨p, x, hx, b1, b2, b3, b4, b5, b6, b7⟩ := (good_misses gd hr).1 hq
      rw [r1] at b1 b2
      have hk : mKey x.1.2.1 mi = some x.1.2.2.2 := (hheld _ _).2 ⟨p, hl.symm.ins ⟨x, hx, b4, b5, rfl, rfl⟩, b6, fun q hq hqi hdq => b7 q (by omega) (by omega) (hl.del hdq)⟩
      have hmem := (mKey_mem ok).2 hk
      have : hTold L[i] x.1.2.1 = true := by
        unfold hTold
        rw [rit, List.any_eq_true]
        exact ⟨_, mBetween_mem.2 ⟨hmem, b1, b2⟩, by simp⟩
      rw [this] at b3
      cases b3
  unfold hRange hWrong
  rw [hb, hm]
  simp
/-- No range of a trace is wrong. -/
theorem trace_ranges (h : Trace m L) : hRanges L 0 L = [] := by
  refine hRanges_nil fun x hx => ?_
  obtain ⟨i, hi, rfl⟩ := List.getElem_of_mem hx
  exact range_right h (fun p => ⟨Iff.rfl, fun x x' h1 h2 => by rw [h1] at h2; cases h2; exact ⟨rfl, rfl, rfl⟩⟩) hi
/-- One that is told other items. -/
def told (x : MHap) (is : List MItem) : MHap := (x.1, (x.2.1.1, x.2.1.2.1, x.2.1.2.2.1, is, x.2.1.2.2.2.2), x.2.2)
theorem like_set (L : List MHap) {i : Nat} (hi : i < L.length) (is : List MItem) : Like L (L.set i (told L[i] is)) := by
  intro p
  by_cases hp : p = i
  · subst hp
    refine ⟨by simp [hi], fun x x' h1 h2 => ?_⟩
    rw [List.getElem?_set_self hi] at h2
    rw [List.getElem?_eq_getElem hi] at h1
    cases h1; cases h2
    exact ⟨rfl, rfl, rfl⟩
  · rw [List.getElem?_set_ne (Ne.symm hp)]
    exact ⟨Iff.rfl, fun x x' h1 h2 => by rw [h1] at h2; cases h2; exact ⟨rfl, rfl, rfl⟩⟩
theorem mOk_key_at : ∀ {p : Option Int} {l : List MItem}, mOk p l = true → ∀ (a b : Nat) (ha : a < l.length) (hb : b < l.length), l[a].1 = l[b].1 → a = b
  | _, [], _, a, _, ha, _, _ => by simp at ha
  | p, x :: l, h, a, b, ha, hb, e => by
    obtain ⟨_, _, h3⟩ := mOk_cons.1 h
    have hg := mOk_gt h3
    cases a with
    | zero =>
      cases b with
      | zero => rfl
      | succ b =>
        have := hg _ (List.getElem_mem (show b < l.length by simpa using hb))
        simp at e; omega
    | succ a =>
      cases b with
      | zero =>
        have := hg _ (List.getElem_mem (show a < l.length by simpa using ha))
        simp at e; omega
      | succ b =>
        have := mOk_key_at h3 a b (by simpa using ha) (by simpa using hb) (by simpa using e)
        omega
/-- One that is told an item less is wrong, and no other. -/
theorem trace_spoil (h : Trace m L) {i : Nat} (hi : i < L.length) {k : Nat} (hk : k < L[i].2.1.2.2.2.1.length) :
    hRanges (L.set i (told L[i] (L[i].2.1.2.2.2.1.eraseIdx k))) 0 (L.set i (told L[i] (L[i].2.1.2.2.2.1.eraseIdx k))) = [(i : Int)] := by
  obtain ⟨mi, c, ht, hc, e⟩ := h.at i hi
  have hne : (entry mi c i).2.1.2.2.2.1 ≠ [] := by rw [← e]; intro h; rw [h] at hk; simp at hk
  obtain ⟨h5, h0⟩ := items_range hne
  have hit := range_told h5 h0
  have rit : L[i].2.1.2.2.2.1 = mBetween c.2.1 c.2.2.1 mi := by rw [e]; exact hit
  have hl := like_set L hi (L[i].2.1.2.2.2.1.eraseIdx k)
  have gd : Good (L.set i (told L[i] (L[i].2.1.2.2.2.1.eraseIdx k))) := hl.good h.good
  have hr : (told L[i] (L[i].2.1.2.2.2.1.eraseIdx k)).2.2 = (2 * (i : Int), 2 * (i : Int) + 1, false, false) := by
    show L[i].2.2 = _
    rw [e]; rfl
  have hself : (L.set i (told L[i] (L[i].2.1.2.2.2.1.eraseIdx k)))[i]? = some (told L[i] (L[i].2.1.2.2.2.1.eraseIdx k)) := List.getElem?_set_self hi
  have := hRanges_one (l := L.set i (told L[i] (L[i].2.1.2.2.2.1.eraseIdx k))) (n := 0) hself ?_ ?_
  · rw [this]; simp
  · have hm : hMisses (L.set i (told L[i] (L[i].2.1.2.2.2.1.eraseIdx k))) (told L[i] (L[i].2.1.2.2.2.1.eraseIdx k)) = true := by
      rw [good_misses gd hr]
      have hz := List.getElem_mem hk
      obtain ⟨z, hzz⟩ : ∃ z, L[i].2.1.2.2.2.1[k] = z := ⟨_, rfl⟩
      rw [hzz, rit] at hz
      obtain ⟨z1, z2, z3⟩ := mBetween_mem.1 hz
      obtain ⟨p, ⟨x, hx, x1, x2, x3, x4⟩, hpi, hd⟩ := (h.held ht z.1 z.2).1 ((mKey_mem ht.ok).1 z1)
      obtain ⟨x', hx', e1, e2, _⟩ := hl.get hx
      refine ⟨p, x', hx', ?_, ?_, ?_, by rw [e1]; exact x1, by rw [e2]; exact x2, hpi, fun q hq hqi hdq => ?_⟩
      · show L[i].1.2.1 ≤ _
        rw [e1, x3, e]; exact z2
      · show _ ≤ L[i].1.2.2.1
        rw [e1, x3, e]; exact z3
      · rw [e1, x3]
        cases hq : hTold (told L[i] (L[i].2.1.2.2.2.1.eraseIdx k)) z.1 with
        | false => rfl
        | true =>
          unfold hTold at hq
          rw [List.any_eq_true] at hq
          obtain ⟨y, hy, hyk⟩ := hq
          have hy' : y ∈ L[i].2.1.2.2.2.1.eraseIdx k := hy
          rw [List.mem_eraseIdx_iff_getElem] at hy'
          obtain ⟨a, ha, hak, rfl⟩ := hy'
          have hokb := mOk_between (a := c.2.1) (b := c.2.2.1) ht.ok
          rw [← rit] at hokb
          have := mOk_key_at hokb a k ha hk (by rw [hzz]; simpa using hyk)
          exact absurd this hak
      · rw [e1, x3] at hdq
        have hdq' := hl.symm.del hdq
        by_cases hqp : q = p
        · subst hqp
          obtain ⟨y, hy, d1, _⟩ := hdq'
          rw [hx] at hy; cases hy
          omega
        · by_cases hqi2 : q = i
          · subst hqi2
            obtain ⟨y, hy, d1, _⟩ := hdq'
            rw [List.getElem?_eq_getElem hi, e] at hy
            cases hy
            have : c.1 = 2 := d1
            omega
          · exact hd q (by omega) (by omega) hdq'
    have q1 : (told L[i] (L[i].2.1.2.2.2.1.eraseIdx k)).1.1 = 5 := by
      show L[i].1.1 = 5
      rw [e]; exact h5
    have q2 : (told L[i] (L[i].2.1.2.2.2.1.eraseIdx k)).2.1.1 = 0 := by
      show L[i].2.1.1 = 0
      rw [e]; exact h0
    unfold hRange hWrong
    rw [hm, hr, q1, q2]
    simp
  · intro j x hx hj
    rw [List.getElem?_set_ne (Ne.symm hj)] at hx
    obtain ⟨hjl, rfl⟩ := List.getElem?_eq_some_iff.1 hx
    exact range_right h hl hjl
end
end Go.Proofs.Ytplhcfaonhkegaa

namespace Go.Proofs.Ytplhcfaonhkegaa
open Go.RowKit Go.Maps

/-- A history that the call has made, and a map that is read alone. -/
def AtM (w wi : World) (hb : Nat) (s : MHist) (v : Value) (m : List MItem) : Prop :=
  ∃ c, HistAt c 1 wi hb s ∧ Fr Non w wi ∧ (∀ b, b < w.heap.size → c b = 0) ∧ Sl kItem (fun b => c b = 0) wi v m
theorem AtM.fr {w wi wj : World} {hb : Nat} {s : MHist} {v : Value} {m : List MItem} (h : AtM w wi hb s v m) (f : Fr Non wi wj) : AtM w wj hb s v m := by
  obtain ⟨c, h1, h2, h3, h4⟩ := h
  exact ⟨_, h1.clr f, h2.trans f, fun b hb => by rw [clr_old (Nat.lt_of_lt_of_le hb h2.size)]; exact h3 b hb, (h4.stay f).fr (fun _ _ _ => rfl) (fun b hb hs => by
    by_cases hl : b < wi.heap.size
    · rw [clr_old hl]; exact hs
    · exact clr_new (by omega))⟩
theorem AtM.frame {w wi : World} {hb : Nat} {s : MHist} {v : Value} {m : List MItem} (h : AtM w wi hb s v m) : Fr Non w wi := by obtain ⟨_, _, h, _⟩ := h; exact h
/-- What is of trace: no call is open, two places each. -/
structure TrueSt (m : List MItem) (s : MHist) (j : Nat) : Prop where
  ok : HistOk s
  none : hOpens s.2 = []
  two : s.1 = 2 * s.2.length
  few : s.2.length ≤ j
  trace : Trace m (hAll s.2)
theorem TrueSt.nil : TrueSt [] (0, []) 0 := ⟨HistOk.nil, rfl, rfl, by simp, Trace.nil⟩
theorem free_told {m : List MItem} {c : MCall} : hFree c.1 (mDone m c).2.1 = false := by
  unfold mDone hFree
  split
  · rename_i h1
    split <;> simp [mErr, h1]
  · rename_i h1
    split
    · rename_i h2
      split <;> simp [mErr, h2]
    · rename_i h2
      simp [h1, h2]
/-- A call that is done is noted, and replied to at once. -/
theorem TrueSt.step {m : List MItem} {s : MHist} {j : Nat} (h : TrueSt m s j) (hj : j < 30) (q : Int) {c : MCall} (hc : mCallOk c = true) :
    (hCall s q c).1 = 0 ∧ (hReply (hCall s q c).2 q (mDone m c).2).1 = 0 ∧ TrueSt (mDone m c).1 (hReply (hCall s q c).2 q (mDone m c).2).2 (j + 1) := by
  have hno : hOpenAt q s.2 = Option.none := (opens_none h.ok.kills).2 (by rw [h.none]; simp)
  have h2 := h.two
  have h3 := h.few
  have e1 : hCall s q c = (0, s.1 + 1, s.2 ++ [hNote q c s.1]) := by
    unfold hCall
    rw [hno]
    simp only [hc, if_true]
    rw [if_neg (by omega)]
  have ok1 := h.ok.call q c
  rw [e1] at ok1 ⊢
  have ho : hOpenAt q (s.2 ++ [hNote q c s.1]) = some s.2.length := by rw [openAt_append, hno]; simp [nOpen, hNote]
  have e2 : hReply (s.1 + 1, s.2 ++ [hNote q c s.1]) q (mDone m c).2 = (0, s.1 + 1 + 1, (s.2 ++ [hNote q c s.1]).modify s.2.length fun x => hReplied x (mDone m c).2 ((s.1 + 1 : Nat) : Int)) := by
    unfold hReply
    simp only [ho]
    rw [if_neg (by omega)]
  have ok2 := ok1.reply q (mDone m c).2
  have hop := hOpens_reply ok1 (id := q) (i := s.2.length) ho (mDone m c).2 ((s.1 + 1 : Nat) : Int)
  rw [e2] at ok2 ⊢
  refine ⟨rfl, rfl, ok2, ?_, ?_, ?_, ?_⟩
  · show hOpens ((s.2 ++ [hNote q c s.1]).modify s.2.length _) = []
    rw [hop]
    show (hOpens (s.2 ++ [hNote q c s.1])).filter _ = []
    rw [hOpens_append, h.none]
    simp [hOpens, hNote]
  · show s.1 + 1 + 1 = 2 * ((s.2 ++ [hNote q c s.1]).modify s.2.length _).length
    simp; omega
  · show ((s.2 ++ [hNote q c s.1]).modify s.2.length _).length ≤ j + 1
    simp; omega
  · have : hAll ((s.2 ++ [hNote q c s.1]).modify s.2.length fun x => hReplied x (mDone m c).2 ((s.1 + 1 : Nat) : Int)) = hAll s.2 ++ [entry m c (hAll s.2).length] := by
      have hm := modify_mid (fun x => hReplied x (mDone m c).2 ((s.1 + 1 : Nat) : Int)) s.2 [] (hNote q c s.1)
      rw [hm]
      have hl : (hAll s.2).length = s.2.length := by simp [hAll]
      have ff := free_told (m := m) (c := c)
      simp only [hAll, List.map_append, List.map_cons, List.map_nil, List.length_map]
      unfold entry hReplied hNote
      simp only [ff, h2]
      congr 4
    show Trace _ (hAll ((s.2 ++ [hNote q c s.1]).modify s.2.length _))
    rw [this]
    exact Trace.step h.trace hc
end Go.Proofs.Ytplhcfaonhkegaa

namespace Go.Proofs.Ytplhcfaonhkegaa
open Go.RowKit Go.Maps

theorem told_len (l : List MItem) (c : MCall) : (mDone l c).2.2.2.2.1.length ≤ 64 := by
  unfold mDone
  split
  · split <;> simp [mErr]
  · split
    · split <;> simp [mErr]
    · unfold mAsked
      split
      · split
        · simp [mErr]
        · simp; omega
      · split <;> simp [mErr]
theorem Trace.items {m : List MItem} {L : List MHap} (h : Trace m L) : ∀ x ∈ L, x.2.1.2.2.2.1.length ≤ 64 := by
  intro x hx
  obtain ⟨i, hi, rfl⟩ := List.getElem_of_mem hx
  obtain ⟨mi, c, _, _, e⟩ := h.at i hi
  rw [e]
  exact told_len mi c
theorem done_form (l : List MItem) (c : MCall) : ∃ e k b is f, (mDone l c).2 = (e, k, b, is, r0, r0, f) ∧ (0 ≤ e ∧ e ≤ 102) := by
  unfold mDone
  split
  · split <;> exact ⟨_, _, _, _, _, rfl, by omega⟩
  · split
    · split <;> exact ⟨_, _, _, _, _, rfl, by omega⟩
    · unfold mAsked
      split
      · split <;> exact ⟨_, _, _, _, _, rfl, by omega⟩
      · split <;> exact ⟨_, _, _, _, _, rfl, by omega⟩
theorem do_form (l : List MItem) (c : MCall) : ∃ e k b is f, (mDo l c).2.1 = (e, k, b, is, r0, r0, f) ∧ (0 ≤ e ∧ e ≤ 102) := by
  unfold mDo
  split
  · split
    · exact done_form l c
    · exact ⟨_, _, _, _, _, rfl, by omega⟩
  · exact ⟨_, _, _, _, _, rfl, by omega⟩
theorem do_ok {l : List MItem} {c : MCall} (h : (mDo l c).2.2 = 0) : mCallOk c = true ∧ (mDo l c).1 = (mDone l c).1 ∧ (mDo l c).2.1 = (mDone l c).2 := by
  unfold mDo at h ⊢
  split at h
  · rename_i h1
    split at h
    · rename_i h2
      rw [if_pos h1, if_pos h2]
      exact ⟨h2, rfl, rfl⟩
    · simp at h
  · simp at h
theorem ResS.rd {S : Nat → Prop} {w : World} {y : Value} {r : MRes} (h : ResS S w y r) (hf : ∃ e k b is f, r = (e, k, b, is, r0, r0, f) ∧ (0 ≤ e ∧ e ≤ 102)) : ∃ rcs, y = .agg rcs.toArray ∧ kRes.rd S w rcs r := by
  obtain ⟨u, vv, rfl, hu, hv, h1, h2, h3⟩ := h
  obtain ⟨e, k, b, is, f, rfl, h4, h5⟩ := hf
  refine ⟨_, rfl, cells_res (wf_i64.2 (by omega)) h3 hu h1 hv ?_⟩
  have : (200000 : Nat) * 32 ≤ reachBytes := by decide
  simp only at h2
  omega
/-- Behind the reference's answer. -/
def AtD (w wi : World) (hb : Nat) (s : MHist) (v : Value) (m : List MItem) (rcs : List Value) (r : MRes) : Prop :=
  ∃ c, HistAt c 1 wi hb s ∧ Fr Non w wi ∧ (∀ b, b < w.heap.size → c b = 0) ∧ Sl kItem (fun b => c b = 0) wi v m ∧ kRes.rd (fun b => c b = 0) wi rcs r
theorem AtM.doAt {w wi wj : World} {hb : Nat} {s : MHist} {v : Value} {m : List MItem} (h : AtM w wi hb s v m) (f : Fr Non wi wj) (hm : m.length ≤ 80000) {k key high : Int} {ca : Option Addr} {cc : Nat} {bs : List UInt8}
    (hv : Sl kByte (fun b => b < w.heap.size) wj (.slice ca bs.length cc) bs) (hk : 0 ≤ key ∧ key ≤ 18446744073709551615) :
    Calls Try.prog 39 #[v, .agg #[.int .i64 k, .int .u64 key, .int .u64 high, .slice ca bs.length cc]] wj fun e w' =>
      ∃ x rcs, e = .returned (.tuple #[x, .agg rcs.toArray, .int .i64 (mDo m (k, key, high, bs)).2.2]) ∧ AtD w w' hb s x (mDo m (k, key, high, bs)).1 rcs (mDo m (k, key, high, bs)).2.1 ∧ AtM w w' hb s v m ∧ Fr Non wj w' := by
  have h' := h.fr f
  obtain ⟨c, h1, h2, h3, h4⟩ := id h'
  refine (rdo_any (S := fun b => c b = 0) h4 hm k key high (hv.mono fun b _ hb => h3 b hb) hk).mono ?_
  rintro e w' ⟨x, y, rfl, hx, hy, f'⟩
  obtain ⟨rcs, rfl, hr⟩ := hy.rd (do_form _ _)
  have hc : ∀ b, b < w'.heap.size → (c b = 0 ∨ wj.heap.size ≤ b) → clr wj c b = 0 := fun b _ hb => by
    by_cases hl : b < wj.heap.size
    · rw [clr_old hl]
      rcases hb with hb | hb
      · exact hb
      · omega
    · exact clr_new (by omega)
  exact ⟨x, rcs, rfl, ⟨clr wj c, h1.clr f', h2.trans f', fun b hb => by rw [clr_old (Nat.lt_of_lt_of_le hb h2.size)]; exact h3 b hb, hx.mono hc, kRes.mono hr hc⟩, h'.fr f', f'⟩
/-- What is told lies in a variable of its own. -/
def AtR (w wi : World) (hb : Nat) (s : MHist) (v : Value) (m : List MItem) (R : Nat) (rcs : List Value) (r : MRes) : Prop :=
  ∃ c, HistAt c 1 wi hb s ∧ Fr Non w wi ∧ (∀ b, b < w.heap.size → c b = 0) ∧ Sl kItem (fun b => c b = 0) wi v m ∧ kRes.rd (fun b => c b = 0) wi rcs r ∧ wi.heap[R]? = some (.cells rcs.toArray 52 (0, 0)) ∧ c R = 0
theorem AtD.box {w wi wj : World} {hb : Nat} {s : MHist} {v : Value} {m : List MItem} {R : Nat} {rcs : List Value} {r : MRes} (h : AtD w wi hb s v m rcs r) (f : Fr Non wi wj) (hR : wj.heap[R]? = some (.cells rcs.toArray 52 (0, 0))) (hn : wi.heap.size ≤ R) :
    AtR w wj hb s v m R rcs r := by
  obtain ⟨c, h1, h2, h3, h4, h5⟩ := h
  have hc : ∀ b, b < wi.heap.size → c b = 0 → clr wi c b = 0 := fun b hb e => by rw [clr_old hb]; exact e
  exact ⟨clr wi c, h1.clr f, h2.trans f, fun b hb => by rw [clr_old (Nat.lt_of_lt_of_le hb h2.size)]; exact h3 b hb, (h4.mono hc).stay f, kRes.stay (kRes.mono h5 hc) f, hR, clr_new hn⟩
theorem AtR.call {w wi : World} {hb : Nat} {s : MHist} {v : Value} {m : List MItem} {R : Nat} {rcs : List Value} {r : MRes} (h : AtR w wi hb s v m R rcs r) (hok : HistOk s) (q : Int) (hid : (Lit.int .i64 q).wf = true) (x : MCall) (va : Option Addr) (vc : Nat)
    (hx : kCall.rd (fun b => b < w.heap.size) wi [.int .i64 x.1, .int .u64 x.2.1, .int .u64 x.2.2.1, .slice va x.2.2.2.length vc] x) :
    Calls Try.prog 45 #[.pointer (some ⟨hb, 0, none⟩), .int .i64 q, .agg #[.int .i64 x.1, .int .u64 x.2.1, .int .u64 x.2.2.1, .slice va x.2.2.2.length vc]] wi fun e w' => e = .returned (.int .i64 (hCall s q x).1) ∧ AtR w w' hb (hCall s q x).2 v m R rcs r := by
  obtain ⟨c, h1, h2, h3, h4, h5, h6, h7⟩ := h
  refine (hcall_at (by decide) h1 hok q hid x va vc (kCall.mono hx fun b _ hb => h3 b hb)).mono ?_
  rintro e w' ⟨g1, g2, c', g3, g4⟩
  have hc : ∀ b, b < wi.heap.size → c b = 0 → c' b = 0 := fun b hb e => by rw [g4 b hb]; exact e
  have hn : ∀ b, b < wi.heap.size → c b = 0 → ¬ c b = 1 := fun b _ e e2 => by rw [e] at e2; cases e2
  exact ⟨g1, c', g3, h2.trans2 g2 (fun b hb e => by rw [h3 b hb] at e; cases e), fun b hb => hc b (Nat.lt_of_lt_of_le hb h2.size) (h3 b hb), h4.fr (fun b hb e => g2.block b hb (hn b hb e)) hc,
    kRes.fr h5 (fun b hb e => g2.block b hb (hn b hb e)) hc, g2.heap h6 (fun e => by rw [h7] at e; cases e), hc R (lt_of_block h6) h7⟩
theorem AtR.reply {w wi : World} {hb : Nat} {s : MHist} {v : Value} {m : List MItem} {R : Nat} {rcs : List Value} {r : MRes} (h : AtR w wi hb s v m R rcs r) (hok : HistOk s) (q : Int) (hid : (Lit.int .i64 q).wf = true) :
    Calls Try.prog 46 #[.pointer (some ⟨hb, 0, none⟩), .int .i64 q, .agg rcs.toArray] wi fun e w' => e = .returned (.int .i64 (hReply s q r).1) ∧ AtM w w' hb (hReply s q r).2 v m := by
  obtain ⟨c, h1, h2, h3, h4, h5, _⟩ := h
  refine (reply_at (by decide) h1 hok q hid r rcs h5).mono ?_
  rintro e w' ⟨g1, g2, c', g3, g4⟩
  have hc : ∀ b, b < wi.heap.size → c b = 0 → c' b = 0 := fun b hb e => by rw [g4 b hb]; exact e
  have hn : ∀ b, b < wi.heap.size → c b = 0 → ¬ c b = 1 := fun b _ e e2 => by rw [e] at e2; cases e2
  exact ⟨g1, c', g3, h2.trans2 g2 (fun b hb e => by rw [h3 b hb] at e; cases e), fun b hb => hc b (Nat.lt_of_lt_of_le hb h2.size) (h3 b hb), h4.fr (fun b hb e => g2.block b hb (hn b hb e)) hc⟩
theorem AtR.load {w wi : World} {hb : Nat} {s : MHist} {v : Value} {m : List MItem} {R : Nat} {rcs : List Value} {r : MRes} (h : AtR w wi hb s v m R rcs r) :
    (Instr.loadAt 52 (.pointer (some ⟨R, 0, none⟩))).run Try.prog wi = .ok (.agg rcs.toArray) wi := by
  obtain ⟨c, _, _, _, _, h5, h6, _⟩ := h
  exact run_loadAt_list _ _ Try.underlying52 rfl (by rw [kRes.len h5]; exact size52) (fun j v hv => by rw [cell_of_row wi R _ _ _ _ h6, Nat.zero_add]; simpa using hv)
theorem AtM.new {w wi : World} {hb : Nat} {s : MHist} (h : AtW w wi hb s) : AtM w wi hb s (.slice none 0 0) [] := by
  obtain ⟨c, h1, h2, h3⟩ := h
  exact ⟨c, h1, h2, h3, .inl ⟨rfl, rfl⟩⟩
theorem AtM.hist {w wi : World} {hb : Nat} {s : MHist} {v : Value} {m : List MItem} (h : AtM w wi hb s v m) : AtW w wi hb s := by
  obtain ⟨c, h1, h2, h3, _⟩ := h
  exact ⟨c, h1, h2, h3⟩
/-- A call, cut. -/
def cCut (c : MCall) : MCall := if 100 < c.2.2.2.length ∧ c.2.2.2.length ≤ 1024 then (c.1, c.2.1, c.2.2.1, c.2.2.2.take 100) else c
theorem cut_call (c : MCall) : oCut (0, 0, c, mErr 0, false) = (0, 0, cCut c, mErr 0, false) := by
  have h1 : oC (0, 0, c, mErr 0, false) = (0, 0, cCut c, mErr 0, false) := by
    unfold oC cCut
    split <;> rfl
  unfold oCut
  rw [h1]
  have h2 : oR (0, 0, cCut c, mErr 0, false) = (0, 0, cCut c, mErr 0, false) := by
    unfold oR
    rw [if_neg (by simp [mErr])]
  rw [h2]
  unfold oI
  rw [if_neg (by simp [mErr])]
theorem call_rd {S : Nat → Prop} {w : World} {a : Option Addr} {n c : Nat} {l : List MCall} (h : Sl kCall S w (.slice a n c) l) (i : Nat) (hi : i < l.length) :
    ∃ b o cs, a = some ⟨b, o, none⟩ ∧ kCall.rd S w cs l[i] ∧ (Instr.loadAt 39 (.pointer (some ⟨b, o + i * 4, none⟩))).run Try.prog w = .ok (.agg cs.toArray) w := by
  obtain ⟨b, o, cs, rfl, _, _, _, hr, hc⟩ := h.at i hi
  have hl : cs.length = 4 := kCall.len hr
  refine ⟨b, o, cs, rfl, hr, run_loadAt_list _ _ Try.underlying39 rfl (by rw [hl]; exact size39) fun j v hv => ?_⟩
  obtain ⟨hj, rfl⟩ := List.getElem?_eq_some_iff.1 hv
  exact hc j hj
/-- The cells of items, as they are appended. -/
theorem items_row {w : World} {B O n c : Nat} {l : List MItem} (h : Sl kItem All w (.slice (some ⟨B, O, none⟩) n c) l) : ∃ cs, Row kItem All w cs l ∧ cs.length = l.length * 2 ∧ ∀ j u, cs[j]? = some u → w.cell? ⟨B, O + j, none⟩ = some u := by
  rcases h with ⟨he, _⟩ | ⟨a, c', he, _, _, _, h4⟩
  · cases he
  · cases he
    obtain ⟨cs, h1, h2⟩ := h4.row
    exact ⟨cs, h1, h1.len, h2⟩
theorem items_src {w : World} {B O n c k : Nat} {l : List MItem} {cs : List Value} (hr : Row kItem All w cs l) (hc : ∀ j u, cs[j]? = some u → w.cell? ⟨B, O + j, none⟩ = some u) (hk : k < l.length) (hn : n = l.length) :
    Src w 2 (.slice (some ⟨B, O, none⟩) k c) k (cs.take (k * 2)) ∧ Src w 2 (.slice (if c = k + 1 then some ⟨B, O, none⟩ else some ⟨B, O + (k + 1) * 2, none⟩) (n - (k + 1)) (c - (k + 1))) (n - (k + 1)) (cs.drop ((k + 1) * 2)) ∨ c < l.length := by
  subst hn
  by_cases hcl : c < l.length
  · exact .inr hcl
  left
  have hl := hr.len
  have hsz : kItem.sz = 2 := rfl
  rw [hsz] at hl
  refine ⟨⟨by rw [List.length_take]; omega, fun u hu => Row.one hr u (List.mem_of_mem_take hu), .inr ⟨_, _, rfl, fun j u hu => ?_⟩⟩, ⟨by rw [List.length_drop]; omega, fun u hu => Row.one hr u (List.mem_of_mem_drop hu), .inr ?_⟩⟩
  · rw [List.getElem?_take] at hu
    split at hu
    · rw [addr_add']
      exact hc j u hu
    · cases hu
  · by_cases he : c = k + 1
    · have : l.length = k + 1 := by omega
      refine ⟨⟨B, O, none⟩, c - (k + 1), by rw [if_pos he], fun j u hu => ?_⟩
      rw [List.drop_eq_nil_of_le (by omega)] at hu
      cases hu
    · refine ⟨⟨B, O + (k + 1) * 2, none⟩, c - (k + 1), by rw [if_neg he], fun j u hu => ?_⟩
      rw [List.getElem?_drop] at hu
      rw [addr_add', Nat.add_assoc]
      exact hc _ u hu
theorem row_erase {S : Nat → Prop} {w : World} {l : List MItem} {cs : List Value} (hr : Row kItem S w cs l) (k : Nat) : Row kItem S w (cs.take (k * 2) ++ cs.drop ((k + 1) * 2)) (l.eraseIdx k) := by
  rw [List.eraseIdx_eq_take_drop_succ]
  exact (hr.take k).append (hr.drop (k + 1))
/-- One of a row told other items: the row's cells. -/
theorem row_told {w : World} {l : List MHap} {A E B : List Value} (hr : Row kHap All w (A ++ (E ++ B)) l) {i : Nat} (hi : i < l.length) (hA : A.length = i * 23) (hE : E.length = 23) {is : List MItem} {v : Value} (hv : Sl kItem All w v is) (hl : is.length * 32 ≤ reachBytes) :
    Row kHap All w (A ++ (putAt E 7 [v] ++ B)) (l.set i (told l[i] is)) := by
  have he : kHap.rd All w E l[i] := by
    obtain ⟨c1, cx, c2, e, h1, h2⟩ := hr.at i hi
    have hcx : cx.length = 23 := kHap.len h2
    have hsz : kHap.sz = 23 := rfl
    rw [hsz] at h1
    rw [List.append_assoc] at e
    have e1 := (List.append_inj e (by omega)).2
    have e2 := (List.append_inj e1 (by omega)).1
    rw [e2]; exact h2
  rw [show l.set i (told l[i] is) = l.modify i (fun x => told x is) by rw [List.modify_eq_set, List.getElem?_eq_getElem hi]; rfl]
  refine hr.put hi hA hE ?_
  obtain ⟨cc, rs, rfl, hcc, hrs, _⟩ := hap_parts he
  obtain ⟨_, _, e0, h1, _, _, e1, h2, h3⟩ := he
  have hlc := kCall.len h1
  have hlr := kRes.len h2
  unfold hapE at e0
  obtain ⟨rfl, e3⟩ := List.append_inj e0 (by rw [hcc, hlc]; rfl)
  rw [e1] at e3
  obtain ⟨rfl, e4⟩ := List.append_inj e3 (by rw [hrs, hlr]; rfl)
  obtain ⟨u1, u2, tl, rfl, hu1, hB1, hu2, hB2, hput⟩ := res_put h2
  obtain ⟨_, _, e5, ⟨e5a, w3⟩, _, _, e6, ⟨e6a, w4⟩, _⟩ := h3
  have := hput u1 v l[i].2.1.2.2.1 is hu1 hB1 hv hl
  unfold hapE told
  rw [putAt_right (by omega), hcc, putAt_left (by rw [hrs]; simp)]
  exact hap_of h1 this w3 w4
/-- A row of one's own, as a slice that reads. -/
theorem row_sl {w : World} {g n cap : Nat} {cur : List Value} {cs : List Value} {l : List MHap} (hg : w.heap[g]? = some (.cells cur.toArray 76 (0, 0))) (hn : n = l.length) (h1 : l.length ≤ cap) (h2 : cap ≤ maxLen) (hc : ∀ (j : Nat) (u : Value), cs[j]? = some u → cur[j]? = some u) (hr : Row kHap All w cs l) :
    Sl kHap All w (.slice (some ⟨g, 0, none⟩) n cap) l := by
  subst hn
  refine .inr ⟨_, cap, rfl, h1, h2, fun _ => ⟨rfl, trivial⟩, Elems.of_row hr fun j u hu => ?_⟩
  rw [cell_of_row w g (0 + j) _ _ _ hg, Nat.zero_add]
  simpa using hc j u hu
/-- The row that is copied, and what it is behind the store of other items. -/
theorem told_sl {we w10 w11 : World} {g cap : Nat} {A E B1 rest : List Value} {l : List MHap} {j : Nat} (hj : j < l.length) (hr : Row kHap All we (A ++ (E ++ B1)) l) (hA : A.length = j * 23) (hE : E.length = 23) {is : List MItem} {v : Value} (hv : Sl kItem All we v is) (hl : is.length * 32 ≤ reachBytes)
    (f : Fr Non we w10) (f' : Fr (fun b => b = g) w10 w11) (hgn : we.heap.size ≤ g) (hg : w11.heap[g]? = some (.cells (A ++ (putAt E 7 [v] ++ (B1 ++ rest))).toArray 76 (0, 0))) (h1 : l.length ≤ cap) (h2 : cap ≤ maxLen) :
    Sl kHap All w11 (.slice (some ⟨g, 0, none⟩) l.length cap) (l.set j (told l[j] is)) := by
  have fw : Fr (fun b => b = g) we w11 := (f.mono fun _ _ h => h.elim).trans f'
  have hr' : Row kHap All w11 (A ++ (E ++ B1)) l := by
    refine (hr.fr (S' := fun b => b < we.heap.size) (fun _ _ _ => rfl) (fun b hb _ => hb)).fr (fun b hb h => fw.block b hb (by omega)) (fun _ _ _ => trivial)
  have hv' : Sl kItem All w11 v is := (hv.there.frame fw (fun b hb _ e => by omega)).mono fun _ _ _ => trivial
  refine row_sl (cs := A ++ (putAt E 7 [v] ++ B1)) hg (by simp) (by simpa using h1) h2 (fun q u hu => ?_) (row_told hr' hj hA hE hv' hl)
  have := (List.getElem?_eq_some_iff.1 hu).1
  rw [show A ++ (putAt E 7 [v] ++ (B1 ++ rest)) = (A ++ (putAt E 7 [v] ++ B1)) ++ rest by simp, List.getElem?_append_left this]
  exact hu
theorem size22 : (Try.prog.info? 22).map (·.size) = some 1 := by kernel_rfl
/-- A slice of one number. -/
theorem one_int (w : World) (x : Int) : GRow (w.alloc (.cells #[.int .i64 x] 3)) 3 1 (.slice (some ⟨w.heap.size, 0, none⟩) 1 1) 1 (ints [x]) :=
  ⟨rfl, .inr ⟨_, 1, _, rfl, alloc_at w _, by omega, by unfold maxLen; omega, by simp, rfl⟩⟩
end Go.Proofs.Ytplhcfaonhkegaa

namespace Go.Proofs.Ytplhcfaonhkegaa
open Go.RowKit Go.Maps

def TrueAt (w wx : World) (hb : Nat) (v : Value) (j : Nat) : Prop := ∃ m s, TrueSt m s j ∧ m.length ≤ j ∧ j ≤ 30 ∧ AtM w wx hb s v m
theorem TrueSt.more {m : List MItem} {s : MHist} {j : Nat} (h : TrueSt m s j) : TrueSt m s (j + 1) := ⟨h.ok, h.none, h.two, by have := h.few; omega, h.trace⟩
theorem TrueAt.same {w wx : World} {hb : Nat} {v : Value} {j : Nat} {m : List MItem} {s : MHist} (h1 : TrueSt m s j) (h2 : m.length ≤ j) (h3 : j < 30) (h4 : AtM w wx hb s v m) : TrueAt w wx hb v (j + 1) :=
  ⟨m, s, h1.more, by omega, by omega, h4⟩
theorem op_built {S : Nat → Prop} {w : World} {a b c v : Value} {x : MCall} (h : kCall.rd S w [a, b, c, v] x) :
    kOp.rd S w [.int .i64 0, .int .i64 0, a, b, c, v, .int .i64 0, .int .u64 0, .slice none 0 0, .slice none 0 0, .int .i64 0, .int .i64 0, .int .u64 0, .int .i64 0, .int .u64 0, .int .i64 0, .int .i64 0, .int .u64 0, .int .i64 0, .int .u64 0, .bool false, .bool false] (0, 0, x, mErr 0, false) :=
  op_of (x := (0, 0, x, mErr 0, false)) (show (Lit.int .i64 0).wf = true by decide) (show (Lit.int .i64 0).wf = true by decide) h rd_res0
theorem field67 (a0 a1 a2 a3 a4 a5 a6 a7 a8 a9 a10 a11 a12 a13 a14 a15 a16 a17 a18 a19 a20 a21 : Value) (w : World) : (Instr.field 67 (.agg #[a0, a1, a2, a3, a4, a5, a6, a7, a8, a9, a10, a11, a12, a13, a14, a15, a16, a17, a18, a19, a20, a21]) 2).run Try.prog w = .ok (.agg #[a2, a3, a4, a5]) w := by kernel_rfl
theorem box_store {w5 : World} {rcs : List Value} (hl : rcs.length = 15) (h1 : ∀ u ∈ rcs, u.oneCell' = true) :
    ∃ w7, Sem.run Try.prog (storeCells ⟨w5.heap.size, 0, none⟩ rcs) (w5.alloc (.cells #[.int .i64 0, .int .u64 0, .slice none 0 0, .slice none 0 0, .int .i64 0, .int .i64 0, .int .u64 0, .int .i64 0, .int .u64 0, .int .i64 0, .int .i64 0, .int .u64 0, .int .i64 0, .int .u64 0, .bool false] 52)) = .ok () w7 ∧ w7.heap[w5.heap.size]? = some (.cells rcs.toArray 52 (0, 0)) ∧ Fr Non w5 w7 := by
  have hst := run_storeCells_at (P := Try.prog) w5.heap.size 0 52 rcs 0 #[.int .i64 0, .int .u64 0, .slice none 0 0, .slice none 0 0, .int .i64 0, .int .i64 0, .int .u64 0, .int .i64 0, .int .u64 0, .int .i64 0, .int .i64 0, .int .u64 0, .int .i64 0, .int .u64 0, .bool false] (w5.alloc (.cells #[.int .i64 0, .int .u64 0, .slice none 0 0, .slice none 0 0, .int .i64 0, .int .i64 0, .int .u64 0, .int .i64 0, .int .u64 0, .int .i64 0, .int .i64 0, .int .u64 0, .int .i64 0, .int .u64 0, .bool false] 52)) (alloc_at w5 _) (by simp [hl]) h1
  refine ⟨_, hst, ?_, ?_⟩
  · rw [setRow_heap _ w5.heap.size _ _ 52 _ (alloc_at w5 _)]
    simp [hl]
  · refine ((Fr.refl Non w5).alloc (.cells #[.int .i64 0, .int .u64 0, .slice none 0 0, .slice none 0 0, .int .i64 0, .int .i64 0, .int .u64 0, .int .i64 0, .int .u64 0, .int .i64 0, .int .i64 0, .int .u64 0, .int .i64 0, .int .u64 0, .bool false] 52)).trans2 (U := fun b => b = w5.heap.size) ?_ (fun b hb e => by omega)
    exact ⟨rfl, rfl, rfl, by simp, fun k _ hn => setRow_other _ _ k _ hn⟩
set_option maxRecDepth 100000 in
set_option maxHeartbeats 4000000 in
theorem sameInts_at {w : World} {u v : Value} {l : List Int} (hu : GRow w 3 1 u l.length (ints l)) (hv : GRow w 3 1 v l.length (ints l)) (hn : l.length ≤ 200000) :
    Calls Try.prog 49 #[u, v] w fun e w' => e = .returned (.bool true) ∧ Fr Non w w' := by
  obtain ⟨a, n, rfl⟩ := hu.form
  obtain ⟨b, m, rfl⟩ := hv.form
  have HU := Lib.hid hu
  have HV := Lib.hid hv
  clear hu hv
  go_enter Try.func49, Try.ntmps49
  go_wp2_with fail
  go_loopw [5] (fun i wr => ∃ (j : Nat), j ≤ l.length ∧ i = .int .i64 j ∧ Hid (Fr Non w wr)) (fun i _ => l.length - (intOf i).toNat)
  case atStart => exact ⟨0, by omega, rfl, Fr.refl _ _⟩
  case round =>
    obtain ⟨j, hj, rfl, HI⟩ := hrel
    have j0 : (0 : Int) ≤ (j : Int) := by omega
    by_cases hlt : j < l.length
    · have j1 : (j : Int) < (l.length : Int) := by omega
      rcases id HU.out.2 with ⟨_, h0⟩ | ⟨g1, c1, cur1, e1, _⟩
      · omega
      rcases id HV.out.2 with ⟨_, h0⟩ | ⟨g2, c2, cur2, e2, _⟩
      · omega
      cases e1
      cases e2
      have cu : Hid (∀ y, Fr Non wr y → y.cell? ⟨g1, j, none⟩ = some (.int .i64 l[j])) := Lib.hid (fun y f => (HI.out.trans f).cell (HU.out.cells (g := g1) rfl j _ (by simp [ints, hlt])) id)
      have cv : Hid (∀ y, Fr Non wr y → y.cell? ⟨g2, j, none⟩ = some (.int .i64 l[j])) := Lib.hid (fun y f => (HI.out.trans f).cell (HV.out.cells (g := g2) rfl j _ (by simp [ints, hlt])) id)
      obtain ⟨x, hx⟩ : ∃ x, l[j] = x := ⟨_, rfl⟩
      rw [hx] at cu cv
      clear hx
      have fd : Fr Non wr wr.drew := (Fr.refl _ _).drew
      go_wp2_with fail
      refine wp_draw [((fun y => Fr Non wr y), [(.free, 0), (.free, 1), (.free, 2), (.held, 3), (.free, 4), (.free, 5), (.free, 6), (.held, 7), (.free, 8)])] 9 (by kernel_rfl) (by kernel_rfl) (fun _ _ _ _ _ h => h) ⟨fd, ?_⟩
      generalize wr.drew = wd at fd ⊢
      repeat (first
        | (refine' wpPlan_free (v := _) rfl (by rfl) ?_ ?_
           rotate_left
           · (intro w'; skip; go_simp; try rfl)
           simp only [List.getElem_toArray, List.getElem_cons_zero, List.getElem_cons_succ, Act.put, List.setIfInBounds_toArray, List.set_cons_zero, List.set_cons_succ])
        | (refine' wpPlan_held (v := _) rfl (by rfl) ?_ ?_
           rotate_left
           · (intro w' hS; skip; (have q1 := cu.out w' hS; have q2 := cv.out w' hS; clear hS); go_simp; try rfl)
           simp only [List.getElem_toArray, List.getElem_cons_zero, List.getElem_cons_succ, Act.put, List.setIfInBounds_toArray, List.set_cons_zero, List.set_cons_succ])
        | (refine' wpPlan_skip rfl (by rfl) ?_
           simp only [List.getElem_toArray, List.getElem_cons_zero, List.getElem_cons_succ, Act.put, List.setIfInBounds_toArray, List.set_cons_zero, List.set_cons_succ])
        | (refine' wpPlan_skipHeld rfl (by rfl) ?_
           simp only [List.getElem_toArray, List.getElem_cons_zero, List.getElem_cons_succ, Act.put, List.setIfInBounds_toArray, List.set_cons_zero, List.set_cons_succ]))
      refine wpPlan_end ?_
      simp only [wpSegs, List.drop_succ_cons, List.drop_zero]
      go_wp2_with fail
      go_roundw
      case rel => exact ⟨j + 1, by omega, by go_num, HI.out.trans fd⟩
      case measure => simp [intOf]; omega
    · obtain rfl : j = l.length := by omega
      go_wp2_with fail
      go_ret
      exact ⟨by trivial, HI.out⟩

def TrueEnd (w : World) (e : Ending) (w' : World) : Prop := e = .returned (.bool true) ∧ Fr Non w w'

set_option maxRecDepth 100000 in
set_option maxHeartbeats 4000000 in
theorem htrue_law {w : World} {u : Value} {L : List MCall} (h : Sl kCall All w u L) (sp : Int) : Calls Try.prog 9 #[u, .int .i64 sp] w (TrueEnd w) := by
  obtain ⟨a, n, rfl, _, hcap, _⟩ := h.frm
  unfold maxLen at hcap
  have HL := Lib.hid h.there
  clear h
  go_enter Try.func9, Try.ntmps9
  go_wp2_with fail
  refine (AtW.new w).mono ?_
  rintro e w1 ⟨hb, rfl, h1⟩
  have H1 := Lib.hid h1
  clear h1
  go_upto_block 0 with (fail)
  go_cut [6] (fun _ wx => Hid (∃ m s j, TrueSt m s j ∧ j ≤ 30 ∧ AtW w wx hb s))
  case first =>
    go_wp2_with fail
    go_loopw [6, 7] (fun v i wr => ∃ (j : Nat), j ≤ L.length ∧ i = .int .i64 j ∧ Hid (TrueAt w wr hb v j)) (fun _ i _ => L.length - (intOf i).toNat)
    case atStart => exact ⟨0, by omega, rfl, [], (0, []), TrueSt.nil, by simp, by omega, AtM.new H1.out⟩
    case round =>
      obtain ⟨j, hj, rfl, HI⟩ := hrel
      have j0 : (0 : Int) ≤ (j : Int) := by omega
      obtain ⟨m, s, hst, hml, hj30, hat⟩ := HI.out
      have ST := Lib.hid hst
      have HM := Lib.hid hat
      have HML := Lib.hid hml
      by_cases hlt : j < L.length ∧ j < 30
      · obtain ⟨hl1, hl2⟩ := hlt
        obtain ⟨B, O, ocs, rfl, hr, ld⟩ := call_rd (HL.out.stay hat.frame) j hl1
        have j1 : (j : Int) < (L.length : Int) := by omega
        have j2 : (j : Int) < 30 := by omega
        obtain ⟨vv, rfl, hv, _, _, _, _⟩ := call_cells hr
        obtain ⟨ya, yc, rfl, _⟩ := hv.frm
        have HC := Lib.hid (cut_any (op_built hr))
        have LD := Lib.hid ld
        clear hst hat hml hr ld hv
        rw [cut_call] at HC
        obtain ⟨X, hX⟩ : ∃ X, cCut L[j] = X := ⟨_, rfl⟩
        obtain ⟨Y, hY⟩ : ∃ Y, L[j] = Y := ⟨_, rfl⟩
        rw [hX] at HC
        rw [hY] at HC LD
        clear hX hY
        go_wp2_with (refine wpList_load_v rfl 39 _ rfl (.pointer (some ⟨B, O + j * 4, none⟩)) rfl _ LD.out ?_)
        refine HC.out.mono ?_
        rintro e w3 ⟨cs, rfl, hr3, f3⟩
        clear HC LD
        obtain ⟨cc, rc, rfl, h5, h6, _, _, _, _⟩ := op_cells hr3
        obtain ⟨vv, rfl, hvv, hvl, hkey, hhigh, hkind⟩ := call_cells h5
        obtain ⟨va, vc, rfl, _⟩ := hvv.frm
        obtain ⟨u1, u2, rfl, _⟩ := res_cells h6
        have HV := Lib.hid hvv
        have HKEY := Lib.hid hkey
        have HHIGH := Lib.hid hhigh
        have HKIND := Lib.hid hkind
        have HVL := Lib.hid hvl
        have F3 := Lib.hid f3
        clear hr3 h5 h6 hvv hkey hhigh hkind hvl f3
        simp only [resCells, refCells, mErr, r0, List.cons_append, List.nil_append]
        have hfd := field67
        go_wp2_with (refine wpList_store_block rfl 39 _ _ rfl w3.heap.size 0 rfl (.agg #[.int .i64 X.1, .int .u64 X.2.1, .int .u64 X.2.2.1, .slice va X.2.2.2.length vc]) rfl _ 39 (alloc_at w3 _) ?hfit ?hinf ?hone ?_)
        clear hfd
        case hinf => simpa using size39
        case hone => exact ⟨rfl, rfl, rfl, rfl⟩
        intro w4 hbx f4
        replace hbx : w4.heap[w3.heap.size]? = some (.cells #[.int .i64 X.1, .int .u64 X.2.1, .int .u64 X.2.2.1, .slice va X.2.2.2.length vc] 39 (0, 0)) := by simpa [putAt, Value.cells] using hbx
        have f34 : Fr Non w3 w4 := ((Fr.refl Non w3).alloc _).trans2 f4 (fun b hb e => by omega)
        obtain ⟨D, hD⟩ : ∃ D, w3.heap.size = D := ⟨_, rfl⟩
        rw [hD] at hbx ⊢
        have HBX := Lib.hid hbx
        have HDO := Lib.hid (HM.out.doAt (F3.out.trans f34) (by have := HML.out; omega) (k := X.1) (key := X.2.1) (high := X.2.2.1) ((HV.out.mono fun b _ h => h.1).stay f34) HKEY.out)
        have HCR := Lib.hid (cells_call (x := X) ((HV.out.mono fun b _ h => h.1).stay f34) HVL.out HKEY.out HHIGH.out HKIND.out)
        have F34 := Lib.hid (F3.out.trans f34)
        obtain ⟨x0, _⟩ := box_facts hbx
        have d0 : w4.cell? ⟨D, 0, none⟩ = some (.int .i64 X.1) := by rw [x0]; rfl
        have d1 : w4.cell? ⟨D, 1, none⟩ = some (.int .u64 X.2.1) := by rw [x0]; rfl
        have d2 : w4.cell? ⟨D, 2, none⟩ = some (.int .u64 X.2.2.1) := by rw [x0]; rfl
        have d3 : w4.cell? ⟨D, 3, none⟩ = some (.slice va X.2.2.2.length vc) := by rw [x0]; rfl
        clear x0 hbx f4 f34 hD F3 HV
        go_wp2_with fail
        refine HDO.out.mono ?_
        rintro e w5 ⟨x, rcs, rfl, hd5, hm5, f5⟩
        obtain ⟨N, hN⟩ : ∃ N, mDo m (X.1, X.2.1, X.2.2.1, X.2.2.2) = N := ⟨_, rfl⟩
        rw [hN] at hd5 ⊢
        have HN := Lib.hid hN
        have hrl : rcs.length = 15 := by obtain ⟨_, _, _, _, _, h5⟩ := hd5; exact kRes.len h5
        have hro : ∀ u ∈ rcs, u.oneCell' = true := by obtain ⟨_, _, _, _, _, h5⟩ := hd5; exact kRes.one h5
        obtain ⟨w7, hst, g7, f7⟩ := box_store (w5 := w5) hrl hro
        have HR7 := Lib.hid (hd5.box f7 g7 (Nat.le_refl _))
        have HM7 := Lib.hid (hm5.fr f7)
        have b7 := (f5.trans f7).heap HBX.out id
        obtain ⟨x7, _⟩ := box_facts b7
        have e0 : w7.cell? ⟨D, 0, none⟩ = some (.int .i64 X.1) := by rw [x7]; rfl
        have e1 : w7.cell? ⟨D, 1, none⟩ = some (.int .u64 X.2.1) := by rw [x7]; rfl
        have e2 : w7.cell? ⟨D, 2, none⟩ = some (.int .u64 X.2.2.1) := by rw [x7]; rfl
        have e3 : w7.cell? ⟨D, 3, none⟩ = some (.slice va X.2.2.2.length vc) := by rw [x7]; rfl
        have HC7 := Lib.hid (kCall.stay HCR.out (f5.trans f7))
        clear hd5 hm5 hN hro HDO x7 b7 g7 d0 d1 d2 d3 HCR
        by_cases hz : N.2.2 = 0
        · obtain ⟨hc, n1, n2⟩ := do_ok (l := m) (c := (X.1, X.2.1, X.2.2.1, X.2.2.2)) (by rw [HN.out]; exact hz)
          have hst2 := ST.out.step hl2 (j : Int) hc
          rw [HN.out] at n1 n2
          rw [← n2, ← n1] at hst2
          have OK1 := Lib.hid (ST.out.ok.call (j : Int) (X.1, X.2.1, X.2.2.1, X.2.2.2))
          have S1 := Lib.hid hst2.1
          have S2 := Lib.hid hst2.2.1
          have S3 := Lib.hid hst2.2.2
          have HNL := Lib.hid (show N.1.length ≤ j + 1 by rw [n1]; have := mDone_len m (X.1, X.2.1, X.2.2.1, X.2.2.2); have := HML.out; omega)
          have HCA := Lib.hid (HR7.out.call ST.out.ok (j : Int) (wf_i64.2 (by omega)) (X.1, X.2.1, X.2.2.1, X.2.2.2) va vc HC7.out)
          rw [S1.out] at HCA
          clear hst2 n1 n2 hc f7 f5
          rw [hz]
          clear hz
          go_wp2_with fail
          refine HCA.out.mono ?_
          rintro e w8 ⟨rfl, r8⟩
          have HRE := Lib.hid (r8.reply OK1.out (j : Int) (wf_i64.2 (by omega)))
          rw [S2.out] at HRE
          have LD8 := Lib.hid r8.load
          clear r8 HCA e0 e1 e2 e3 HR7
          go_wp2_with (refine wpList_load_w 52 (.pointer (some ⟨w5.heap.size, 0, none⟩)) _ LD8.out _ rfl rfl (by rfl) ?_)
          refine HRE.out.mono ?_
          rintro e w9 ⟨rfl, m9⟩
          have HI9 : Hid (TrueAt w w9 hb x (j + 1)) := Lib.hid ⟨_, _, S3.out, HNL.out, by omega, m9⟩
          clear m9 HRE LD8
          go_wp2_with fail
          go_roundw
          case rel => exact ⟨j + 1, by omega, by go_num, HI9⟩
          case measure => simp [intOf]; omega
        · have hz2 : (N.2.2 == 0) = false := by simpa using hz
          have HI7 : Hid (TrueAt w w7 hb u6 (j + 1)) := Lib.hid (TrueAt.same ST.out HML.out hl2 HM7.out)
          clear f7 f5
          go_wp2_with fail
          go_roundw
          case rel => exact ⟨j + 1, by omega, by go_num, HI7⟩
          case measure => simp [intOf]; omega
      · have HE : Hid (∃ m s j, TrueSt m s j ∧ j ≤ 30 ∧ AtW w wr hb s) := Lib.hid ⟨m, s, j, hst, hj30, hat.hist⟩
        clear hst hat hml ST HM HML HI
        by_cases h1 : j < L.length
        · have n1 : (j : Int) < (L.length : Int) := by omega
          have n2 : decide ((j : Int) < 30) = false := by simp; omega
          clear hlt
          go_wp2_with fail
          go_meet
          exact HE
        · obtain rfl : j = L.length := by omega
          clear hlt
          go_wp2_with fail
          go_meet
          exact HE
  case rest =>
  clear H1
  obtain ⟨m, s, j, hst, hj30, hB⟩ := hcut.out
  have FW := Lib.hid hB.frame
  have HALL := Lib.hid (hB.all hst.ok)
  have hlen : (hAll s.2).length ≤ 30 := by have := hst.few; simp [hAll]; omega
  have HTR := Lib.hid hst.trace
  clear hcut hB hst
  obtain ⟨l, hl⟩ : ∃ l, hAll s.2 = l := ⟨_, rfl⟩
  rw [hl] at HALL hlen HTR
  clear hl
  go_wp2_with fail
  refine HALL.out.mono ?_
  rintro e w6 ⟨v6, rfl, hv6, f6, _⟩
  have HRA := Lib.hid (ranges_any hv6.sl (by omega) (fun x hx => by have := HTR.out.items x hx; omega))
  rw [trace_ranges HTR.out] at HRA
  have HV := Lib.hid hv6
  have F6 := Lib.hid (FW.out.trans f6)
  clear hv6 f6 HALL FW
  go_wp2_with fail
  refine HRA.out.mono ?_
  rintro e w7 ⟨v7, rfl, g7, f7, _⟩
  obtain ⟨ra, rn, rfl⟩ := g7.form
  have HV7 := Lib.hid (HV.out.fr f7)
  have F7 := Lib.hid (F6.out.trans f7)
  clear g7 f7 HRA HV F6
  obtain ⟨va, vn, rfl⟩ := HV7.out.form
  go_wp2_with fail
  go_loopw [13] (fun i wr => ∃ (j : Nat), j ≤ l.length ∧ i = .int .i64 j ∧ Hid (Fr Non w7 wr)) (fun i _ => l.length - (intOf i).toNat)
  case atStart => exact ⟨0, by omega, rfl, Fr.refl _ _⟩
  case round =>
    obtain ⟨j, hj, rfl, HI⟩ := hrel
    have j0 : (0 : Int) ≤ (j : Int) := by omega
    by_cases hlt : j < l.length
    · have j1 : (j : Int) < (l.length : Int) := by omega
      have hbl := HV7.out.fr HI.out
      obtain ⟨B, O, _, _, _, _, a2, n2, rfl, hc, _, _, hsi⟩ := hap_at hbl.sl j hlt
      have q7 : wr.cell? ⟨B, O + j * 23 + 7, none⟩ = some (.slice a2 l[j].2.1.2.2.2.1.length n2) := hc 7 _ rfl
      have HB := Lib.hid hbl
      have HS := Lib.hid hsi
      have HLJ := Lib.hid (HTR.out.items l[j] (List.getElem_mem hlt))
      obtain ⟨is, his⟩ : ∃ is, l[j].2.1.2.2.2.1 = is := ⟨_, rfl⟩
      rw [his] at q7 HS HLJ
      have HIS := Lib.hid his
      clear hc hsi his hbl
      by_cases hz : is.length = 0
      · have zz : ((is.length : Int) == 0) = true := by simp [hz]
        clear hz
        go_wp2_with fail
        go_roundw
        case rel => exact ⟨j + 1, by omega, by go_num, HI⟩
        case measure => simp [intOf]; omega
      have zz : ((is.length : Int) == 0) = false := by simp; intro e; exact hz (by simp [e])
      by_cases hneg : sp < 0
      · go_wp2_with fail
        go_roundw
        case rel => exact ⟨j + 1, by omega, by go_num, HI⟩
        case measure => simp [intOf]; omega
      go_wp2_with fail
      obtain ⟨k, hk0⟩ : ∃ k : Nat, sp % (is.length : Int) = (k : Int) := ⟨(sp % (is.length : Int)).toNat, by have := Int.emod_nonneg sp (b := (is.length : Int)) (by omega); omega⟩
      have hkl : k < is.length := by have := Int.emod_lt_of_pos sp (b := (is.length : Int)) (by omega); omega
      rw [hk0]
      clear hk0 zz hneg
      obtain ⟨B2, O2, _, rfl, _, hn2, hm2, _⟩ := HS.out.at 0 (by omega)
      obtain ⟨cs, hrow, hcl, hcell⟩ := items_row HS.out
      have hsrc := (items_src (c := n2) hrow hcell hkl rfl).resolve_right (by omega)
      have SRC := Lib.hid hsrc
      have ROW := Lib.hid hrow
      have HCL := Lib.hid hcl
      unfold maxLen at hm2
      have i1 : (k : Int) ≤ (n2 : Int) := by omega
      have i2 : (k : Int) + 1 ≤ (is.length : Int) := by omega
      have i3 : (is.length : Int) ≤ (n2 : Int) := by omega
      have i4 : (k : Int) ≤ 64 := by have := HLJ.out; omega
      have i5 : k ≤ n2 := by omega
      have i6 : k + 1 ≤ is.length := by omega
      have fd : Fr Non wr wr.drew := (Fr.refl _ _).drew
      have SRd : Hid (Src wr.drew 2 (.slice (some ⟨B2, O2, none⟩) k n2) k (cs.take (k * 2)) ∧ Src wr.drew 2 (.slice (if n2 = k + 1 then some ⟨B2, O2, none⟩ else some ⟨B2, O2 + (k + 1) * 2, none⟩) (is.length - (k + 1)) (n2 - (k + 1))) (is.length - (k + 1)) (cs.drop ((k + 1) * 2))) := Lib.hid ⟨hsrc.1.drew, hsrc.2.drew⟩
      clear hrow hcl hcell hsrc q7 hz
      refine wp_draw [((fun _ => True), [(.free, 0), (.free, 1), (.free, 2), (.free, 3), (.free, 5), (.free, 6), (.free, 7), (.free, 8), (.kept, 4), (.kept, 9), (.free, 10)])] 11 (by kernel_rfl) (by kernel_rfl) (fun _ _ _ _ _ h => h) ⟨trivial, ?_⟩
      generalize wr.drew = wd at fd SRd ⊢
      obtain ⟨p, hp⟩ : ∃ p, p = k + 1 := ⟨_, rfl⟩
      have W1 : IntKind.i64.wrap ((k : Int) + 1) = (p : Int) := by rw [IntWalk.i64_in _ (by omega)]; omega
      have i7 : (p : Int) ≤ (is.length : Int) := by omega
      have i8 : (0 : Int) ≤ (p : Int) := by omega
      rw [← hp] at SRd
      have HP := Lib.hid hp
      clear hp
      repeat (first
        | (refine' wpPlan_free (v := _) rfl (by rfl) ?_ ?_
           rotate_left
           · (intro w'; skip; go_simp; try rfl)
           simp only [List.getElem_toArray, List.getElem_cons_zero, List.getElem_cons_succ, Act.put, List.setIfInBounds_toArray, List.set_cons_zero, List.set_cons_succ])
        | (refine' wpPlan_held (v := _) rfl (by rfl) ?_ ?_
           rotate_left
           · (intro w' hS; skip; skip; go_simp; try rfl)
           simp only [List.getElem_toArray, List.getElem_cons_zero, List.getElem_cons_succ, Act.put, List.setIfInBounds_toArray, List.set_cons_zero, List.set_cons_succ])
        | (refine' wpPlan_skip rfl (by rfl) ?_
           simp only [List.getElem_toArray, List.getElem_cons_zero, List.getElem_cons_succ, Act.put, List.setIfInBounds_toArray, List.set_cons_zero, List.set_cons_succ])
        | (refine' wpPlan_skipHeld rfl (by rfl) ?_
           simp only [List.getElem_toArray, List.getElem_cons_zero, List.getElem_cons_succ, Act.put, List.setIfInBounds_toArray, List.set_cons_zero, List.set_cons_succ]))
      refine' wpPlan_kept rfl ?_
      intro K hK
      refine step_append_g rfl _ _ eI60 rfl (.slice none 0 0) 0 [] rfl (GRow.nil _ _ _) _ k (cs.take (k * 2)) rfl SRd.out.1 ?h63 ?hby ?_
      case h63 => unfold maxLen; omega
      case hby => omega
      intro v1 wa g1 fa o1 _
      have fa' : Fr Non wd wa := fa.mono (fun _ _ h => by cases h)
      have o1' : ∀ b, v1.ownBlock = some b → wd.heap.size ≤ b := fun b hb => by
        rcases o1 with o1 | ⟨o1, _⟩
        · rw [o1] at hb; cases hb
        · have := Option.some.inj (o1.symm.trans hb); omega
      have G1 := Lib.hid g1
      have FA := Lib.hid fa'
      have O1 := Lib.hid o1'
      clear g1 fa fa' o1 o1'
      refine hK _ _ ⟨trivial, ?_⟩
      clear hK K
      repeat (first
        | (refine' wpPlan_free (v := _) rfl (by rfl) ?_ ?_
           rotate_left
           · (intro w'; skip; go_simp; try rfl)
           simp only [List.getElem_toArray, List.getElem_cons_zero, List.getElem_cons_succ, Act.put, List.setIfInBounds_toArray, List.set_cons_zero, List.set_cons_succ])
        | (refine' wpPlan_held (v := _) rfl (by rfl) ?_ ?_
           rotate_left
           · (intro w' hS; skip; skip; go_simp; try rfl)
           simp only [List.getElem_toArray, List.getElem_cons_zero, List.getElem_cons_succ, Act.put, List.setIfInBounds_toArray, List.set_cons_zero, List.set_cons_succ])
        | (refine' wpPlan_skip rfl (by rfl) ?_
           simp only [List.getElem_toArray, List.getElem_cons_zero, List.getElem_cons_succ, Act.put, List.setIfInBounds_toArray, List.set_cons_zero, List.set_cons_succ])
        | (refine' wpPlan_skipHeld rfl (by rfl) ?_
           simp only [List.getElem_toArray, List.getElem_cons_zero, List.getElem_cons_succ, Act.put, List.setIfInBounds_toArray, List.set_cons_zero, List.set_cons_succ]))
      refine' wpPlan_kept rfl ?_
      intro K hK
      refine step_append_g rfl _ _ eI60 rfl v1 (0 + k) ([] ++ cs.take (k * 2)) rfl G1.out _ (is.length - p) (cs.drop (p * 2)) rfl (SRd.out.2.keep fun ad c _ hl => FA.out.block ad.block hl id) ?h63 ?hby ?_
      case h63 => unfold maxLen; have := HP.out; have := HLJ.out; omega
      case hby => have := HP.out; have := HLJ.out; omega
      intro v2 we g2 fe o2 _
      have o2' : ∀ b, v2.ownBlock = some b → wd.heap.size ≤ b := fun b hb => by
        rcases o2 with o2 | ⟨o2, _⟩
        · rw [o2] at hb; exact O1.out b hb
        · have := Option.some.inj (o2.symm.trans hb); have := FA.out.size; omega
      have fe' : Fr Non wd we := FA.out.trans2 fe (fun b hb e => by have := O1.out b e; omega)
      have G2 := Lib.hid g2
      have FE := Lib.hid (fd.trans fe')
      have O2' := Lib.hid (fun b (hb : v2.ownBlock = some b) => Nat.le_trans fd.size (o2' b hb))
      clear g2 fe fe' o2 o2' G1 FA O1
      refine hK _ _ ⟨trivial, ?_⟩
      clear hK K
      repeat (first
        | (refine' wpPlan_free (v := _) rfl (by rfl) ?_ ?_
           rotate_left
           · (intro w'; skip; go_simp; try rfl)
           simp only [List.getElem_toArray, List.getElem_cons_zero, List.getElem_cons_succ, Act.put, List.setIfInBounds_toArray, List.set_cons_zero, List.set_cons_succ])
        | (refine' wpPlan_held (v := _) rfl (by rfl) ?_ ?_
           rotate_left
           · (intro w' hS; skip; skip; go_simp; try rfl)
           simp only [List.getElem_toArray, List.getElem_cons_zero, List.getElem_cons_succ, Act.put, List.setIfInBounds_toArray, List.set_cons_zero, List.set_cons_succ])
        | (refine' wpPlan_skip rfl (by rfl) ?_
           simp only [List.getElem_toArray, List.getElem_cons_zero, List.getElem_cons_succ, Act.put, List.setIfInBounds_toArray, List.set_cons_zero, List.set_cons_succ])
        | (refine' wpPlan_skipHeld rfl (by rfl) ?_
           simp only [List.getElem_toArray, List.getElem_cons_zero, List.getElem_cons_succ, Act.put, List.setIfInBounds_toArray, List.set_cons_zero, List.set_cons_succ]))
      refine wpPlan_end ?_
      simp only [wpSegs, List.drop_succ_cons, List.drop_zero]
      generalize hAd : (if n2 = p then (some ⟨B2, O2, none⟩ : Option Addr) else some ⟨B2, O2 + p * 2, none⟩) = ad
      clear hAd
      have hle : (is.eraseIdx k).length = 0 + k + (is.length - p) := by have := HP.out; rw [List.length_eraseIdx]; split <;> omega
      have hbi : Build kItem 60 we v2 (is.eraseIdx k) := by
        refine ⟨[] ++ cs.take (k * 2) ++ cs.drop (p * 2), by rw [hle]; exact G2.out, ?_⟩
        rw [List.nil_append, HP.out]
        refine (row_erase ((ROW.out).fr (S' := fun b => b < wr.heap.size) (fun _ _ _ => rfl) (fun b hb _ => hb)) k).fr ?_ ?_
        · exact fun b hb _ => FE.out.block b hb id
        · exact fun b hb _ e => by have := O2'.out b e; omega
      have HBI := Lib.hid hbi
      have FWE := Lib.hid (HI.out.trans FE.out)
      obtain ⟨da, dn, rfl⟩ := hbi.form
      obtain ⟨cl, gl, rl⟩ := HB.out.fr FE.out
      have GL := Lib.hid gl
      have RL := Lib.hid rl
      have SL := Lib.hid (gl.src (fun u hu => Row.one rl u hu))
      clear gl rl hbi G2 SRd SRC ROW HCL HB HI HS W1 i1 i2 i3 i4 i5 i6 i7 i8 hn2 hm2 hle O2' FE
      go_wp2_with (at_builtin; refine wpList_append_f rfl _ _ eI76 rfl ⟨we.heap.size, 0, none⟩ 0 0 [] rfl (by simp) (by simp) _ l.length cl rfl (SL.out.alloc _) ?k1 (Nat.le_refl _) ?k2 ?k3 ?_)
      case k1 => omega
      case k2 => unfold maxLen; omega
      case k3 => omega
      intro v3 w10 g3 f3 o3 _
      have f310 : Fr Non we w10 := ((Fr.refl _ _).alloc _).trans f3
      have hgn : ∀ b, v3.ownBlock = some b → we.heap.size ≤ b := fun b hb => by have := Option.some.inj (o3.symm.trans hb); (try simp at this); omega
      (try simp only [Nat.zero_add, List.nil_append] at g3)
      obtain ⟨c1, E, c2, ecl, hA, hE⟩ := RL.out.at j hlt
      have hEl : E.length = 23 := kHap.len hE
      rw [show kHap.sz = 23 from rfl] at hA
      rw [List.append_assoc] at ecl
      have rl2 : Row kHap All we (c1 ++ (E ++ c2)) l := by rw [← ecl]; exact RL.out.fr (fun _ _ _ => rfl) (fun _ _ _ => trivial)
      rcases id g3.2 with ⟨_, h0⟩ | ⟨g, cap, cur, rfl, hg, q1, q2, q3, q4⟩
      · omega
      obtain ⟨rest, hrest⟩ : ∃ rest, cur.toList = cl ++ rest := ⟨_, by rw [← q4]; exact (List.take_append_drop _ _).symm⟩
      have hcur : cur = (c1 ++ (E ++ (c2 ++ rest))).toArray := by rw [← Array.toArray_toList (xs := cur), hrest, ecl]; simp
      have HG := Lib.hid (show w10.heap[g]? = some (.cells (c1 ++ (E ++ (c2 ++ rest))).toArray 76 (0, 0)) by rw [← hcur]; exact hg)
      have HGN := Lib.hid (hgn g rfl)
      have RL2 := Lib.hid rl2
      have HA := Lib.hid hA
      have HEL := Lib.hid hEl
      have HCAP := Lib.hid q1
      have HMAX := Lib.hid q2
      have F310 := Lib.hid f310
      have HFI := Lib.hid (show 7 + [Value.slice da (is.eraseIdx k).length dn].length ≤ E.length by rw [hEl]; simp)
      have q2' := q2
      unfold maxLen at q2'
      clear g3 hg f3 o3 f310 hgn ecl hA hE hEl rl2 q2 q3 q4 hrest hcur GL RL SL
      go_wp2_with (refine wpList_store_mid rfl 22 _ _ rfl g (j * 23) 7 rfl (.slice da (is.eraseIdx k).length dn) rfl c1 E (c2 ++ rest) 76 HG.out HA.out [.slice da (is.eraseIdx k).length dn] rfl HFI.out size22 (by intro u hu; rw [List.mem_singleton] at hu; subst hu; rfl) _ rfl ?_)
      intro w11 hg11 f11
      have hlen64 : (is.eraseIdx k).length ≤ 64 := by have := HLJ.out; rw [List.length_eraseIdx]; split <;> omega
      have htold := told_sl hlt RL2.out HA.out HEL.out HBI.out.sl (by have : (64 : Nat) * 32 ≤ reachBytes := by decide
                                                                      omega) F310.out f11 HGN.out hg11 HCAP.out HMAX.out
      have hrr := ranges_any htold (by simp; omega) (fun x hx => by
        rcases List.mem_or_eq_of_mem_set hx with h | h
        · have := HTR.out.items x h; omega
        · rw [h]; show (is.eraseIdx k).length ≤ _; omega)
      have hsp := trace_spoil HTR.out hlt (k := k) (by rw [HIS.out]; exact hkl)
      rw [HIS.out] at hsp
      rw [hsp] at hrr
      have HRR := Lib.hid hrr
      have F11 := Lib.hid (show Fr Non w7 w11 from (FWE.out.trans F310.out).trans2 f11 (fun b hb e => by have := HGN.out; have := FWE.out.size; omega))
      clear hg11 f11 hlen64 htold hrr hsp F310 HG HGN RL2 HA HEL HFI HBI FWE HCAP
      go_wp2_with fail
      refine HRR.out.mono ?_
      rintro e w12 ⟨v12, rfl, g12, f12, _⟩
      obtain ⟨ba, bn, rfl⟩ := g12.form
      have HSM := Lib.hid (sameInts_at (l := [(j : Int)]) (g12.keep fun b hb => Below.heap_alloc _ _ _ (g12.lt b hb)) (one_int w12 (j : Int)) (by simp))
      have F12 := Lib.hid (F11.out.trans f12)
      clear g12 f12 HRR F11
      go_wp2_with fail
      refine HSM.out.mono ?_
      rintro e w13 ⟨rfl, f13⟩
      have F13 : Hid (Fr Non w7 w13) := Lib.hid ((F12.out.trans ((Fr.refl _ _).alloc _)).trans f13)
      clear f13 HSM F12
      go_wp2_with fail
      go_roundw
      case rel => exact ⟨j + 1, by omega, by go_num, F13⟩
      case measure => simp [intOf]; omega
    · obtain rfl : j = l.length := by omega
      go_wp2_with fail
      refine (alive_any wr).mono ?_
      rintro e w8 ⟨rfl, f8⟩
      go_wp2_with fail
      go_ret
      exact ⟨by trivial, (F7.out.trans HI.out).trans f8⟩
theorem htrue_any {w : World} {u : Value} {L : List MCall} (h : Sl kCall All w u L) (sp : Int) : Calls Try.prog 9 #[u, .int .i64 sp] w fun e w' => e = .returned (.bool true) ∧ Fr Non w w' :=
  (htrue_law h sp).mono fun _ _ h => h
end Go.Proofs.Ytplhcfaonhkegaa

namespace Go.Proofs.Ytplhcfaonhkegaa
open Go.ChangeShapes Go.WideShapes Go.ChangeAt Go.RowKit

set_option maxRecDepth 100000 in
theorem histTrue_lifted (os : Os) (started : os.Started) (H : Type) (enc : TypeId × Value → H) :
    ReturnsInHanded {} Try.checked os 9 .any (Rows.histTrueSpec.pre6 enc Try.prog Try.f9 Rows.histTrueRow.domain false) (Rows.histTrueSpec.post enc Try.prog Try.f9 false true false false) := by
  refine returnsInHanded_of_change_sized (C := Try.checked) Try.own started (by kernel_rfl) Try.func9
    (ChangeSpec.witness6 (enc := enc) (C := Try.checked) false ⟨#[], #[.slice none 0 0, .int .i64 0], []⟩ 8 (by kernel_rfl) (by kernel_rfl) (by kernel_rfl) (by kernel_rfl)) ?_
  intro W base args ds gs before hval0 hW hcnd hsz0 _
  have hval : ∀ (j : Nat) t v, Try.f9.params[j]? = some t → args[j]? = some v → Value.okWide Try.prog W .any base t v := hval0
  have hW' := hW
  obtain ⟨p, q, hA0, hV, rfl, hfz, hnd⟩ := hW
  have hA : DataW.TrodAll enc Try.prog W 0 (fun _ => true) true Try.f9.params.toList args.toList ds p := hA0
  rw [Try.params9] at hA hval
  obtain ⟨v0, v1, d0, d1, p0, p1, rfl, rfl, rfl, h0, h1⟩ := trodAll_two hA
  obtain ⟨rfl, rfl⟩ := trodVars_none hV
  have hlt := hW'.lt
  obtain ⟨x0, hx0, hB0⟩ := slice_arg Try.underlying23 (hval 0 23 v0 rfl rfl) from23 h0 (Fit.of hsz0 (i := 0) rfl rfl)
  have h1' := h1
  obtain ⟨x1, rfl, rfl, rfl, wa1⟩ := open_int Try.underlying3 (hval 1 3 v1 rfl rfl) h1
  clear hA0 hval0
  refine (htrue_any hx0 x1).mono fun e W' ⟨he, hf⟩ => ?_
  subst he
  have hb : Below W.heap.size W W' := hf.below (Nat.le_refl _) (fun _ h => h.elim)
  exact ⟨_, rfl, _, _, _, [], _, [], hW', trodAll_mk1 (shut_bool Try.underlying4 true), trodAll_mk2 (Below.trod Try.laidOut (by kernel_rfl) (of_decide_eq_true (by kernel_rfl)) h0 hb (fun x hx => hlt x (by simp [hx])))
    (Below.trod Try.laidOut (by kernel_rfl) (of_decide_eq_true (by kernel_rfl)) h1' hb (fun x hx => by cases hx)), rfl, hb.frame _, fun h => by cases h⟩

theorem histTrue_facts : joinedFacts Try.prog 9 Try.f9 Rows.histTrueSpec Rows.histTrueRow = true := by
  unfold joinedFacts
  rw [Try.mayEnterL, Try.liftsFinalL, Try.makeL]
  kernel_rfl
theorem histTrue_holds : Rows.HistTrueSaid :=
  OpenClaim.holds_of_wide 9 Try.f9 rfl rfl rfl rfl rfl rfl rfl ⟨rfl, rfl, rfl, rfl, rfl⟩ rfl rfl rfl rfl rfl (by kernel_rfl) Try.func9 histTrue_facts
    (of_decide_eq_true (by kernel_rfl)) (by unfold Func.isWrapper; rw [if_neg (of_decide_eq_false (by kernel_rfl))]; exact ⟨rfl, rfl⟩)
    (fun os started H enc _ => histTrue_lifted os started H enc)
end Go.Proofs.Ytplhcfaonhkegaa
