/-
  Order, walked.
  What the search finds, and what it does not find: the plain law.
  What is looked at: cut.
  Orders, said without bits; what of an order is left behind a moment: the plain law.
  The two small histories by which the laws are seen to be awake.
-/
import Derived.Test.YtplhcfaonhkegaaLB
import Derived.Test.YtplhcfaonhkegaaH11
import Derived.Test.YtplhcfaonhkegaaLA
namespace Go.Proofs.Ytplhcfaonhkegaa
open Go.RowKit Go.Maps

theorem lCheck_len {l : List MHap} (h : lCheck l = 0) : l.length ≤ 64 := by
  unfold lCheck at h
  split at h
  · cases h
  · omega
set_option maxRecDepth 100000 in
set_option maxHeartbeats 4000000 in
theorem order_any {w : World} {u : Value} {l : List MHap} (hl : Sl kHap All w u l) :
    Calls Try.prog 61 #[u] w fun e w' => ∃ v, e = .returned (.tuple #[v, .bool (lOrder l).2.1, .int .i64 (lOrder l).2.2]) ∧ Sl kI All w' v (lOrder l).1 ∧ Fr Non w w' := by
  obtain ⟨ua, uc, rfl, _⟩ := hl.frm
  have HC := Lib.hid (lcheck_any hl)
  have HL := Lib.hid hl
  clear hl
  obtain ⟨R, hR⟩ : ∃ R, lOrder l = R := ⟨_, rfl⟩
  have HR := Lib.hid (show R = if lCheck l = 0 then (match lLook l (l.length + 1) 0 [] [] ([], false) with
      | (s, r) => if s.2 then ([], false, 3) else (r.getD [], r.isSome, 0)) else ([], false, lCheck l) from hR.symm)
  rw [hR]
  clear hR
  have hmm := @run_makeMap Try.prog
  go_enter Try.func61, Try.ntmps61
  go_wp2_with fail
  refine HC.out.mono ?_
  rintro e w1 ⟨rfl, f1⟩
  have HL1 := Lib.hid (HL.out.stay f1)
  have F1 := Lib.hid f1
  clear f1 HC HL
  by_cases hc : lCheck l = 0
  rotate_left
  · have n0 : (lCheck l != 0) = true := by simpa using hc
    have HE := Lib.hid (show R = ([], false, lCheck l) by rw [HR.out, if_neg hc])
    obtain ⟨C, hC⟩ : ∃ C, lCheck l = C := ⟨_, rfl⟩
    rw [hC] at n0 HE ⊢
    clear hc hC HR
    go_wp2_with fail
    refine bodyPost_ret (v := .tuple #[.slice none 0 0, .bool false, .int .i64 C]) (by simp [results, Try.results61, go_sem]) rfl ⟨.slice none 0 0, by rw [HE.out], by rw [HE.out]; exact .inl ⟨rfl, rfl⟩, F1.out⟩
  have h64 := lCheck_len hc
  replace HR := Lib.hid (show R = (match lLook l (l.length + 1) 0 [] [] ([], false) with
      | (s, r) => if s.2 then ([], false, 3) else (r.getD [], r.isSome, 0)) by rw [HR.out, if_pos hc])
  rw [hc]
  clear hc
  have hw2 : Fr Non w1 ((w1.alloc (.map #[] 0)).alloc (.cells #[.slice ua l.length uc, .map (some w1.heap.size), .bool false] 138)) := ((Fr.refl _ _).alloc _).alloc _
  have HS := Lib.hid (show SearchAt ((w1.alloc (.map #[] 0)).alloc (.cells #[.slice ua l.length uc, .map (some w1.heap.size), .bool false] 138)) (w1.heap.size + 1) w1.heap.size (.slice ua l.length uc) ([], false) from
    ⟨alloc_at2' w1 _ _, (MapS.made w1).keep (Below.heap_alloc _ _ _ (by simp)), fun p hp => by cases hp⟩)
  have HLK := Lib.hid (look_any h64 (l.length + 1) _ _ _ _ (.slice none 0 0) (.slice none 0 0) [] [] 0 _ HS.out (HL1.out.stay hw2) (.inl ⟨rfl, rfl⟩) (.inl ⟨rfl, rfl⟩) (by simp; omega) (by simp; omega) (by decide) (by have := lUnset_le 0 l.length; omega) rfl)
  have F2 := Lib.hid (F1.out.trans hw2)
  have HSZ := Lib.hid F1.out.size
  clear hw2 HS F1 HL1
  go_wp2_with fail
  refine HLK.out.mono ?_
  rintro e w3 ⟨hr, f3⟩
  obtain ⟨⟨⟨s1, s2⟩, r⟩, hX⟩ : ∃ X, lLook l (l.length + 1) 0 [] [] ([], false) = X := ⟨_, rfl⟩
  rw [hX] at hr
  replace HR := Lib.hid (show R = if s2 then ([], false, 3) else (r.getD [], r.isSome, 0) by rw [HR.out, hX])
  have F3 := Lib.hid (F2.out.trans2 f3 (fun b hb he => by have := HSZ.out; rcases he with he | he <;> omega))
  obtain ⟨hs3, hr⟩ := hr
  obtain ⟨q1, _⟩ := box_facts hs3.1
  simp only at hr q1
  clear HLK hX F2 f3 hs3 hmm
  cases r with
  | none =>
    simp only at hr
    subst hr
    cases s2 with
    | true =>
      have HE := Lib.hid (show R = ([], false, 3) by rw [HR.out]; rfl)
      go_wp2_with fail
      refine bodyPost_ret (v := .tuple #[.slice none 0 0, .bool false, .int .i64 3]) (by simp [results, Try.results61, go_sem]) rfl ⟨.slice none 0 0, by rw [HE.out], by rw [HE.out]; exact .inl ⟨rfl, rfl⟩, F3.out⟩
    | false =>
      have HE := Lib.hid (show R = ([], false, 0) by rw [HR.out]; rfl)
      go_wp2_with fail
      refine bodyPost_ret (v := .tuple #[.slice none 0 0, .bool false, .int .i64 0]) (by simp [results, Try.results61, go_sem]) rfl ⟨.slice none 0 0, by rw [HE.out], by rw [HE.out]; exact .inl ⟨rfl, rfl⟩, F3.out⟩
  | some q =>
    obtain ⟨rv, rfl, hq⟩ := hr
    obtain ⟨qa, qc, rfl, _⟩ := hq.frm
    have HQ := Lib.hid hq
    clear hq
    cases s2 with
    | true =>
      have HE := Lib.hid (show R = ([], false, 3) by rw [HR.out]; rfl)
      go_wp2_with fail
      refine bodyPost_ret (v := .tuple #[.slice none 0 0, .bool false, .int .i64 3]) (by simp [results, Try.results61, go_sem]) rfl ⟨.slice none 0 0, by rw [HE.out], by rw [HE.out]; exact .inl ⟨rfl, rfl⟩, F3.out⟩
    | false =>
      have HE := Lib.hid (show R = (q, true, 0) by rw [HR.out]; rfl)
      go_wp2_with fail
      refine bodyPost_ret (v := .tuple #[.slice qa q.length qc, .bool true, .int .i64 0]) (by simp [results, Try.results61, go_sem]) rfl ⟨.slice qa q.length qc, by rw [HE.out], by rw [HE.out]; exact HQ.out, F3.out⟩
end Go.Proofs.Ytplhcfaonhkegaa

namespace Go.Proofs.Ytplhcfaonhkegaa
open Go.RowKit

def lRun (l : List MHap) : Nat → List MItem → List Int → Option (Nat × List MItem)
  | d, m, [] => some (d, m)
  | d, m, i :: o =>
    if 0 ≤ i ∧ i < (l.length : Int) then
      (match lStep l d m i.toNat with
        | none => none
        | some n => lRun l (d ||| 2 ^ i.toNat) n o)
    else none
def lFollows (l : List MHap) (o : List Int) : Bool :=
  decide (lCheck l = 0) && (match lRun l 0 [] o with | some x => lWhole l x.1 | none => false)

theorem loop_sound {l : List MHap} {again : Nat → List MItem → List Int → LSt → LSt × Option (List Int)} {d : Nat} {m : List MItem} {o : List Int}
    (ha : ∀ d m o s s' r, again d m o s = (s', some r) → ∃ p x, r = o ++ p ∧ lRun l d m p = some x ∧ lWhole l x.1 = true) :
    ∀ (k i : Nat) (s s' : LSt) (r : List Int), lLoop l again d m o k i s = (s', some r) → ∃ p x, r = o ++ p ∧ lRun l d m p = some x ∧ lWhole l x.1 = true
  | 0, i, s, s', r, h => by rw [lLoop] at h; cases h
  | k + 1, i, s, s', r, h => by
    rw [lLoop] at h
    split at h
    · cases h
    · split at h
      · exact loop_sound ha k (i + 1) s s' r h
      · rename_i n hn
        split at h
        · rename_i s1 q hq
          cases h
          obtain ⟨p, x, e, hr, hw⟩ := ha _ _ _ _ _ _ hq
          obtain ⟨hi, _, _⟩ := lStep_some hn
          refine ⟨(i : Int) :: p, x, by rw [e]; simp, ?_, hw⟩
          rw [lRun, if_pos ⟨by omega, by omega⟩, Int.toNat_natCast, hn]
          exact hr
        · rename_i s1 hq
          exact loop_sound ha k (i + 1) s1 s' r h
theorem look_sound {l : List MHap} : ∀ (n d : Nat) (m : List MItem) (o : List Int) (s s' : LSt) (r : List Int), lLook l n d m o s = (s', some r) → ∃ p x, r = o ++ p ∧ lRun l d m p = some x ∧ lWhole l x.1 = true
  | 0, d, m, o, s, s', r, h => by rw [lLook] at h; cases h
  | n + 1, d, m, o, s, s', r, h => by
    rw [lLook] at h
    split at h
    · cases h
    · split at h
      · cases h
      · split at h
        · rename_i hw
          cases h
          exact ⟨[], (d, m), by simp, rfl, hw⟩
        · exact loop_sound (fun d m o s s' r => look_sound n d m o s s' r) _ _ _ _ _ h

theorem loop_many {l : List MHap} {again : Nat → List MItem → List Int → LSt → LSt × Option (List Int)} {d : Nat} {m : List MItem} {o : List Int} : ∀ (k i : Nat) (s : LSt), s.2 = true → (lLoop l again d m o k i s).1.2 = true
  | 0, i, s, h => by rw [lLoop]; exact h
  | k + 1, i, s, h => by rw [lLoop, if_pos h]; exact h
theorem look_many {l : List MHap} : ∀ (n d : Nat) (m : List MItem) (o : List Int) (s : LSt), s.2 = true → (lLook l n d m o s).1.2 = true
  | 0, d, m, o, s, h => by rw [lLook]; exact h
  | n + 1, d, m, o, s, h => by
    rw [lLook]
    split
    · exact h
    · split
      · rfl
      · split
        · exact h
        · exact loop_many _ _ _ h

/-- A state from which all that can be next has been looked at. -/
def lDone (l : List MHap) (S : List (Nat × List MItem)) (q : Nat × List MItem) : Prop :=
  lWhole l q.1 = false ∧ ∀ i n, lStep l q.1 q.2 i = some n → (q.1 ||| 2 ^ i, n) ∈ S
theorem lDone.mono {l : List MHap} {S S' : List (Nat × List MItem)} {q : Nat × List MItem} (h : lDone l S q) (hs : ∀ x ∈ S, x ∈ S') : lDone l S' q := ⟨h.1, fun i n hn => hs _ (h.2 i n hn)⟩
/-- What a look that finds nothing leaves. -/
def lLeft (l : List MHap) (s s' : LSt) : Prop := (∀ x ∈ s.1, x ∈ s'.1) ∧ ∀ q ∈ s'.1, q ∉ s.1 → lDone l s'.1 q
theorem lLeft.trans {l : List MHap} {a b c : LSt} (h : lLeft l a b) (g : lLeft l b c) : lLeft l a c :=
  ⟨fun x hx => g.1 x (h.1 x hx), fun q hq hn => by
    by_cases hb : q ∈ b.1
    · exact (h.2 q hb hn).mono g.1
    · exact g.2 q hq hb⟩
theorem loop_complete {l : List MHap} {n : Nat} {d : Nat} {m : List MItem} {o : List Int} (hd : lUnset d l.length ≤ n)
    (ha : ∀ d m o s s', lUnset d l.length + 1 ≤ n → lLook l n d m o s = (s', none) → s'.2 = false → lLeft l s s' ∧ (d, m) ∈ s'.1) :
    ∀ (k i : Nat) (s s' : LSt), lLoop l (lLook l n) d m o k i s = (s', none) → s'.2 = false → lLeft l s s' ∧ ∀ j x, i ≤ j → j < i + k → lStep l d m j = some x → (d ||| 2 ^ j, x) ∈ s'.1
  | 0, i, s, s', h, hm => by
    rw [lLoop] at h
    cases h
    exact ⟨⟨fun x h => h, fun q h1 h2 => absurd h1 h2⟩, fun j x h1 h2 => by omega⟩
  | k + 1, i, s, s', h, hm => by
    rw [lLoop] at h
    split at h
    · rename_i h2
      cases h
      rw [h2] at hm
      cases hm
    · split at h
      · rename_i hn
        obtain ⟨h1, h2⟩ := loop_complete hd ha k (i + 1) s s' h hm
        refine ⟨h1, fun j x hj1 hj2 hx => ?_⟩
        by_cases e : j = i
        · subst e
          rw [hn] at hx
          cases hx
        · exact h2 j x (by omega) (by omega) hx
      · rename_i n' hn
        split at h
        · cases h
        · rename_i s1 hq
          have hm1 : s1.2 = false := by
            cases hb : s1.2 with
            | false => rfl
            | true =>
              have := loop_many (l := l) (again := lLook l n) (d := d) (m := m) (o := o) k (i + 1) s1 hb
              rw [h] at this
              simp only at this
              rw [hm] at this
              cases this
          obtain ⟨hi, hnx, _⟩ := lStep_some hn
          have hu := lUnset_set (lNext_bit hnx) l.length
          rw [if_pos hi] at hu
          obtain ⟨g1, g2⟩ := ha _ _ _ _ _ (by omega) hq hm1
          obtain ⟨h1, h2⟩ := loop_complete hd ha k (i + 1) s1 s' h hm
          refine ⟨g1.trans h1, fun j x hj1 hj2 hx => ?_⟩
          by_cases e : j = i
          · subst e
            rw [hn] at hx
            cases hx
            exact h1.1 _ g2
          · exact h2 j x (by omega) (by omega) hx
theorem lStep_lt {l : List MHap} {d : Nat} {m : List MItem} {j : Nat} {x : List MItem} (h : lStep l d m j = some x) : j < l.length := (lStep_some h).1
theorem look_complete {l : List MHap} : ∀ (n d : Nat) (m : List MItem) (o : List Int) (s s' : LSt), lUnset d l.length + 1 ≤ n → lLook l n d m o s = (s', none) → s'.2 = false → lLeft l s s' ∧ (d, m) ∈ s'.1
  | 0, d, m, o, s, s', hd, h, hm => by omega
  | n + 1, d, m, o, s, s', hd, h, hm => by
    rw [lLook] at h
    split at h
    · rename_i hin
      cases h
      exact ⟨⟨fun x h => h, fun q h1 h2 => absurd h1 h2⟩, hin⟩
    · split at h
      · cases h
        cases hm
      · split at h
        · cases h
        · rename_i hw
          obtain ⟨h1, h2⟩ := loop_complete (by omega) (fun d m o s s' => look_complete n d m o s s') _ _ _ _ h hm
          have hin := h1.1 (d, m) (by simp)
          refine ⟨⟨fun x hx => h1.1 x (by simp [hx]), fun q hq hn => ?_⟩, hin⟩
          by_cases e : q = (d, m)
          · subst e
            exact ⟨by simpa using hw, fun i n hs => h2 i n (by omega) (by have := lStep_lt hs; omega) hs⟩
          · exact h1.2 q hq (by simp [e, hn])
theorem runs_in {l : List MHap} {S : List (Nat × List MItem)} (hS : ∀ q ∈ S, lDone l S q) : ∀ (o : List Int) (d : Nat) (m : List MItem) (x : Nat × List MItem), (d, m) ∈ S → lRun l d m o = some x → x ∈ S
  | [], d, m, x, h, hr => by rw [lRun] at hr; cases hr; exact h
  | i :: o, d, m, x, h, hr => by
    rw [lRun] at hr
    split at hr
    · split at hr
      · cases hr
      · rename_i n hn
        exact runs_in hS o _ _ x ((hS _ h).2 _ _ hn) hr
    · cases hr
/-- What is found is an order in which all was done. -/
theorem lOrder_found {l : List MHap} (h : (lOrder l).2.1 = true) : lFollows l (lOrder l).1 = true ∧ (lOrder l).2.2 = 0 := by
  unfold lOrder at h ⊢
  by_cases hc : lCheck l = 0
  · rw [if_pos hc] at h ⊢
    obtain ⟨⟨s, r⟩, hX⟩ : ∃ X, lLook l (l.length + 1) 0 [] [] ([], false) = X := ⟨_, rfl⟩
    rw [hX] at h ⊢
    simp only at h ⊢
    cases hs : s.2 with
    | true => rw [hs] at h; simp at h
    | false =>
      rw [hs] at h
      simp only [Bool.false_eq_true, if_false] at h ⊢
      cases r with
      | none => cases h
      | some r =>
        obtain ⟨p, x, e, hr, hw⟩ := look_sound _ _ _ _ _ _ _ hX
        simp only [List.nil_append] at e
        subst e
        refine ⟨?_, by trivial⟩
        unfold lFollows
        rw [decide_eq_true hc, Option.getD_some, hr]
        simpa using hw
  · rw [if_neg hc] at h
    cases h
/-- Where none is found there is none. -/
theorem lOrder_none {l : List MHap} (h : (lOrder l).2.1 = false) (h0 : (lOrder l).2.2 = 0) (o : List Int) : lFollows l o = false := by
  unfold lOrder at h h0
  by_cases hc : lCheck l = 0
  · rw [if_pos hc] at h h0
    obtain ⟨⟨s, r⟩, hX⟩ : ∃ X, lLook l (l.length + 1) 0 [] [] ([], false) = X := ⟨_, rfl⟩
    rw [hX] at h h0
    simp only at h h0
    cases hs : s.2 with
    | true => rw [hs] at h0; simp at h0
    | false =>
      rw [hs] at h
      simp only [Bool.false_eq_true, if_false] at h
      cases r with
      | some r => cases h
      | none =>
        obtain ⟨h1, h2⟩ := look_complete _ _ _ _ _ _ (by have := lUnset_le 0 l.length; omega) hX hs
        unfold lFollows
        cases hr : lRun l 0 [] o with
        | none => simp
        | some x =>
          have hx := runs_in (fun q hq => h1.2 q hq (by simp)) o 0 [] x h2 hr
          have := (h1.2 x hx (by simp)).1
          simp [this]
  · unfold lFollows
    rw [decide_eq_false hc]
    rfl
theorem lOrder_err {l : List MHap} (h : (lOrder l).2.2 ≠ 0) : (lOrder l).2.1 = false ∧ (lOrder l).1 = [] := by
  unfold lOrder at h ⊢
  by_cases hc : lCheck l = 0
  · rw [if_pos hc] at h ⊢
    obtain ⟨⟨s, r⟩, hX⟩ : ∃ X, lLook l (l.length + 1) 0 [] [] ([], false) = X := ⟨_, rfl⟩
    rw [hX] at h ⊢
    simp only at h ⊢
    cases hs : s.2 with
    | true => simp
    | false => rw [hs] at h; simp at h
  · rw [if_neg hc]
    exact ⟨rfl, rfl⟩
theorem lOrder_nil {l : List MHap} (h : (lOrder l).2.1 = false) : (lOrder l).1 = [] := by
  unfold lOrder at h ⊢
  by_cases hc : lCheck l = 0
  · rw [if_pos hc] at h ⊢
    obtain ⟨⟨s, r⟩, hX⟩ : ∃ X, lLook l (l.length + 1) 0 [] [] ([], false) = X := ⟨_, rfl⟩
    rw [hX] at h ⊢
    simp only at h ⊢
    cases hs : s.2 with
    | true => simp
    | false =>
      rw [hs] at h
      simp only [Bool.false_eq_true, if_false] at h ⊢
      cases r with
      | some r => cases h
      | none => rfl
  · rw [if_neg hc]
end Go.Proofs.Ytplhcfaonhkegaa

namespace Go.Proofs.Ytplhcfaonhkegaa
open Go.RowKit Go.Maps

def lFit (x : MHap) : Bool := decide (x.1.2.2.2.length ≤ 2000) && decide (x.2.1.2.2.1.length ≤ 2000) && decide (x.2.1.2.2.2.1.length ≤ 100)
def lCut (n : Nat) (l : List MHap) : List MHap := (l.filter lFit).take n
theorem lCut_mem {n : Nat} {l : List MHap} {x : MHap} (h : x ∈ lCut n l) : x ∈ l := (List.mem_filter.1 (List.mem_of_mem_take h)).1
theorem lCut_len (n : Nat) (l : List MHap) : (lCut n l).length ≤ n := by unfold lCut; rw [List.length_take]; omega
theorem lCut_next {n : Nat} {l : List MHap} {j : Nat} (h : j < l.length) (hn : (lCut n (l.take j)).length < n) : lCut n (l.take (j + 1)) = lCut n (l.take j) ++ (if lFit l[j] then [l[j]] else []) := by
  unfold lCut at hn ⊢
  have hl : ((l.take j).filter lFit).length < n := by rw [List.length_take] at hn; omega
  rw [List.take_succ_eq_append_getElem h, List.filter_append, List.take_of_length_le (Nat.le_of_lt hl)]
  by_cases e : lFit l[j] = true
  · rw [if_pos e]
    simp only [List.filter_cons, e, if_true, List.filter_nil]
    rw [List.take_of_length_le (by simp; omega)]
  · rw [if_neg e]
    have e2 : lFit l[j] = false := by simpa using e
    simp only [List.filter_cons, e2, Bool.false_eq_true, if_false, List.filter_nil, List.append_nil]
    rw [List.take_of_length_le (Nat.le_of_lt hl)]
theorem lCut_full {n : Nat} {l : List MHap} {j : Nat} (hn : n ≤ (lCut n (l.take j)).length) : lCut n l = lCut n (l.take j) := by
  unfold lCut at hn ⊢
  rw [List.length_take] at hn
  conv => lhs; rw [← List.take_append_drop j l, List.filter_append]
  rw [List.take_append_of_le_length (by omega)]
theorem lFit_false {x : MHap} (h : ¬ (x.1.2.2.2.length ≤ 2000 ∧ x.2.1.2.2.1.length ≤ 2000 ∧ x.2.1.2.2.2.1.length ≤ 100)) : lFit x = false := by
  unfold lFit
  cases hq : (decide (x.1.2.2.2.length ≤ 2000) && decide (x.2.1.2.2.1.length ≤ 2000) && decide (x.2.1.2.2.2.1.length ≤ 100)) with
  | false => rfl
  | true =>
    simp only [Bool.and_eq_true, decide_eq_true_eq] at hq
    exact absurd ⟨hq.1.1, hq.1.2, hq.2⟩ h
set_option maxRecDepth 100000 in
set_option maxHeartbeats 4000000 in
theorem lcut_any {w : World} {u : Value} {L : List MHap} (hl : Sl kHap All w u L) (N : Nat) (hN : N ≤ 100) :
    Calls Try.prog 60 #[u, .int .i64 N] w fun e w' => ∃ v, e = .returned v ∧ Sl kHap All w' v (lCut N L) ∧ Fr Non w w' := by
  obtain ⟨va, vc, rfl, _, hx, _⟩ := hl.frm
  unfold maxLen at hx
  have HL := Lib.hid hl.there
  clear hl
  go_enter Try.func60, Try.ntmps60
  go_wp2_with fail
  go_loopw [5, 6] (fun v i wr => ∃ (j : Nat), j ≤ L.length ∧ i = .int .i64 j ∧ Hid (Build kHap 76 wr v (lCut N (L.take j)) ∧ Fr Non w wr ∧ ∀ b, v.ownBlock = some b → w.heap.size ≤ b)) (fun _ i _ => L.length - (intOf i).toNat)
  case atStart => exact ⟨0, by omega, rfl, by simpa [lCut] using Build.nil _ _ _, Fr.refl _ _, by simp [Value.ownBlock]⟩
  case round =>
    obtain ⟨j, hj, rfl, HI⟩ := hrel
    have f1 := HI.out.2.1
    obtain ⟨g1, _, g3⟩ := HI.out
    obtain ⟨oa, oc, rfl⟩ := g1.form
    have HG1 := Lib.hid g1
    have G3 := Lib.hid g3
    have F1 := Lib.hid f1
    have hle := lCut_len N (L.take j)
    have j0 : (0 : Int) ≤ (j : Int) := by omega
    clear g1 g3 HI f1
    by_cases hlt : j < L.length
    · have j1 : (j : Int) < (L.length : Int) := by omega
      have HFU := Lib.hid (fun h => lCut_full (n := N) (l := L) (j := j) h)
      have HNX := Lib.hid (fun h => lCut_next (n := N) hlt h)
      obtain ⟨X, hX⟩ : ∃ X, lCut N (L.take j) = X := ⟨_, rfl⟩
      rw [hX] at HFU HNX HG1 G3 hle ⊢
      clear hX
      by_cases hfull : X.length < N
      rotate_left
      · have i1 : ¬ (X.length : Int) < (N : Int) := by omega
        have i3 : decide (X.length < N) = false := decide_eq_false hfull
        have HE := Lib.hid (HFU.out (by omega))
        go_wp2_with fail
        go_ret
        exact ⟨_, by rfl, by rw [HE.out]; exact HG1.out.sl, F1.out⟩
      have i1 : (X.length : Int) < (N : Int) := by omega
      have i3 : decide (X.length < N) = true := decide_eq_true hfull
      replace HNX := Lib.hid (HNX.out hfull)
      have hcount : X.length ≤ 100 := by omega
      clear hle hfull HFU
      obtain ⟨b, o, a0, n0, a1, n1, a2, n2, e, hc, _, _, _⟩ := hap_at (HL.out.stay F1.out) j hlt
      subst e
      obtain ⟨b', o', cs, e, hr, _, hlen, hld⟩ := hap_held (HL.out.stay F1.out) j hlt
      cases e
      have c3 := hc 3 _ (by simp only [hapCells, resCells, refCells, List.cons_append, List.nil_append]; rfl)
      have c6 := hc 6 _ (by simp only [hapCells, resCells, refCells, List.cons_append, List.nil_append]; rfl)
      have c7 := hc 7 _ (by simp only [hapCells, resCells, refCells, List.cons_append, List.nil_append]; rfl)
      have HR := Lib.hid hr
      have ONES := Lib.hid (kHap.one hr)
      have HLE := Lib.hid hlen
      have LD := Lib.hid (hld _ (Fr.refl _ _))
      obtain ⟨rcs, g6, hrow⟩ := HG1.out
      have HROW := Lib.hid hrow
      have hg6 := Lib.hid g6
      have HFF := Lib.hid (show ¬ (L[j].1.2.2.2.length ≤ 2000 ∧ L[j].2.1.2.2.1.length ≤ 2000 ∧ L[j].2.1.2.2.2.1.length ≤ 100) → lFit L[j] = false from lFit_false)
      have HFT := Lib.hid (show (L[j].1.2.2.2.length ≤ 2000 ∧ L[j].2.1.2.2.1.length ≤ 2000 ∧ L[j].2.1.2.2.2.1.length ≤ 100) → lFit L[j] = true from fun h => by unfold lFit; simp [h.1, h.2.1, h.2.2])
      obtain ⟨x, hxx⟩ : ∃ x, L[j] = x := ⟨_, rfl⟩
      rw [hxx] at c3 c6 c7 HR HNX HFF HFT
      obtain ⟨p1, hp1⟩ : ∃ p, x.1.2.2.2.length = p := ⟨_, rfl⟩
      obtain ⟨p2, hp2⟩ : ∃ p, x.2.1.2.2.1.length = p := ⟨_, rfl⟩
      obtain ⟨p3, hp3⟩ : ∃ p, x.2.1.2.2.2.1.length = p := ⟨_, rfl⟩
      rw [hp1, hp2, hp3] at HFF HFT
      rw [hp1] at c3
      rw [hp2] at c6
      rw [hp3] at c7
      clear hc hr hld hlen hxx hp1 hp2 hp3 hrow g6
      by_cases k1 : p1 ≤ 2000
      rotate_left
      · have k2 : ¬ (p1 : Int) ≤ 2000 := by omega
        have k3 : decide (p1 ≤ 2000) = false := decide_eq_false k1
        have HE := Lib.hid (show lCut N (L.take (j + 1)) = X by rw [HNX.out, HFF.out (fun h => k1 h.1)]; simp)
        go_wp2_with fail
        go_roundw
        case rel => exact ⟨j + 1, by omega, by go_num, by rw [HE.out]; exact HG1.out, F1.out, G3.out⟩
        case measure => simp [intOf]; omega
      have k2 : (p1 : Int) ≤ 2000 := by omega
      have k3 : decide (p1 ≤ 2000) = true := decide_eq_true k1
      by_cases k4 : p2 ≤ 2000
      rotate_left
      · have k5 : ¬ (p2 : Int) ≤ 2000 := by omega
        have k6 : decide (p2 ≤ 2000) = false := decide_eq_false k4
        have HE := Lib.hid (show lCut N (L.take (j + 1)) = X by rw [HNX.out, HFF.out (fun h => k4 h.2.1)]; simp)
        go_wp2_with fail
        go_roundw
        case rel => exact ⟨j + 1, by omega, by go_num, by rw [HE.out]; exact HG1.out, F1.out, G3.out⟩
        case measure => simp [intOf]; omega
      have k5 : (p2 : Int) ≤ 2000 := by omega
      have k6 : decide (p2 ≤ 2000) = true := decide_eq_true k4
      by_cases k7 : p3 ≤ 100
      rotate_left
      · have k8 : ¬ (p3 : Int) ≤ 100 := by omega
        have k9 : decide (p3 ≤ 100) = false := decide_eq_false k7
        have HE := Lib.hid (show lCut N (L.take (j + 1)) = X by rw [HNX.out, HFF.out (fun h => k7 h.2.2)]; simp)
        go_wp2_with fail
        go_roundw
        case rel => exact ⟨j + 1, by omega, by go_num, by rw [HE.out]; exact HG1.out, F1.out, G3.out⟩
        case measure => simp [intOf]; omega
      have k8 : (p3 : Int) ≤ 100 := by omega
      have k9 : decide (p3 ≤ 100) = true := decide_eq_true k7
      have HE := Lib.hid (show lCut N (L.take (j + 1)) = X ++ [x] by rw [HNX.out, HFT.out ⟨k1, k4, k7⟩]; simp)
      have hcs23 : cs.length = 23 := HLE.out
      go_wp2_with (first | refine wpList_load_w 76 (.pointer (some ⟨b, o + j * 23, none⟩)) _ LD.out _ rfl rfl (by rfl) ?_ | (at_builtin; refine wpList_append_g rfl _ _ eI76 rfl _ _ _ rfl (hg6.out.keep fun b hb => ?k1) _ 1 cs rfl ?hsrc ?k2 ?k3 ?_))
      case hsrc =>
        have e := fold_set0 cs 0 [] [.int .i64 0, .int .u64 0, .int .u64 0, .slice none 0 0, .int .i64 0, .int .u64 0, .slice none 0 0, .slice none 0 0, .int .i64 0, .int .i64 0, .int .u64 0, .int .i64 0, .int .u64 0, .int .i64 0, .int .i64 0, .int .u64 0, .int .i64 0, .int .u64 0, .bool false, .int .i64 0, .int .i64 0, .bool false, .bool false] rfl (by rw [HLE.out]; rfl)
        simp only [List.nil_append] at e
        rw [e]
        exact Src.block (m := 1) (alloc_at wr _) (by simp [HLE.out]) ONES.out
      case k1 => exact Below.heap_alloc _ _ _ (hg6.out.lt b hb)
      case k2 => unfold maxLen; omega
      case k3 => omega
      intro v' w7 r1 r2 r3
      go_wp2_with fail
      go_roundw
      case rel =>
        refine ⟨j + 1, by omega, by go_num, ?_, ?_, ?_⟩
        · rw [HE.out]
          refine Build.push (w := wr) HROW.out (kHap.mono HR.out (fun b _ hb e => by have := G3.out b e; omega)) r1 (((Fr.refl _ _).alloc _).trans2 r2 (fun b _ h => h)) ?_
          rcases r3 with r3 | ⟨r3, _⟩
          · exact .inl r3
          · exact .inr ⟨_, r3, by (try simp)⟩
        · exact (F1.out.alloc _).trans2 r2 (fun b hb hx => by have := G3.out b hx; omega)
        · intro b hb
          rcases r3 with r3 | ⟨r3, _⟩
          · exact G3.out b (r3 ▸ hb)
          · rw [r3] at hb; cases hb; have := F1.out.size; (try simp); omega
      case measure => simp [intOf]; omega
    · obtain rfl : j = L.length := by omega
      have hb := HG1.out
      rw [List.take_length] at hb
      have HB := Lib.hid hb.sl
      have HX := Lib.hid (show lCut N (L.take L.length) = lCut N L by rw [List.take_length])
      obtain ⟨X, hX⟩ : ∃ X, lCut N (L.take L.length) = X := ⟨_, rfl⟩
      rw [hX] at HX ⊢
      clear hb hX hle HG1 G3
      go_wp2_with fail
      go_ret
      exact ⟨_, by rfl, by rw [← HX.out] at HB ⊢; exact HB.out, F1.out⟩
end Go.Proofs.Ytplhcfaonhkegaa

namespace Go.Proofs.Ytplhcfaonhkegaa
open Go.RowKit

def lAll : List MItem → List MHap → Option (List MItem)
  | m, [] => some m
  | m, x :: xs => (match lAfter m x with | none => none | some n => lAll n xs)
def lPick (l : List MHap) (ps : List Nat) : List MHap := ps.filterMap fun i => l[i]?
/-- An order, from a state. -/
structure OrdFrom (l : List MHap) (d : Nat) (m : List MItem) (ps : List Nat) : Prop where
  lt : ∀ i ∈ ps, i < l.length ∧ d.testBit i = false
  nd : ps.Nodup
  pw : ps.Pairwise fun i j => ∀ x y, l[i]? = some x → l[j]? = some y → hAhead y x = false
  old : ∀ i ∈ ps, ∀ k x y, d.testBit k = true → l[i]? = some x → l[k]? = some y → hAhead x y = false
  must : ∀ k x, l[k]? = some x → hSure x = true → d.testBit k = true ∨ k ∈ ps
  run : (lAll m (lPick l ps)).isSome = true
/-- An order. -/
structure Ord (l : List MHap) (ps : List Nat) : Prop where
  lt : ∀ i ∈ ps, i < l.length
  nd : ps.Nodup
  pw : ps.Pairwise fun i j => ∀ x y, l[i]? = some x → l[j]? = some y → hAhead y x = false
  must : ∀ k x, l[k]? = some x → hSure x = true → k ∈ ps
  run : (lAll [] (lPick l ps)).isSome = true

theorem lNext_iff {l : List MHap} {d i : Nat} {x : MHap} : lNext l d i x = true ↔ d.testBit i = false ∧ ∀ k y, l[k]? = some y → (d.testBit k = false → k ≠ i → hSure y = true → hAhead y x = false) ∧ (d.testBit k = true → hAhead x y = false) := by
  unfold lNext
  rw [Bool.and_eq_true, Bool.not_eq_true', Bool.not_eq_true', ← Bool.not_eq_true (lBads d i x 0 l), lBads_iff]
  constructor
  · rintro ⟨h1, h2⟩
    refine ⟨h1, fun k y hy => ?_⟩
    obtain ⟨hk, rfl⟩ := List.getElem?_eq_some_iff.1 hy
    have h3 : lBad d i x k l[k] ≠ true := fun h => h2 ⟨k, hk, by rw [Nat.zero_add]; exact h⟩
    unfold lBad at h3
    constructor
    · intro a b c
      cases hq : hAhead l[k] x with
      | false => rfl
      | true => exact absurd (by simp [a, b, c, hq]) h3
    · intro a
      cases hq : hAhead x l[k] with
      | false => rfl
      | true => exact absurd (by simp [a, hq]) h3
  · rintro ⟨h1, h2⟩
    refine ⟨h1, ?_⟩
    rintro ⟨k, hk, h⟩
    rw [Nat.zero_add] at h
    obtain ⟨g1, g2⟩ := h2 k _ (List.getElem?_eq_getElem hk)
    unfold lBad at h
    simp only [Bool.or_eq_true, Bool.and_eq_true, Bool.not_eq_true', decide_eq_true_eq] at h
    rcases h with ⟨⟨⟨a, b⟩, c⟩, e⟩ | ⟨a, e⟩
    · rw [g1 a b c] at e
      cases e
    · rw [g2 a] at e
      cases e
theorem lWhole_iff {l : List MHap} {d : Nat} : lWhole l d = true ↔ ∀ k x, l[k]? = some x → hSure x = true → d.testBit k = true := by
  unfold lWhole
  rw [Bool.not_eq_true', ← Bool.not_eq_true (lLack d 0 l), lLack_iff]
  constructor
  · intro h k x hx hs
    obtain ⟨hk, rfl⟩ := List.getElem?_eq_some_iff.1 hx
    cases hq : d.testBit k with
    | true => rfl
    | false => exact absurd ⟨k, hk, hs, by rw [Nat.zero_add]; exact hq⟩ h
  · rintro h ⟨k, hk, hs, hb⟩
    rw [Nat.zero_add, h k _ (List.getElem?_eq_getElem hk) hs] at hb
    cases hb
theorem lPick_cons {l : List MHap} {i : Nat} {ps : List Nat} (hi : i < l.length) : lPick l (i :: ps) = l[i] :: lPick l ps := by
  unfold lPick
  rw [List.filterMap_cons, List.getElem?_eq_getElem hi]
theorem lRun_cons {l : List MHap} {d i : Nat} {m : List MItem} {o : List Int} (hi : i < l.length) : lRun l d m ((i : Int) :: o) = if lNext l d i l[i] = true then (match lAfter m l[i] with | none => none | some n => lRun l (d ||| 2 ^ i) n o) else none := by
  rw [lRun, if_pos ⟨by omega, by omega⟩, Int.toNat_natCast, lStep_at hi]
  by_cases hn : lNext l d i l[i] = true
  · rw [if_pos hn, if_pos hn]
    all_goals cases lAfter m l[i] <;> rfl
  · rw [if_neg hn, if_neg hn]
theorem run_iff {l : List MHap} : ∀ (ps : List Nat) (d : Nat) (m : List MItem), (∃ x, lRun l d m (ps.map fun i : Nat => (i : Int)) = some x ∧ lWhole l x.1 = true) ↔ OrdFrom l d m ps
  | [], d, m => by
    constructor
    · rintro ⟨x, h, hw⟩
      rw [List.map_nil, lRun] at h
      cases h
      exact ⟨(fun i hi => by cases hi), List.nodup_nil, List.Pairwise.nil, (fun i hi => by cases hi), fun k x hx hs => .inl (lWhole_iff.1 hw k x hx hs), rfl⟩
    · intro h
      exact ⟨(d, m), rfl, lWhole_iff.2 fun k x hx hs => (h.must k x hx hs).resolve_right (fun h => by cases h)⟩
  | i :: ps, d, m => by
    constructor
    · rintro ⟨x, h, hw⟩
      rw [List.map_cons] at h
      have hi : i < l.length := by
        rw [lRun] at h
        split at h
        · rename_i hc; omega
        · cases h
      rw [lRun_cons hi] at h
      split at h
      · rename_i hn
        split at h
        · cases h
        · rename_i n ha
          have IH := (run_iff ps _ _).1 ⟨x, h, hw⟩
          obtain ⟨n1, n2⟩ := lNext_iff.1 hn
          have hb : ∀ j ∈ ps, d.testBit j = false ∧ i ≠ j := fun j hj => by
            have := (IH.lt j hj).2
            rw [set_bit, Bool.or_eq_false_iff, decide_eq_false_iff_not] at this
            exact this
          refine ⟨?_, ?_, ?_, ?_, ?_, ?_⟩
          · intro j hj
            rcases List.mem_cons.1 hj with rfl | hj
            · exact ⟨hi, n1⟩
            · exact ⟨(IH.lt j hj).1, (hb j hj).1⟩
          · exact List.nodup_cons.2 ⟨fun hm => (hb i hm).2 rfl, IH.nd⟩
          · exact List.pairwise_cons.2 ⟨fun j hj x y hx hy => IH.old j hj i y x (by rw [set_bit]; simp) hy hx, IH.pw⟩
          · intro j hj k x y hk hx hy
            rcases List.mem_cons.1 hj with rfl | hj
            · rw [List.getElem?_eq_getElem hi] at hx
              cases hx
              exact (n2 k y hy).2 hk
            · exact IH.old j hj k x y (by rw [set_bit, hk]; rfl) hx hy
          · intro k x hx hs
            rcases IH.must k x hx hs with h | h
            · rw [set_bit, Bool.or_eq_true, decide_eq_true_eq] at h
              rcases h with h | h
              · exact .inl h
              · exact .inr (by simp [h])
            · exact .inr (by simp [h])
          · rw [lPick_cons hi, lAll, ha]
            exact IH.run
      · cases h
    · intro h
      obtain ⟨hi, hb⟩ := h.lt i (by simp)
      have hr := h.run
      rw [lPick_cons hi, lAll] at hr
      cases ha : lAfter m l[i] with
      | none => rw [ha] at hr; cases hr
      | some n =>
        rw [ha] at hr
        obtain ⟨p1, p2⟩ := List.pairwise_cons.1 h.pw
        obtain ⟨q1, q2⟩ := List.nodup_cons.1 h.nd
        have hn : lNext l d i l[i] = true := lNext_iff.2 ⟨hb, fun k y hy => ⟨fun a b c => by
          rcases h.must k y hy c with e | e
          · rw [a] at e; cases e
          · rcases List.mem_cons.1 e with e | e
            · exact absurd e b
            · exact p1 k e _ y (List.getElem?_eq_getElem hi) hy, fun a => h.old i (by simp) k _ y a (List.getElem?_eq_getElem hi) hy⟩⟩
        obtain ⟨x, hx, hw⟩ := (run_iff ps (d ||| 2 ^ i) n).2 ⟨fun j hj => ⟨(h.lt j (by simp [hj])).1, by
            rw [set_bit, (h.lt j (by simp [hj])).2, Bool.false_or]
            exact decide_eq_false fun e => q1 (e ▸ hj)⟩, q2, p2, fun j hj k x y hk hx hy => by
            rw [set_bit, Bool.or_eq_true, decide_eq_true_eq] at hk
            rcases hk with hk | rfl
            · exact h.old j (by simp [hj]) k x y hk hx hy
            · exact p1 j hj y x hy hx, fun k x hx hs => by
            rcases h.must k x hx hs with e | e
            · exact .inl (by rw [set_bit, e]; rfl)
            · rcases List.mem_cons.1 e with rfl | e
              · exact .inl (by rw [set_bit]; simp)
              · exact .inr e, hr⟩
        refine ⟨x, ?_, hw⟩
        rw [List.map_cons, lRun_cons hi, if_pos hn, ha]
        exact hx
theorem lRun_nat {l : List MHap} : ∀ {o : List Int} {d : Nat} {m : List MItem} {x : Nat × List MItem}, lRun l d m o = some x → ∃ ps : List Nat, o = ps.map fun i : Nat => (i : Int)
  | [], _, _, _, _ => ⟨[], rfl⟩
  | i :: o, d, m, x, h => by
    rw [lRun] at h
    split at h
    · rename_i hc
      split at h
      · cases h
      · obtain ⟨ps, rfl⟩ := lRun_nat h
        exact ⟨i.toNat :: ps, by rw [List.map_cons, Int.toNat_of_nonneg hc.1]⟩
    · cases h
theorem ord_from {l : List MHap} {ps : List Nat} : OrdFrom l 0 [] ps ↔ Ord l ps :=
  ⟨fun h => ⟨fun i hi => (h.lt i hi).1, h.nd, h.pw, fun k x hx hs => (h.must k x hx hs).resolve_left (by simp), h.run⟩,
   fun h => ⟨fun i hi => ⟨h.lt i hi, by simp⟩, h.nd, h.pw, fun i hi k x y hk => by simp at hk, fun k x hx hs => .inr (h.must k x hx hs), h.run⟩⟩
theorem lFollows_iff {l : List MHap} {o : List Int} : lFollows l o = true ↔ lCheck l = 0 ∧ ∃ ps : List Nat, o = (ps.map fun i : Nat => (i : Int)) ∧ Ord l ps := by
  unfold lFollows
  rw [Bool.and_eq_true, decide_eq_true_eq]
  constructor
  · rintro ⟨hc, h⟩
    refine ⟨hc, ?_⟩
    cases hr : lRun l 0 [] o with
    | none => rw [hr] at h; cases h
    | some x =>
      rw [hr] at h
      obtain ⟨ps, rfl⟩ := lRun_nat hr
      exact ⟨ps, rfl, ord_from.1 ((run_iff ps 0 []).1 ⟨x, hr, h⟩)⟩
  · rintro ⟨hc, ps, rfl, h⟩
    obtain ⟨x, hx, hw⟩ := (run_iff ps 0 []).2 (ord_from.2 h)
    refine ⟨hc, ?_⟩
    rw [hx]
    exact hw

/-- What began ahead of a moment, with what was not over then open. -/
def lOpen (x : MHap) : MHap := (x.1, mErr 0, x.2.2.1, 0, true, x.2.2.2.2.2)
def lSome (t : Int) (x : MHap) : Option MHap := if t ≤ x.2.2.1 then none else if x.2.2.2.2.1 = false ∧ t ≤ x.2.2.2.1 then some (lOpen x) else some x
def lShort (t : Int) (l : List MHap) : List MHap := l.filterMap (lSome t)

section
variable {α β : Type} {f : α → Option β}
theorem fm_get {l : List α} {i : Nat} {x : α} {y : β} (h : l[i]? = some x) (hs : f x = some y) : (l.filterMap f)[((l.take i).filterMap f).length]? = some y := by
  obtain ⟨hi, rfl⟩ := List.getElem?_eq_some_iff.1 h
  have e : l = l.take i ++ l[i] :: l.drop (i + 1) := by rw [← List.drop_eq_getElem_cons hi, List.take_append_drop]
  conv => lhs; arg 1; rw [e, List.filterMap_append, List.filterMap_cons, hs]
  simp
theorem fm_lt {l : List α} {i j : Nat} {x : α} {y : β} (h : l[i]? = some x) (hs : f x = some y) (hij : i < j) : ((l.take i).filterMap f).length < ((l.take j).filterMap f).length := by
  obtain ⟨hi, rfl⟩ := List.getElem?_eq_some_iff.1 h
  have e : l.take j = l.take i ++ (l[i] :: (l.take j).drop (i + 1)) := by
    have h1 : i < (l.take j).length := by rw [List.length_take]; omega
    have h2 := List.take_append_drop i (l.take j)
    rw [List.drop_eq_getElem_cons h1, List.take_take, Nat.min_eq_left (by omega), List.getElem_take] at h2
    exact h2.symm
  rw [e, List.filterMap_append, List.filterMap_cons, hs]
  simp
theorem fm_back : ∀ {l : List α} {k : Nat} {y : β}, (l.filterMap f)[k]? = some y → ∃ i x, l[i]? = some x ∧ f x = some y ∧ ((l.take i).filterMap f).length = k
  | [], k, y, h => by simp at h
  | a :: l, k, y, h => by
    rw [List.filterMap_cons] at h
    cases hf : f a with
    | none =>
      rw [hf] at h
      obtain ⟨i, x, h1, h2, h3⟩ := fm_back h
      exact ⟨i + 1, x, by simpa using h1, h2, by rw [List.take_succ_cons, List.filterMap_cons, hf]; exact h3⟩
    | some b =>
      rw [hf] at h
      cases k with
      | zero =>
        simp only [List.getElem?_cons_zero] at h
        exact ⟨0, a, rfl, by rw [hf]; exact h, rfl⟩
      | succ k =>
        simp only [List.getElem?_cons_succ] at h
        obtain ⟨i, x, h1, h2, h3⟩ := fm_back h
        exact ⟨i + 1, x, by simpa using h1, h2, by rw [List.take_succ_cons, List.filterMap_cons, hf]; simp [h3]⟩
theorem fm_inj {l : List α} {i j : Nat} {x x' : α} {y y' : β} (h : l[i]? = some x) (hs : f x = some y) (h' : l[j]? = some x') (hs' : f x' = some y') (e : ((l.take i).filterMap f).length = ((l.take j).filterMap f).length) : i = j := by
  rcases Nat.lt_trichotomy i j with hl | he | hl
  · have := fm_lt (f := f) h hs hl; omega
  · exact he
  · have := fm_lt (f := f) h' hs' hl; omega
end
theorem lSome_some {t : Int} {x y : MHap} (h : lSome t x = some y) : x.2.2.1 < t ∧ y.1 = x.1 ∧ y.2.2.1 = x.2.2.1 ∧ (y.2.2.2.2.1 = false → y = x ∧ x.2.2.2.1 < t) ∧ (lMay x = true → lMay y = true) := by
  unfold lSome at h
  split at h
  · cases h
  · rename_i h1
    split at h
    · cases h
      refine ⟨by omega, rfl, rfl, (fun h => by cases h), fun hm => ?_⟩
      unfold lMay at hm ⊢
      unfold lOpen
      simp only [Bool.and_eq_true] at hm ⊢
      exact ⟨hm.1, hm.2.1, hm.2.2.1, by simp⟩
    · rename_i h2
      cases h
      exact ⟨by omega, rfl, rfl, fun h => ⟨rfl, by
        by_cases e : t ≤ x.2.2.2.1
        · exact absurd ⟨h, e⟩ h2
        · omega⟩, id⟩
theorem lSome_keep {t : Int} {x : MHap} (h : x.2.2.1 < t) : ∃ y, lSome t x = some y := by
  unfold lSome
  rw [if_neg (by omega)]
  split
  · exact ⟨_, rfl⟩
  · exact ⟨_, rfl⟩
theorem lSome_ahead {t : Int} {x y x' y' : MHap} (h : lSome t x = some y) (h' : lSome t x' = some y') (ha : hAhead x x' = false) : hAhead y y' = false := by
  obtain ⟨_, _, _, a4, _⟩ := lSome_some h
  obtain ⟨_, _, b3, _, _⟩ := lSome_some h'
  cases hq : hAhead y y' with
  | false => rfl
  | true =>
    unfold hAhead at hq
    simp only [Bool.and_eq_true, Bool.not_eq_true', decide_eq_true_eq] at hq
    obtain ⟨rfl, _⟩ := a4 hq.1
    unfold hAhead at ha
    rw [b3] at hq
    simp [hq.1, hq.2] at ha
theorem lSome_sure {t : Int} {x y : MHap} (h : lSome t x = some y) (hs : hSure y = true) : y = x ∧ x.2.2.2.1 < t := by
  have hs2 := hs
  unfold hSure at hs2
  simp only [Bool.and_eq_true, Bool.not_eq_true'] at hs2
  exact (lSome_some h).2.2.2.1 hs2.1
theorem lSome_after {t : Int} {m n : List MItem} {x y : MHap} (h : lSome t x = some y) (ha : lAfter m x = some n) : lAfter m y = some n := by
  obtain ⟨h1, h2, h3, h4⟩ := lAfter_some ha
  obtain ⟨_, g2, _, _, _⟩ := lSome_some h
  rw [lAfter_of (m := m) (x := y) h1 (by rw [g2]; exact h2) (fun hs => by
    obtain ⟨rfl, _⟩ := lSome_sure h hs
    exact h4 hs), g2, h3]
theorem lAll_some {t : Int} : ∀ {xs ys : List MHap} {m : List MItem}, xs.map (lSome t) = ys.map some → (lAll m xs).isSome = true → (lAll m ys).isSome = true
  | [], [], _, _, h => h
  | [], _ :: _, _, e, _ => by simp at e
  | _ :: _, [], _, e, _ => by simp at e
  | x :: xs, y :: ys, m, e, h => by
    simp only [List.map_cons, List.cons.injEq] at e
    rw [lAll] at h ⊢
    cases ha : lAfter m x with
    | none => rw [ha] at h; cases h
    | some n =>
      rw [ha] at h
      rw [lSome_after e.1 ha]
      exact lAll_some e.2 h
theorem lAll_take : ∀ {xs zs : List MHap} {m : List MItem}, (lAll m (xs ++ zs)).isSome = true → (lAll m xs).isSome = true
  | [], _, _, _ => rfl
  | x :: xs, zs, m, h => by
    rw [List.cons_append, lAll] at h
    rw [lAll]
    cases ha : lAfter m x with
    | none => rw [ha] at h; cases h
    | some n =>
      rw [ha] at h
      exact lAll_take h
theorem lPick_append {l : List MHap} {ps qs : List Nat} : lPick l (ps ++ qs) = lPick l ps ++ lPick l qs := List.filterMap_append
theorem lCheck_iff {l : List MHap} : lCheck l = 0 ↔ l.length ≤ 64 ∧ ∀ x ∈ l, lMay x = true := by
  unfold lCheck
  by_cases h1 : 64 < l.length
  · rw [if_pos h1]
    constructor
    · intro h; cases h
    · intro h; omega
  · rw [if_neg h1]
    cases hq : l.all lMay with
    | true => simp only [if_true, true_iff]; exact ⟨by omega, List.all_eq_true.1 hq⟩
    | false =>
      simp only [Bool.false_eq_true, if_false]
      constructor
      · intro h; cases h
      · intro h
        rw [List.all_eq_true.2 h.2] at hq
        cases hq
theorem lShort_pick {t : Int} {l : List MHap} : ∀ {q : List Nat}, (∀ i ∈ q, ∃ x y, l[i]? = some x ∧ lSome t x = some y) → (lPick l q).map (lSome t) = (lPick (lShort t l) (q.map fun i => (lShort t (l.take i)).length)).map some
  | [], _ => rfl
  | i :: q, h => by
    obtain ⟨x, y, hx, hy⟩ := h i (by simp)
    have hz : (lShort t l)[(lShort t (l.take i)).length]? = some y := fm_get (f := lSome t) hx hy
    have IH := lShort_pick (q := q) fun j hj => h j (by simp [hj])
    unfold lPick at IH ⊢
    rw [List.filterMap_cons, hx, List.map_cons, List.map_cons, List.filterMap_cons, hz, List.map_cons, hy, IH]
theorem lShort_ord {t : Int} {l : List MHap} {ps : List Nat} (h : Ord l ps) : ∃ qs, Ord (lShort t l) qs := by
  obtain ⟨q, hq⟩ : ∃ q, ps.takeWhile (fun i => match l[i]? with | none => false | some x => decide (x.2.2.1 < t)) = q := ⟨_, rfl⟩
  obtain ⟨r, hr⟩ : ∃ r, ps.dropWhile (fun i => match l[i]? with | none => false | some x => decide (x.2.2.1 < t)) = r := ⟨_, rfl⟩
  have e : ps = q ++ r := by rw [← hq, ← hr, List.takeWhile_append_dropWhile]
  have hk : ∀ i ∈ q, ∃ x y, l[i]? = some x ∧ lSome t x = some y := fun i hi => by
    rw [← hq] at hi
    have := List.all_eq_true.1 List.all_takeWhile i hi
    cases hx : l[i]? with
    | none => rw [hx] at this; cases this
    | some x =>
      rw [hx] at this
      obtain ⟨y, hy⟩ := lSome_keep (t := t) (x := x) (by simpa using this)
      exact ⟨x, y, rfl, hy⟩
  have hd := h.nd
  have hp := h.pw
  rw [e] at hd hp
  obtain ⟨d1, d2, _⟩ := List.nodup_append.1 hd
  obtain ⟨p1, p2, p3⟩ := List.pairwise_append.1 hp
  refine ⟨q.map fun i => (lShort t (l.take i)).length, ?_, ?_, ?_, ?_, ?_⟩
  · intro j hj
    obtain ⟨i, hi, rfl⟩ := List.mem_map.1 hj
    obtain ⟨x, y, hx, hy⟩ := hk i hi
    exact (List.getElem?_eq_some_iff.1 (fm_get (f := lSome t) hx hy)).1
  · unfold List.Nodup
    rw [List.pairwise_map]
    refine List.Pairwise.imp_of_mem ?_ d1
    intro i j hi hj hne he
    obtain ⟨x, y, hx, hy⟩ := hk i hi
    obtain ⟨x', y', hx', hy'⟩ := hk j hj
    exact hne (fm_inj (f := lSome t) hx hy hx' hy' he)
  · rw [List.pairwise_map]
    refine List.Pairwise.imp_of_mem ?_ p1
    intro i j hi hj hne u v hu hv
    obtain ⟨x, y, hx, hy⟩ := hk i hi
    obtain ⟨x', y', hx', hy'⟩ := hk j hj
    have e1 : (lShort t l)[(lShort t (l.take i)).length]? = some y := fm_get (f := lSome t) hx hy
    have e2 : (lShort t l)[(lShort t (l.take j)).length]? = some y' := fm_get (f := lSome t) hx' hy'
    rw [e1] at hu
    rw [e2] at hv
    cases hu
    cases hv
    exact lSome_ahead hy' hy (hne x x' hx hx')
  · intro k y hy hs
    obtain ⟨i, x, hx, hxy, rfl⟩ := fm_back (f := lSome t) hy
    obtain ⟨rfl, hto⟩ := lSome_sure hxy hs
    have hfr := (lSome_some hxy).1
    refine List.mem_map.2 ⟨i, ?_, rfl⟩
    have hm := h.must i y hx hs
    rw [e] at hm
    rcases List.mem_append.1 hm with hm | hm
    · exact hm
    · exfalso
      cases r with
      | nil => simp at hm
      | cons i0 r' =>
        have hf : (match l[i0]? with | none => false | some x => decide (x.2.2.1 < t)) = false := by
          have := List.head?_dropWhile_not (fun i => match l[i]? with | none => false | some x => decide (x.2.2.1 < t)) ps
          rw [hr] at this
          simpa using this
        have hlt := h.lt i0 (by rw [e]; simp)
        rw [List.getElem?_eq_getElem hlt] at hf
        simp only [decide_eq_false_iff_not] at hf
        rcases List.mem_cons.1 hm with rfl | hm
        · obtain ⟨_, rfl⟩ := List.getElem?_eq_some_iff.1 hx
          exact hf hfr
        · have := (List.pairwise_cons.1 p2).1 i hm _ y (List.getElem?_eq_getElem hlt) hx
          unfold hSure at hs
          simp only [Bool.and_eq_true, Bool.not_eq_true'] at hs
          unfold hAhead at this
          rw [hs.1] at this
          simp only [Bool.not_false, Bool.true_and, decide_eq_false_iff_not] at this
          omega
  · have hrun := h.run
    rw [e, lPick_append] at hrun
    exact lAll_some (lShort_pick hk) (lAll_take hrun)
theorem lShort_follows {t : Int} {l : List MHap} {o : List Int} (h : lFollows l o = true) : ∃ o', lFollows (lShort t l) o' = true := by
  obtain ⟨hc, ps, rfl, ho⟩ := lFollows_iff.1 h
  obtain ⟨qs, hq⟩ := lShort_ord (t := t) ho
  obtain ⟨c1, c2⟩ := lCheck_iff.1 hc
  refine ⟨_, lFollows_iff.2 ⟨lCheck_iff.2 ⟨?_, ?_⟩, qs, rfl, hq⟩⟩
  · have := List.length_filterMap_le (lSome t) l
    unfold lShort
    omega
  · intro y hy
    obtain ⟨x, hx, hxy⟩ := List.mem_filterMap.1 hy
    exact (lSome_some hxy).2.2.2.2 (c2 x hx)
/-- Of what is linearizable what is left behind a moment is. -/
theorem lShort_holds {t : Int} {l : List MHap} (h : (lOrder l).2.1 = true) : (lOrder (lShort t l)).2.2 = 3 ∨ ((lOrder (lShort t l)).2.2 = 0 ∧ (lOrder (lShort t l)).2.1 = true) := by
  obtain ⟨o', ho⟩ := lShort_follows (t := t) (lOrder_found h).1
  have hc := (lFollows_iff.1 ho).1
  by_cases h0 : (lOrder (lShort t l)).2.2 = 0
  · refine .inr ⟨h0, ?_⟩
    cases hb : (lOrder (lShort t l)).2.1 with
    | true => rfl
    | false => rw [lOrder_none hb h0 o'] at ho; cases ho
  · refine .inl ?_
    unfold lOrder at h0 ⊢
    rw [if_pos hc] at h0 ⊢
    obtain ⟨⟨s, r⟩, hX⟩ : ∃ X, lLook (lShort t l) ((lShort t l).length + 1) 0 [] [] ([], false) = X := ⟨_, rfl⟩
    rw [hX] at h0 ⊢
    simp only at h0 ⊢
    cases hs : s.2 with
    | true => simp
    | false => rw [hs] at h0; simp at h0
end Go.Proofs.Ytplhcfaonhkegaa

namespace Go.Proofs.Ytplhcfaonhkegaa
open Go.RowKit Go.Maps

theorem fold_off (d : Nat) : ∀ (cs : List Value) (k : Nat) (pre mid post : List Value), pre.length = d + k → mid.length = cs.length →
    List.foldl (fun (cs : Array Value) (x : Value × Nat) => cs.setIfInBounds (d + x.2) x.1) (pre ++ (mid ++ post)).toArray (cs.zipIdx k) = (pre ++ (cs ++ post)).toArray
  | [], k, pre, mid, post, _, h => by rw [List.eq_nil_of_length_eq_zero h]; rfl
  | c :: cs, k, pre, [], post, _, h => by simp at h
  | c :: cs, k, pre, r :: rs, post, h1, h2 => by
    have ih := fold_off d cs (k + 1) (pre ++ [c]) rs post (by simp; omega) (by simpa using h2)
    rw [List.zipIdx_cons, List.foldl_cons, List.setIfInBounds_toArray]
    simp only
    rw [← h1, List.cons_append, List.set_append_right (h := Nat.le_refl _), Nat.sub_self, List.set_cons_zero]
    simpa using ih
theorem fold_size (l : List (Value × Nat)) : ∀ a : Array Value, (List.foldl (fun (cs : Array Value) (x : Value × Nat) => cs.setIfInBounds x.2 x.1) a l).size = a.size := by
  induction l with
  | nil => intro a; rfl
  | cons x l ih => intro a; rw [List.foldl_cons, ih]; simp
/-- Two rows, built. -/
theorem fold_two {cs1 cs2 : List Value} (h1 : cs1.length = 23) (h2 : cs2.length = 23) : List.foldl (fun (cs : Array Value) (x : Value × Nat) => cs.setIfInBounds (23 + x.2) x.1) (List.foldl (fun (cs : Array Value) (x : Value × Nat) => cs.setIfInBounds x.2 x.1) #[.int .i64 0, .int .u64 0, .int .u64 0, .slice none 0 0, .int .i64 0, .int .u64 0, .slice none 0 0, .slice none 0 0, .int .i64 0, .int .i64 0, .int .u64 0, .int .i64 0, .int .u64 0, .int .i64 0, .int .i64 0, .int .u64 0, .int .i64 0, .int .u64 0, .bool false, .int .i64 0, .int .i64 0, .bool false, .bool false, .int .i64 0, .int .u64 0, .int .u64 0, .slice none 0 0, .int .i64 0, .int .u64 0, .slice none 0 0, .slice none 0 0, .int .i64 0, .int .i64 0, .int .u64 0, .int .i64 0, .int .u64 0, .int .i64 0, .int .i64 0, .int .u64 0, .int .i64 0, .int .u64 0, .bool false, .int .i64 0, .int .i64 0, .bool false, .bool false] cs1.zipIdx) cs2.zipIdx = (cs1 ++ cs2).toArray := by
  have a1 := fold_off 0 cs1 0 [] [.int .i64 0, .int .u64 0, .int .u64 0, .slice none 0 0, .int .i64 0, .int .u64 0, .slice none 0 0, .slice none 0 0, .int .i64 0, .int .i64 0, .int .u64 0, .int .i64 0, .int .u64 0, .int .i64 0, .int .i64 0, .int .u64 0, .int .i64 0, .int .u64 0, .bool false, .int .i64 0, .int .i64 0, .bool false, .bool false] [.int .i64 0, .int .u64 0, .int .u64 0, .slice none 0 0, .int .i64 0, .int .u64 0, .slice none 0 0, .slice none 0 0, .int .i64 0, .int .i64 0, .int .u64 0, .int .i64 0, .int .u64 0, .int .i64 0, .int .i64 0, .int .u64 0, .int .i64 0, .int .u64 0, .bool false, .int .i64 0, .int .i64 0, .bool false, .bool false] rfl (by rw [h1]; rfl)
  simp only [Nat.zero_add, List.nil_append] at a1
  have a2 := fold_off 23 cs2 0 cs1 [.int .i64 0, .int .u64 0, .int .u64 0, .slice none 0 0, .int .i64 0, .int .u64 0, .slice none 0 0, .slice none 0 0, .int .i64 0, .int .i64 0, .int .u64 0, .int .i64 0, .int .u64 0, .int .i64 0, .int .i64 0, .int .u64 0, .int .i64 0, .int .u64 0, .bool false, .int .i64 0, .int .i64 0, .bool false, .bool false] [] (by rw [h1]) (by rw [h2]; rfl)
  simp only [List.append_nil] at a2
  rw [← a2, ← a1]
  rfl
def aPut : MHap := ((1, 5, 0, []), mErr 0, 0, 3, false, false)
def aGet (a b : Int) : MHap := ((3, 5, 0, []), mErr 101, a, b, false, false)
theorem aOrder1 : lOrder [aPut, aGet 1 2] = ([1, 0], true, 0) := by decide
theorem aOrder2 : lOrder [aPut, aGet 4 5] = ([], false, 0) := by decide
def aCells (x : MHap) : List Value := hapCells x (.slice none 0 0) (.slice none 0 0) (.slice none 0 0)
theorem aRd (w : World) (x : MHap) (h : x = aPut ∨ x = aGet 1 2 ∨ x = aGet 4 5) : kHap.rd All w (aCells x) x := by
  have hn : ∀ x : MHap, x.1 = (x.1.1, x.1.2.1, x.1.2.2.1, []) → (Lit.int .i64 x.1.1).wf = true → (0 ≤ x.1.2.1 ∧ x.1.2.1 ≤ 18446744073709551615) → (0 ≤ x.1.2.2.1 ∧ x.1.2.2.1 ≤ 18446744073709551615) → x.2.1 = mErr x.2.1.1 → (Lit.int .i64 x.2.1.1).wf = true → (Lit.int .i64 x.2.2.1).wf = true → (Lit.int .i64 x.2.2.2.1).wf = true → kHap.rd All w (aCells x) x := by
    rintro ⟨⟨k, key, hi, v⟩, r, a, b, o, f⟩ e1 h1 h2 h3 e2 h4 h5 h6
    simp only [Prod.mk.injEq, true_and] at e1
    subst e1
    simp only at e2
    rw [e2]
    show kHap.rd All w ([.int .i64 k, .int .u64 key, .int .u64 hi, .slice none 0 0] ++ (resCells (mErr r.1) (.slice none 0 0) (.slice none 0 0) ++ [.int .i64 a, .int .i64 b, .bool o, .bool f])) ((k, key, hi, []), mErr r.1, a, b, o, f)
    exact ⟨_, _, rfl, cells_call (x := (k, key, hi, [])) (.inl ⟨rfl, rfl⟩) (by simp) h2 h3 h1, _, _, rfl, cells_res h4 (by simp) (.inl ⟨rfl, rfl⟩) (by simp) (.inl ⟨rfl, rfl⟩) (by simp), [_], _, rfl, ⟨rfl, h5⟩, [_], _, rfl, ⟨rfl, h6⟩, [_], _, rfl, rfl, rfl⟩
  rcases h with rfl | rfl | rfl
  · exact hn _ rfl (by decide) (by decide) (by decide) rfl (by decide) (by decide) (by decide)
  · exact hn _ rfl (by decide) (by decide) (by decide) rfl (by decide) (by decide) (by decide)
  · exact hn _ rfl (by decide) (by decide) (by decide) rfl (by decide) (by decide) (by decide)
theorem two_rows {w : World} {b c : Nat} {cs1 cs2 : List Value} {x1 x2 : MHap} (hb : w.heap[b]? = some (.cells (cs1 ++ cs2).toArray 76 (0, 0))) (h1 : kHap.rd All w cs1 x1) (h2 : kHap.rd All w cs2 x2) (hc : 2 ≤ c) (hm : c ≤ maxLen) :
    Sl kHap All w (.slice (some ⟨b, 0, none⟩) 2 c) [x1, x2] := by
  have e1 : cs1.length = 23 := kHap.len h1
  have e2 : cs2.length = 23 := kHap.len h2
  refine .inr ⟨_, _, rfl, hc, hm, fun _ => ⟨rfl, trivial⟩, fun i hi => ?_⟩
  have hsz : kHap.sz = 23 := rfl
  rw [hsz]
  have hi2 : i < 2 := hi
  match i with
  | 0 =>
    refine ⟨cs1, h1, fun j hj => ?_⟩
    rw [(box_facts hb).1]
    simp only [Nat.zero_mul, Nat.zero_add, List.getElem?_toArray]
    rw [List.getElem?_append_left hj, List.getElem?_eq_getElem hj]
  | 1 =>
    refine ⟨cs2, h2, fun j hj => ?_⟩
    rw [(box_facts hb).1]
    simp only [Nat.one_mul, Nat.zero_add, List.getElem?_toArray]
    rw [List.getElem?_append_right (by omega), show 23 + j - cs1.length = j by omega, List.getElem?_eq_getElem hj]
theorem order_of {w : World} {u : Value} {l : List MHap} {r : List Int × (Bool × Int)} (hl : Sl kHap All w u l) (hr : lOrder l = r) :
    Calls Try.prog 61 #[u] w fun e w' => ∃ v, e = .returned (.tuple #[v, .bool r.2.1, .int .i64 r.2.2]) ∧ Sl kI All w' v r.1 ∧ Fr Non w w' := by
  subst hr
  exact order_any hl
theorem aCells_apart (o : Nat) (h1 : (aCells (aGet 1 2))[o]? = some (.int .i64 1)) (h2 : (aCells (aGet 1 2))[o + 1]? = some (.int .i64 0)) : False := by
  have ho : o < 23 := by have := (List.getElem?_eq_some_iff.1 h1).1; exact this
  have e : o = 19 := by
    unfold aCells hapCells resCells refCells aGet mErr r0 at h1
    match o, ho with
    | 0, _ => simp at h1
    | 1, _ => simp at h1
    | 2, _ => simp at h1
    | 3, _ => simp at h1
    | 4, _ => simp at h1
    | 5, _ => simp at h1
    | 6, _ => simp at h1
    | 7, _ => simp at h1
    | 8, _ => simp at h1
    | 9, _ => simp at h1
    | 10, _ => simp at h1
    | 11, _ => simp at h1
    | 12, _ => simp at h1
    | 13, _ => simp at h1
    | 14, _ => simp at h1
    | 15, _ => simp at h1
    | 16, _ => simp at h1
    | 17, _ => simp at h1
    | 18, _ => simp at h1
    | 19, _ => rfl
    | 20, _ => simp at h1
    | 21, _ => simp at h1
    | 22, _ => simp at h1
  subst e
  unfold aCells hapCells resCells refCells aGet mErr r0 at h2
  simp at h2
theorem aCells_set : ((aCells (aGet 1 2)).set 19 (.int .i64 4)).set 20 (.int .i64 5) = aCells (aGet 4 5) := rfl
theorem aCells_len (x : MHap) : (aCells x).length = 23 := rfl
theorem aCells_one (x : MHap) : ∀ u ∈ aCells x, u.oneCell' = true := by
  intro z hz
  unfold aCells hapCells at hz
  simp only [resCells, refCells, List.cons_append, List.nil_append, List.mem_cons, List.not_mem_nil, or_false] at hz
  rcases hz with rfl | rfl | rfl | rfl | rfl | rfl | rfl | rfl | rfl | rfl | rfl | rfl | rfl | rfl | rfl | rfl | rfl | rfl | rfl | rfl | rfl | rfl | rfl <;> rfl
/-- Behind the first part. -/
def CutA0 (w : World) (v1 : Value) (wx : World) : Prop := ∃ P, v1 = .pointer (some ⟨P, 0, none⟩) ∧ wx.heap[P]? = some (.cells (aCells aPut).toArray 76 (0, 0)) ∧ w.heap.size ≤ P ∧ Fr Non w wx
def CutA (w : World) (v1 v2 : Value) (wx : World) : Prop := ∃ P P2, v1 = .pointer (some ⟨P, 0, none⟩) ∧ v2 = .pointer (some ⟨P2, 0, none⟩) ∧
  wx.heap[P]? = some (.cells (aCells aPut).toArray 76 (0, 0)) ∧ wx.heap[P2]? = some (.cells (aCells (aGet 1 2)).toArray 76 (0, 0)) ∧ (w.heap.size ≤ P ∧ P < P2) ∧ Fr Non w wx
set_option maxRecDepth 100000 in
set_option maxHeartbeats 4000000 in
theorem lawake_any (w : World) : Calls Try.prog 59 #[] w fun e w' => e = .returned (.bool true) ∧ Fr Non w w' := by
  go_enter Try.func59, Try.ntmps59
  go_upto_region 1 with (fail)
  go_cut [1] (fun v1 wx => Hid (CutA0 w v1 wx))
  case first =>
    go_wp2_with (refine wpList_store_block rfl 76 _ _ rfl w.heap.size 0 rfl (.agg (aCells aPut).toArray) rfl _ 76 (alloc_at w _) ?hfit ?hinf ?hone ?_)
    case hinf => rw [show (Value.agg (aCells aPut).toArray).cells.size = 23 from rfl]; kernel_rfl
    case hfit => simp [Value.cells, aCells_len]
    case hone => intro u hu; exact aCells_one _ u (by simpa [Value.cells] using hu)
    intro w2 hbx f2
    rw [putAt_whole _ _ (by simp [aCells_len])] at hbx
    go_wp2_with fail
    go_meet
    exact Lib.hid ⟨w.heap.size, rfl, by simpa [Value.cells] using hbx, Nat.le_refl _, ((Fr.refl Non w).alloc _).trans2 f2 (fun b hb he => by omega)⟩
  case rest =>
  obtain ⟨P, rfl, hb1, hp, hf⟩ := hcut.out
  clear hcut
  have HB1 := Lib.hid hb1
  have HF := Lib.hid hf
  have HP := Lib.hid hp
  clear hb1 hf hp
  go_upto_region 2 with (fail)
  go_cut [1, 2] (fun v1 v2 wx => Hid (CutA w v1 v2 wx))
  case first =>
    go_wp2_with (refine wpList_store_block rfl 76 _ _ rfl wc.heap.size 0 rfl (.agg (aCells (aGet 1 2)).toArray) rfl _ 76 (alloc_at wc _) ?hfit ?hinf ?hone ?_)
    case hinf => rw [show (Value.agg (aCells (aGet 1 2)).toArray).cells.size = 23 from rfl]; kernel_rfl
    case hfit => simp [Value.cells, aCells_len]
    case hone => intro u hu; exact aCells_one _ u (by simpa [Value.cells] using hu)
    intro w2 hbx f2
    rw [putAt_whole _ _ (by simp [aCells_len])] at hbx
    have f3 : Fr Non wc w2 := ((Fr.refl Non wc).alloc _).trans2 f2 (fun b hb he => by omega)
    have hlt := lt_of_block HB1.out
    go_wp2_with fail
    go_meet
    exact Lib.hid ⟨P, wc.heap.size, rfl, rfl, f3.heap HB1.out id, by simpa [Value.cells] using hbx, ⟨HP.out, hlt⟩, HF.out.trans f3⟩
  case rest =>
    clear HB1 HF HP
    obtain ⟨P, P2, rfl, rfl, hb1, hb2, hp, hf⟩ := hcut.out
    obtain ⟨cs1, hc1⟩ : ∃ cs, aCells aPut = cs := ⟨_, rfl⟩
    obtain ⟨cs2, hc2⟩ : ∃ cs, aCells (aGet 1 2) = cs := ⟨_, rfl⟩
    have n1 : cs1.length = 23 := by rw [← hc1]; rfl
    have n2 : cs2.length = 23 := by rw [← hc2]; rfl
    rw [hc1] at hb1
    rw [hc2] at hb2
    have HC1 := Lib.hid hc1
    have HC2 := Lib.hid hc2
    have HB1 := Lib.hid hb1
    have HB2 := Lib.hid hb2
    have HF := Lib.hid hf
    have HP := Lib.hid hp
    have LD1 := Lib.hid (box_load hb1 n1)
    have LD2 := Lib.hid (box_load hb2 n2)
    have hz1 : (List.foldl (fun (cs : Array Value) (x : Value × Nat) => cs.setIfInBounds x.2 x.1) #[.int .i64 0, .int .u64 0, .int .u64 0, .slice none 0 0, .int .i64 0, .int .u64 0, .slice none 0 0, .slice none 0 0, .int .i64 0, .int .i64 0, .int .u64 0, .int .i64 0, .int .u64 0, .int .i64 0, .int .i64 0, .int .u64 0, .int .i64 0, .int .u64 0, .bool false, .int .i64 0, .int .i64 0, .bool false, .bool false, .int .i64 0, .int .u64 0, .int .u64 0, .slice none 0 0, .int .i64 0, .int .u64 0, .slice none 0 0, .slice none 0 0, .int .i64 0, .int .i64 0, .int .u64 0, .int .i64 0, .int .u64 0, .int .i64 0, .int .i64 0, .int .u64 0, .int .i64 0, .int .u64 0, .bool false, .int .i64 0, .int .i64 0, .bool false, .bool false] cs1.zipIdx).size = 46 := by rw [fold_size]; rfl
    have ha : Sl kHap All (wc.alloc (.cells (cs1 ++ cs2).toArray 76)) (.slice (some ⟨wc.heap.size, 0, none⟩) 2 2) [aPut, aGet 1 2] := two_rows (alloc_at wc _) (by rw [← hc1]; exact aRd _ _ (.inl rfl)) (by rw [← hc2]; exact aRd _ _ (.inr (.inl rfl))) (Nat.le_refl _) (by unfold maxLen; omega)
    have HO1 := Lib.hid (order_of ha aOrder1)
    simp only at HO1
    clear hc1 hc2 hb1 hb2 hf hcut ha hp
    go_wp2_with (first | refine wpList_load_w 76 (.pointer (some ⟨P, 0, none⟩)) _ LD1.out _ rfl rfl (by rfl) ?_ | refine wpList_load_w 76 (.pointer (some ⟨P2, 0, none⟩)) _ LD2.out _ rfl rfl (by rfl) ?_)
    rw [fold_two n1 n2]
    clear hz1
    refine HO1.out.mono ?_
    rintro e w3 ⟨v3, rfl, hv3, f3⟩
    rcases id hv3 with ⟨_, h0⟩ | ⟨⟨b3, o3, sp3⟩, c3, rfl, _, _, hs3, he3⟩
    · cases h0
    obtain ⟨rfl, _⟩ := hs3 (by simp)
    have q30 : w3.cell? ⟨b3, o3, none⟩ = some (.int .i64 1) := by
      obtain ⟨cs, hr, hc⟩ := he3 0 (by simp)
      have e : cs = [.int .i64 1] := hr.1
      subst e
      have := hc 0 (by simp)
      simpa using this
    have q31 : w3.cell? ⟨b3, o3 + 1, none⟩ = some (.int .i64 0) := by
      obtain ⟨cs, hr, hc⟩ := he3 1 (by simp)
      have e : cs = [.int .i64 0] := hr.1
      subst e
      have := hc 0 (by simp)
      have hsz : kI.sz = 1 := rfl
      rw [hsz] at this
      simpa using this
    have F3 := Lib.hid (((Fr.refl Non wc).alloc (.cells (cs1 ++ cs2).toArray 76)).trans f3)
    have HS3 := Lib.hid (lt_of_block HB2.out)
    have B2 := F3.out.heap HB2.out id
    obtain ⟨qp, zp⟩ := box_facts B2
    have q19 : w3.cell? ⟨P2, 19, none⟩ = some cs2[19] := by rw [qp]; simp
    have q20 : w3.cell? ⟨P2, 20, none⟩ = some cs2[20] := by rw [qp]; simp
    have hne : ¬ b3 = P2 := by
      rintro rfl
      rw [qp, ← HC2.out] at q30 q31
      exact aCells_apart o3 (by simpa using q30) (by simpa using q31)
    have hne2 : ¬ P2 = b3 := fun h => hne h.symm
    clear qp hv3 hs3 he3
    have HB23 := Lib.hid B2
    clear f3 B2
    go_upto_region 5 with (fail)
    have FG := Lib.hid (((Fr.refl (fun b => b = P2) w3).setCell (p := ⟨P2, 19, none⟩) (.inl rfl) (.int .i64 4)).setCell (p := ⟨P2, 20, none⟩) (.inl rfl) (.int .i64 5))
    have g1 := heap_setCell_same _ P2 20 _ 76 (.int .i64 5) (heap_setCell_same w3 P2 19 _ 76 (.int .i64 4) HB23.out)
    generalize (w3.setCell ⟨P2, 19, none⟩ (.int .i64 4)).setCell ⟨P2, 20, none⟩ (.int .i64 5) = w4 at FG g1 ⊢
    have r30 := FG.out.cell q30 hne
    have r31 := FG.out.cell q31 hne
    obtain ⟨cs3, hc3⟩ : ∃ cs, (cs2.set 19 (.int .i64 4)).set 20 (.int .i64 5) = cs := ⟨_, rfl⟩
    have n3 : cs3.length = 23 := by rw [← hc3]; simp [n2]
    have g2 : w4.heap[P2]? = some (.cells cs3.toArray 76 (0, 0)) := by rw [g1, ← hc3]; simp
    have hc4 : aCells (aGet 4 5) = cs3 := by rw [← hc3, ← HC2.out]; exact aCells_set.symm
    have F4 := Lib.hid ((HF.out.trans F3.out).trans2 FG.out (fun b hb he => by have := HP.out; omega))
    have LD3 := Lib.hid (box_load (FG.out.heap (F3.out.heap HB1.out id) (by have := HP.out; omega)) n1)
    have LD4 := Lib.hid (box_load g2 n3)
    have hz1 : (List.foldl (fun (cs : Array Value) (x : Value × Nat) => cs.setIfInBounds x.2 x.1) #[.int .i64 0, .int .u64 0, .int .u64 0, .slice none 0 0, .int .i64 0, .int .u64 0, .slice none 0 0, .slice none 0 0, .int .i64 0, .int .i64 0, .int .u64 0, .int .i64 0, .int .u64 0, .int .i64 0, .int .i64 0, .int .u64 0, .int .i64 0, .int .u64 0, .bool false, .int .i64 0, .int .i64 0, .bool false, .bool false, .int .i64 0, .int .u64 0, .int .u64 0, .slice none 0 0, .int .i64 0, .int .u64 0, .slice none 0 0, .slice none 0 0, .int .i64 0, .int .i64 0, .int .u64 0, .int .i64 0, .int .u64 0, .int .i64 0, .int .i64 0, .int .u64 0, .int .i64 0, .int .u64 0, .bool false, .int .i64 0, .int .i64 0, .bool false, .bool false] cs1.zipIdx).size = 46 := by rw [fold_size]; rfl
    have ha : Sl kHap All (w4.alloc (.cells (cs1 ++ cs3).toArray 76)) (.slice (some ⟨w4.heap.size, 0, none⟩) 2 2) [aPut, aGet 4 5] := two_rows (alloc_at w4 _) (by rw [← HC1.out]; exact aRd _ _ (.inl rfl)) (by rw [← hc4]; exact aRd _ _ (.inr (.inr rfl))) (Nat.le_refl _) (by unfold maxLen; omega)
    have HO2 := Lib.hid (order_of ha aOrder2)
    simp only at HO2
    clear hc3 hc4 g1 g2 ha q30 q31 q19 q20 zp LD1 LD2 HB23 HO1 hne hne2
    have HV := Lib.hid (And.intro r30 r31)
    clear r30 r31
    go_wp2_with (first | refine wpList_load_w 76 (.pointer (some ⟨P, 0, none⟩)) _ LD3.out _ rfl rfl (by rfl) ?_ | refine wpList_load_w 76 (.pointer (some ⟨P2, 0, none⟩)) _ LD4.out _ rfl rfl (by rfl) ?_)
    rw [fold_two n1 n3]
    clear hz1
    refine HO2.out.mono ?_
    rintro e w5 ⟨v5, rfl, hv5, f5⟩
    rcases id hv5 with ⟨rfl, _⟩ | ⟨a5, c5, rfl, _⟩
    all_goals
      have F5 := Lib.hid (F4.out.trans (((Fr.refl Non w4).alloc (.cells (cs1 ++ cs3).toArray 76)).trans f5))
      obtain ⟨r30, r31⟩ := HV.out
      have t30 := f5.cell ((((Fr.refl Non w4).alloc (.cells (cs1 ++ cs3).toArray 76)).cell r30 id)) id
      have t31 := f5.cell ((((Fr.refl Non w4).alloc (.cells (cs1 ++ cs3).toArray 76)).cell r31 id)) id
      clear r30 r31 f5 hv5
      go_wp2_with fail
      go_ret
      exact ⟨by rfl, F5.out⟩
end Go.Proofs.Ytplhcfaonhkegaa
