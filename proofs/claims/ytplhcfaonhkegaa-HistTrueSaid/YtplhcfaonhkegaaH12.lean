/-
  A history as plain data: what is noted, by calls, replies and kills.
-/
import Derived.Test.YtplhcfaonhkegaaH0
namespace Go.Proofs.Ytplhcfaonhkegaa

/-- One that is noted: its number, whether it is a kill, what happened. -/
abbrev MNot := Int × (Bool × MHap)
def nOpen (id : Int) (x : MNot) : Bool := (!x.2.1 && decide (x.1 = id)) && x.2.2.2.2.2.2.1
def hOpenAt (id : Int) (L : List MNot) : Option Nat := L.findIdx? (nOpen id)
def hOpens : List MNot → List Int
  | [] => []
  | x :: L => if x.2.2.2.2.2.2.1 then x.1 :: hOpens L else hOpens L
def hAll (L : List MNot) : List MHap := L.map fun x => x.2.2
def hNote (id : Int) (c : MCall) (n : Int) : MNot := (id, false, (c, mErr 0, n, 0, true, false))
def hKillNote (key n : Int) (sure : Bool) : MNot := (0, true, ((2, key, 0, []), mErr 0, n, n, false, !sure))
def hFree (k e : Int) : Bool := if e = 0 ∨ e = 121 then false else (decide (k = 1) && !decide (e = 100)) || (decide (k = 2) && !decide (e = 101))
def hReplied (x : MNot) (r : MRes) (n : Int) : MNot := (x.1, x.2.1, (x.2.2.1, r, x.2.2.2.2.1, n, false, hFree x.2.2.1.1 r.1))
abbrev MHist := Nat × List MNot
def hCall (s : MHist) (id : Int) (c : MCall) : Int × MHist :=
  match hOpenAt id s.2 with
  | some _ => (220, s)
  | none => if mCallOk c then (if 65536 ≤ s.1 then (3, s) else (0, s.1 + 1, s.2 ++ [hNote id c s.1])) else (104, s)
def hReply (s : MHist) (id : Int) (r : MRes) : Int × MHist :=
  match hOpenAt id s.2 with
  | none => (220, s)
  | some i => if 65536 ≤ s.1 then (3, s) else (0, s.1 + 1, s.2.modify i fun x => hReplied x r s.1)
def hKill (s : MHist) (key : Int) (sure : Bool) : Int × MHist :=
  if 65536 ≤ s.1 then (3, s) else (0, s.1 + 1, s.2 ++ [hKillNote key s.1 sure])

/-- What holds of every history. -/
structure HistOk (s : MHist) : Prop where
  len : s.2.length ≤ s.1
  most : s.1 ≤ 65536
  kills : ∀ x ∈ s.2, x.2.2.2.2.2.2.1 = true → x.2.1 = false
  once : (hOpens s.2).Nodup

theorem hOpens_append : ∀ (A B : List MNot), hOpens (A ++ B) = hOpens A ++ hOpens B
  | [], _ => rfl
  | x :: A, B => by
    have ih := hOpens_append A B
    by_cases h : x.2.2.2.2.2.2.1 = true <;> simp only [List.cons_append, hOpens, h, ih, if_true, if_false, Bool.false_eq_true]
theorem mem_hOpens {id : Int} : ∀ {L : List MNot}, id ∈ hOpens L ↔ ∃ x ∈ L, x.2.2.2.2.2.2.1 = true ∧ x.1 = id
  | [] => by simp [hOpens]
  | x :: L => by
    have ih := mem_hOpens (id := id) (L := L)
    by_cases h : x.2.2.2.2.2.2.1 = true
    · simp only [hOpens, h, if_true, List.mem_cons, ih]
      constructor
      · rintro (rfl | ⟨y, hy, h1, h2⟩)
        · exact ⟨x, .inl rfl, h, rfl⟩
        · exact ⟨y, .inr hy, h1, h2⟩
      · rintro ⟨y, rfl | hy, h1, h2⟩
        · exact .inl h2.symm
        · exact .inr ⟨y, hy, h1, h2⟩
    · simp only [hOpens, h, if_false, List.mem_cons, ih, Bool.false_eq_true]
      constructor
      · rintro ⟨y, hy, h1, h2⟩
        exact ⟨y, .inr hy, h1, h2⟩
      · rintro ⟨y, rfl | hy, h1, h2⟩
        · exact absurd h1 h
        · exact ⟨y, hy, h1, h2⟩
theorem hOpens_len : ∀ (L : List MNot), (hOpens L).length ≤ L.length
  | [] => by simp [hOpens]
  | x :: L => by
    have := hOpens_len L
    by_cases h : x.2.2.2.2.2.2.1 = true <;> simp [hOpens, h] <;> omega
theorem nOpen_iff {id : Int} {x : MNot} : nOpen id x = true ↔ x.2.1 = false ∧ x.1 = id ∧ x.2.2.2.2.2.2.1 = true := by
  unfold nOpen
  simp [and_assoc]
/-- Where an open call is, the row parts. -/
theorem openAt_some {id : Int} {i : Nat} : ∀ {L : List MNot}, hOpenAt id L = some i → ∃ A x B, L = A ++ x :: B ∧ A.length = i ∧ nOpen id x = true ∧ ∀ a ∈ A, nOpen id a = false := by
  intro L h
  unfold hOpenAt at h
  rw [List.findIdx?_eq_some_iff_getElem] at h
  obtain ⟨hi, h1, h2⟩ := h
  refine ⟨L.take i, L[i], L.drop (i + 1), ?_, by rw [List.length_take]; omega, h1, ?_⟩
  · rw [List.getElem_cons_drop, List.take_append_drop]
  · intro a ha
    obtain ⟨j, hj, rfl⟩ := List.getElem_of_mem ha
    rw [List.getElem_take]
    rw [List.length_take] at hj
    have := h2 j (by omega)
    simpa using this
theorem openAt_none {id : Int} {L : List MNot} : hOpenAt id L = none ↔ ∀ x ∈ L, nOpen id x = false := by
  unfold hOpenAt
  rw [List.findIdx?_eq_none_iff]
  
theorem openAt_append {id : Int} (A : List MNot) (x : MNot) : hOpenAt id (A ++ [x]) = (match hOpenAt id A with | some i => some i | none => if nOpen id x then some A.length else none) := by
  unfold hOpenAt
  rw [List.findIdx?_append]
  cases h : List.findIdx? (nOpen id) A <;> by_cases hx : nOpen id x = true <;> simp [List.findIdx?_cons, hx]
theorem openAt_mid {id : Int} (A B : List MNot) (x y : MNot) (hx : nOpen id x = false) (hy : nOpen id y = false) : hOpenAt id (A ++ x :: B) = hOpenAt id (A ++ y :: B) := by
  unfold hOpenAt
  rw [List.findIdx?_append, List.findIdx?_append, List.findIdx?_cons, List.findIdx?_cons, hx, hy]
/-- Where no call of a number is open, it is not among the open ones. -/
theorem opens_none {id : Int} {L : List MNot} (hk : ∀ x ∈ L, x.2.2.2.2.2.2.1 = true → x.2.1 = false) : hOpenAt id L = none ↔ id ∉ hOpens L := by
  rw [openAt_none, mem_hOpens]
  constructor
  · rintro h ⟨x, hx, h1, h2⟩
    have := h x hx
    rw [nOpen_iff.2 ⟨hk x hx h1, h2, h1⟩] at this
    cases this
  · intro h x hx
    cases hn : nOpen id x with
    | false => rfl
    | true => obtain ⟨_, h2, h3⟩ := nOpen_iff.1 hn; exact absurd ⟨x, hx, h3, h2⟩ h

theorem HistOk.nil : HistOk (0, []) := ⟨by simp, by simp, by simp, by simp [hOpens]⟩
theorem HistOk.call {s : MHist} (h : HistOk s) (id : Int) (c : MCall) : HistOk (hCall s id c).2 := by
  unfold hCall
  split
  · exact h
  · rename_i hn
    split
    · split
      · exact h
      · refine ⟨by have := h.len; simp; omega, by simp; omega, ?_, ?_⟩
        · intro x hx
          rcases List.mem_append.1 hx with hx | hx
          · exact h.kills x hx
          · simp at hx; subst hx; intro _; rfl
        · rw [hOpens_append]
          have := (opens_none h.kills).1 hn
          rw [List.nodup_append]
          refine ⟨h.once, by simp [hOpens, hNote], ?_⟩
          intro a ha b hb e
          simp [hOpens, hNote] at hb
          subst hb e
          exact this ha
    · exact h
theorem modify_mid {α : Type} (f : α → α) (A B : List α) (x : α) : (A ++ x :: B).modify A.length f = A ++ f x :: B := by
  induction A with
  | nil => simp [List.modify]
  | cons a A ih => simpa [List.modify] using ih
theorem hReply_parts {s : MHist} (h : HistOk s) {id : Int} {i : Nat} (hi : hOpenAt id s.2 = some i) (r : MRes) (n : Int) : ∃ A x B, s.2 = A ++ x :: B ∧ A.length = i ∧ nOpen id x = true ∧ (s.2.modify i fun x => hReplied x r n) = A ++ hReplied x r n :: B ∧
    id ∉ hOpens A ∧ id ∉ hOpens B ∧ hOpens s.2 = hOpens A ++ id :: hOpens B ∧ hOpens (A ++ hReplied x r n :: B) = hOpens A ++ hOpens B := by
  obtain ⟨A, x, B, e, rfl, hx, _⟩ := openAt_some hi
  obtain ⟨_, h2, h3⟩ := nOpen_iff.1 hx
  have e1 : hOpens s.2 = hOpens A ++ id :: hOpens B := by rw [e, hOpens_append]; simp [hOpens, h3, h2]
  have hno := h.once
  rw [e1, List.nodup_append] at hno
  refine ⟨A, x, B, e, rfl, hx, by rw [e, modify_mid], ?_, ?_, e1, by rw [hOpens_append]; simp [hOpens, hReplied]⟩
  · intro ha
    exact hno.2.2 id ha id (by simp) rfl
  · intro hb
    have := hno.2.1
    simp at this
    exact this.1 hb
theorem HistOk.reply {s : MHist} (h : HistOk s) (id : Int) (r : MRes) : HistOk (hReply s id r).2 := by
  unfold hReply
  split
  · exact h
  · rename_i i hi
    split
    · exact h
    · obtain ⟨A, x, B, e, hA, hx, e2, h1, h2, e3, e4⟩ := hReply_parts h hi r s.1
      refine ⟨by have := h.len; simp; omega, by simp; omega, ?_, ?_⟩
      · simp only [e2]
        intro y hy
        have hk := h.kills y
        rw [e] at hk
        simp only [List.mem_append, List.mem_cons] at hy hk
        rcases hy with hy | rfl | hy
        · exact hk (.inl hy)
        · simp [hReplied]
        · exact hk (.inr (.inr hy))
      · simp only [e2, e4]
        have hno := h.once
        rw [e3, List.nodup_append] at hno
        rw [List.nodup_append]
        obtain ⟨n1, n2, n3⟩ := hno
        exact ⟨n1, (List.nodup_cons.1 n2).2, fun a ha b hb => n3 a ha b (List.mem_cons_of_mem _ hb)⟩
theorem HistOk.kill {s : MHist} (h : HistOk s) (key : Int) (sure : Bool) : HistOk (hKill s key sure).2 := by
  unfold hKill
  split
  · exact h
  · refine ⟨by have := h.len; simp; omega, by simp; omega, ?_, ?_⟩
    · intro x hx
      rcases List.mem_append.1 hx with hx | hx
      · exact h.kills x hx
      · simp at hx; subst hx; simp [hKillNote]
    · rw [hOpens_append]
      simpa [hOpens, hKillNote] using h.once
/-- The open calls by their numbers, behind a call, a reply, a kill. -/
def hMap (L : List MNot) (id : Int) : Option Int := (hOpenAt id L).map fun n => (n : Int)
theorem hMap_call {s : MHist} {id : Int} (hn : hOpenAt id s.2 = none) (c : MCall) (n : Int) : hMap (s.2 ++ [hNote id c n]) = fun i => if i = id then some (s.2.length : Int) else hMap s.2 i := by
  funext i
  unfold hMap
  rw [openAt_append]
  by_cases h : i = id
  · subst h
    rw [hn]
    simp [nOpen, hNote]
  · rw [if_neg h]
    have : nOpen i (hNote id c n) = false := by simp [nOpen, hNote, Ne.symm h]
    rw [this]
    cases hOpenAt i s.2 <;> rfl
theorem hMap_kill (L : List MNot) (key n : Int) (sure : Bool) : hMap (L ++ [hKillNote key n sure]) = hMap L := by
  funext i
  unfold hMap
  rw [openAt_append]
  have : nOpen i (hKillNote key n sure) = false := by simp [nOpen, hKillNote]
  rw [this]
  cases hOpenAt i L <;> rfl
theorem hMap_reply {s : MHist} (h : HistOk s) {id : Int} {i : Nat} (hi : hOpenAt id s.2 = some i) (r : MRes) (n : Int) : hMap (s.2.modify i fun x => hReplied x r n) = fun j => if j = id then none else hMap s.2 j := by
  obtain ⟨A, x, B, e, hA, hx, e2, h1, h2, e3, e4⟩ := hReply_parts h hi r n
  have hk : ∀ y ∈ A ++ hReplied x r n :: B, y.2.2.2.2.2.2.1 = true → y.2.1 = false := by
    intro y hy
    have hk := h.kills y
    rw [e] at hk
    simp only [List.mem_append, List.mem_cons] at hy hk
    rcases hy with hy | rfl | hy
    · exact hk (.inl hy)
    · simp [hReplied]
    · exact hk (.inr (.inr hy))
  funext j
  rw [e2]
  unfold hMap
  by_cases hj : j = id
  · subst hj
    rw [if_pos rfl]
    have : hOpenAt j (A ++ hReplied x r n :: B) = none := (opens_none hk).2 (by rw [e4]; simp [h1, h2])
    rw [this]; rfl
  · rw [if_neg hj, e, openAt_mid (id := j) A B (hReplied x r n) x (by simp [nOpen, hReplied]) ?_]
    obtain ⟨_, h4, _⟩ := nOpen_iff.1 hx
    cases hq : nOpen j x with
    | false => rfl
    | true => obtain ⟨_, h5, _⟩ := nOpen_iff.1 hq; exact absurd (h5.symm.trans h4) hj
theorem hOpens_reply {s : MHist} (h : HistOk s) {id : Int} {i : Nat} (hi : hOpenAt id s.2 = some i) (r : MRes) (n : Int) : hOpens (s.2.modify i fun x => hReplied x r n) = (hOpens s.2).filter fun j => !decide (j = id) := by
  obtain ⟨A, x, B, e, hA, hx, e2, h1, h2, e3, e4⟩ := hReply_parts h hi r n
  have hf : ∀ l : List Int, id ∉ l → (l.filter fun j => !decide (j = id)) = l := by
    intro l hl
    rw [List.filter_eq_self]
    intro a ha
    have : a ≠ id := by rintro rfl; exact hl ha
    simp [this]
  rw [e2, e4, e3, List.filter_append, List.filter_cons, hf _ h1, hf _ h2]
  simp
theorem hAll_modify (L : List MNot) (i : Nat) (r : MRes) (n : Int) : hAll (L.modify i fun x => hReplied x r n) = (hAll L).modify i fun x => (x.1, r, x.2.2.1, n, false, hFree x.1.1 r.1) := by
  unfold hAll
  apply List.ext_getElem?
  intro j
  simp only [List.getElem?_map, List.getElem?_modify]
  cases L[j]? <;> simp only [Option.map_none, Option.map_some] <;> split <;> rfl
end Go.Proofs.Ytplhcfaonhkegaa
