/-
  Net: how a network lies in memory; Put.
-/
import Derived.Test.YtkmpmibjenodlaaN1
namespace Go.Proofs.Ytkmpmibjenodlaa
open Go.RowKit Go.Maps

def pcs (p : Parcel) (v : Value) : List Value := [.bool p.fa, .int .i64 p.fn, .bool p.ta, .int .i64 p.tn, v]
def rowOf : List Parcel → List Value → List Value
  | p :: l, v :: vs => pcs p v ++ rowOf l vs
  | _, _ => []
theorem rowOf_append : ∀ {l : List Parcel} {vs : List Value} (m : List Parcel) (us : List Value), l.length = vs.length → rowOf (l ++ m) (vs ++ us) = rowOf l vs ++ rowOf m us
  | [], [], m, us, _ => rfl
  | p :: l, v :: vs, m, us, h => by simp [rowOf, rowOf_append (l := l) (vs := vs) m us (by simpa using h)]

/-- Each parcel's bytes lie in a row of their own. -/
def Bytes (w : World) : List Parcel → List Value → Prop
  | [], [] => True
  | p :: l, v :: vs => GRow w 5 1 v p.b.length (bcs p.b) ∧ Bytes w l vs
  | _, _ => False
theorem Bytes.len {w : World} : ∀ {l : List Parcel} {vs : List Value}, Bytes w l vs → l.length = vs.length
  | [], [], _ => rfl
  | p :: l, v :: vs, h => by simp [Bytes.len h.2]
theorem Bytes.append {w : World} : ∀ {l : List Parcel} {vs : List Value} {m : List Parcel} {us : List Value}, Bytes w l vs → Bytes w m us → Bytes w (l ++ m) (vs ++ us)
  | [], [], _, _, _, h => h
  | p :: l, v :: vs, _, _, h, h' => ⟨h.1, Bytes.append h.2 h'⟩
theorem Bytes.keep {w w' : World} : ∀ {l : List Parcel} {vs : List Value}, Bytes w l vs → (∀ b ∈ vs.filterMap Value.ownBlock, w'.heap[b]? = w.heap[b]?) → Bytes w' l vs
  | [], [], _, _ => trivial
  | p :: l, v :: vs, h, hk => ⟨h.1.keep fun k hv => hk k (by simp [hv]), h.2.keep fun b hb => hk b (List.mem_filterMap.2 (by
      obtain ⟨a, h1, h2⟩ := List.mem_filterMap.1 hb; exact ⟨a, List.mem_cons_of_mem _ h1, h2⟩))⟩
theorem Bytes.lt {w : World} : ∀ {l : List Parcel} {vs : List Value}, Bytes w l vs → ∀ b ∈ vs.filterMap Value.ownBlock, b < w.heap.size
  | [], [], _, b, hb => by simp at hb
  | p :: l, v :: vs, h, b, hb => by
    obtain ⟨a, h1, h2⟩ := List.mem_filterMap.1 hb
    rcases List.mem_cons.1 h1 with rfl | h1
    · exact h.1.lt b h2
    · exact Bytes.lt h.2 b (List.mem_filterMap.2 ⟨a, h1, h2⟩)

structure NetSt where
  l : List Parcel
  c : Int → Int

/-- All blocks of a network. -/
def netFp (bn bm : Nat) (lv : Value) (vs : List Value) : List Nat := bn :: bm :: (lv :: vs).filterMap Value.ownBlock

structure NetAt (w : World) (bn bm : Nat) (lv : Value) (vs : List Value) (k : Nat) (st : NetSt) : Prop where
  cell : w.heap[bn]? = some (.cells #[lv, .map (some bm)] 58 (0, 0))
  map : MapI Try.prog 64 3 w bm k st.c
  row : GRow w 30 5 lv st.l.length (rowOf st.l vs)
  bytes : Bytes w st.l vs
  nd : (netFp bn bm lv vs).Nodup
  small : k ≤ 1000000
  full : st.l.length ≤ 4096
  cb : ∀ j, 0 ≤ st.c j ∧ st.c j ≤ 5000 * k

theorem NetAt.lt {w : World} {bn bm : Nat} {lv : Value} {vs : List Value} {k : Nat} {st : NetSt} (h : NetAt w bn bm lv vs k st) : ∀ b ∈ netFp bn bm lv vs, b < w.heap.size := by
  intro b hb
  simp only [netFp, List.mem_cons] at hb
  rcases hb with rfl | rfl | hb
  · exact lt_of_block h.cell
  · exact h.map.lt
  · obtain ⟨a, h1, h2⟩ := List.mem_filterMap.1 hb
    rcases List.mem_cons.1 h1 with rfl | h1
    · exact h.row.lt b h2
    · exact h.bytes.lt b (List.mem_filterMap.2 ⟨a, h1, h2⟩)

theorem NetAt.keep {w w' : World} {bn bm : Nat} {lv : Value} {vs : List Value} {k : Nat} {st : NetSt} (h : NetAt w bn bm lv vs k st) (hk : ∀ b ∈ netFp bn bm lv vs, w'.heap[b]? = w.heap[b]?) : NetAt w' bn bm lv vs k st where
  cell := by rw [hk bn (by simp [netFp])]; exact h.cell
  map := h.map.keep (hk bm (by simp [netFp]))
  row := h.row.keep fun b hb => hk b (by simp [netFp, hb])
  bytes := h.bytes.keep fun b hb => hk b (by
    obtain ⟨a, h1, h2⟩ := List.mem_filterMap.1 hb
    simp only [netFp, List.mem_cons]
    exact .inr (.inr (List.mem_filterMap.2 ⟨a, List.mem_cons_of_mem _ h1, h2⟩)))
  nd := h.nd
  small := h.small
  full := h.full
  cb := h.cb

theorem NetAt.fr {T : Nat → Prop} {w w' : World} {bn bm : Nat} {lv : Value} {vs : List Value} {k : Nat} {st : NetSt} (h : NetAt w bn bm lv vs k st) (hf : Fr T w w') (hT : ∀ b ∈ netFp bn bm lv vs, ¬ T b) : NetAt w' bn bm lv vs k st :=
  h.keep fun b hb => hf.block b (h.lt b hb) (hT b hb)

/-- What an act leaves: the network as said, nothing else touched. -/
def NetPost (w : World) (bn bm : Nat) (lv : Value) (vs : List Value) (k : Nat) (st' : NetSt) (w' : World) : Prop :=
  Fr (fun b => b ∈ netFp bn bm lv vs) w w' ∧ ∃ lv' vs', NetAt w' bn bm lv' vs' k st' ∧ ∀ b ∈ netFp bn bm lv' vs', b ∈ netFp bn bm lv vs ∨ w.heap.size ≤ b

end Go.Proofs.Ytkmpmibjenodlaa
