/-
  A library of readings: what a row of cells holds, as plain data, with the blocks that the reading passes through.
-/
import Derived.WalkKit
import Derived.WalkSpells
import Derived.WalkLawsBesides
import Derived.Deep.Slices
import Derived.Lib.Hide
namespace Go.Proofs.Ytplhcfaonhkegaa
open Go.RowKit

/-- Every block that is old and lies outside T is as it was. -/
structure Fr (T : Nat → Prop) (w w' : World) : Prop where
  os : w'.os = w.os
  tape : w'.tape = w.tape
  output : w'.output = w.output
  size : w.heap.size ≤ w'.heap.size
  block : ∀ k, k < w.heap.size → ¬ T k → w'.heap[k]? = w.heap[k]?

def Non : Nat → Prop := fun _ => False

theorem Fr.refl (T : Nat → Prop) (w : World) : Fr T w w := ⟨rfl, rfl, rfl, Nat.le_refl _, fun _ _ _ => rfl⟩
theorem Fr.mono {T T' : Nat → Prop} {w w' : World} (h : Fr T w w') (hT : ∀ k, k < w.heap.size → T k → T' k) : Fr T' w w' :=
  ⟨h.os, h.tape, h.output, h.size, fun k hk hn => h.block k hk (fun ht => hn (hT k hk ht))⟩
theorem Fr.trans {T : Nat → Prop} {a b c : World} (h : Fr T a b) (h' : Fr T b c) : Fr T a c :=
  ⟨h'.os.trans h.os, h'.tape.trans h.tape, h'.output.trans h.output, Nat.le_trans h.size h'.size,
    fun k hk hn => (h'.block k (Nat.lt_of_lt_of_le hk h.size) hn).trans (h.block k hk hn)⟩
/-- The second step may touch new blocks of the first, too. -/
theorem Fr.trans2 {T U : Nat → Prop} {a b c : World} (h : Fr T a b) (h' : Fr U b c) (hU : ∀ k, k < a.heap.size → U k → T k) : Fr T a c :=
  ⟨h'.os.trans h.os, h'.tape.trans h.tape, h'.output.trans h.output, Nat.le_trans h.size h'.size,
    fun k hk hn => (h'.block k (Nat.lt_of_lt_of_le hk h.size) (fun hu => hn (hU k hk hu))).trans (h.block k hk hn)⟩
theorem Fr.of_below {B : Nat} {w w' : World} (h : Below B w w') : Fr (fun k => B ≤ k) w w' :=
  ⟨h.os, h.tape, h.output, h.size, fun k _ hn => h.block k (by omega)⟩
theorem Fr.below {T : Nat → Prop} {B : Nat} {w w' : World} (h : Fr T w w') (hB : B ≤ w.heap.size) (hT : ∀ k, T k → B ≤ k) : Below B w w' :=
  ⟨h.os, h.tape, h.output, h.size, fun k hk => h.block k (by omega) (fun ht => by have := hT k ht; omega)⟩
theorem Fr.of_grown {w w' : World} {row : Option Nat} (h : w.grownBy w' row) : Fr (fun k => some k = row) w w' :=
  ⟨h.os, h.tape, h.output, h.size, fun k hk hn => h.block k hk hn⟩
theorem Fr.alloc {T : Nat → Prop} {a w : World} (h : Fr T a w) (o : Obj) : Fr T a (w.alloc o) :=
  h.trans ⟨rfl, rfl, rfl, by simp, fun k hk _ => Below.heap_alloc _ _ _ hk⟩
theorem Fr.drew {T : Nat → Prop} {a w : World} (h : Fr T a w) : Fr T a w.drew := ⟨h.os, h.tape, h.output, h.size, h.block⟩
theorem Fr.drewN {T : Nat → Prop} {a w : World} (h : Fr T a w) (n : Nat) : Fr T a (w.drewN n) := ⟨h.os, h.tape, h.output, h.size, h.block⟩
theorem Fr.of_drew {T : Nat → Prop} {a w : World} (h : Fr T a.drew w) : Fr T a w := ⟨h.os, h.tape, h.output, h.size, h.block⟩
theorem Fr.setCell {T : Nat → Prop} {a w : World} (h : Fr T a w) {p : Addr} (hp : T p.block ∨ a.heap.size ≤ p.block) (u : Value) : Fr T a (w.setCell p u) :=
  ⟨h.os, h.tape, h.output, by simpa [World.setCell] using h.size, fun k hk hn => by
    rw [Below.heap_setCell _ _ _ _ (by rintro rfl; rcases hp with hp | hp; exact hn hp; omega)]
    exact h.block k hk hn⟩
theorem Fr.cell {T : Nat → Prop} {w w' : World} (h : Fr T w w') {p : Addr} {v : Value} (hc : w.cell? p = some v) (hT : ¬ T p.block) : w'.cell? p = some v := by
  rw [World.cell?_of_block (w := w) (h.block p.block (World.block_lt_of_cell? w _ hc) hT)]; exact hc
theorem Fr.heap {T : Nat → Prop} {w w' : World} (h : Fr T w w') {b : Nat} {o : Obj} (hc : w.heap[b]? = some o) (hT : ¬ T b) : w'.heap[b]? = some o := by
  rw [h.block b (lt_of_block hc) hT]; exact hc
theorem Fr.frozen {T : Nat → Prop} {w w' : World} (h : Fr T w w') {p : Addr} (hp : p.block < w.heap.size) (hT : ¬ T p.block) : w'.frozen? p = w.frozen? p :=
  World.frozen?_of_block (w := w) (h.block p.block hp hT)

/-- A block known whole, as the walk uses it. -/
theorem box_facts {w : World} {b : Nat} {cs : Array Value} {t : TypeId} (h : w.heap[b]? = some (.cells cs t (0, 0))) :
    (∀ j, w.cell? ⟨b, j, none⟩ = cs[j]?) ∧ (∀ j, w.frozen? ⟨b, j, none⟩ = false) :=
  ⟨fun j => cell_of_row w b j cs t (0, 0) h, fun j => frozen_of_row w b j cs t h⟩
theorem Fr.box {T : Nat → Prop} {w w' : World} (h : Fr T w w') {b : Nat} {cs : Array Value} {t : TypeId} (hc : w.heap[b]? = some (.cells cs t (0, 0))) (hT : ¬ T b) :
    (∀ j, w'.cell? ⟨b, j, none⟩ = cs[j]?) ∧ (∀ j, w'.frozen? ⟨b, j, none⟩ = false) := box_facts (h.heap hc hT)
theorem alloc_at (w : World) (o : Obj) : (w.alloc o).heap[w.heap.size]? = some o := heap_alloc_new w o
theorem alloc_at2 (w : World) (o o' : Obj) : ((w.alloc o).alloc o').heap[w.heap.size]? = some o := by
  rw [Below.heap_alloc _ _ _ (by simp)]; exact heap_alloc_new w o
theorem alloc_at2' (w : World) (o o' : Obj) : ((w.alloc o).alloc o').heap[w.heap.size + 1]? = some o' := by
  have := heap_alloc_new (w.alloc o) o'; simpa using this

/-- How data of a kind lie in cells. -/
structure Kd (α : Type) where
  sz : Nat
  rd : (Nat → Prop) → World → List Value → α → Prop
  len : ∀ {S w cs x}, rd S w cs x → cs.length = sz
  pos : 0 < sz
  one : ∀ {S w cs x}, rd S w cs x → ∀ v ∈ cs, v.oneCell' = true
  fr : ∀ {S S' : Nat → Prop} {w w' : World} {cs x}, rd S w cs x → (∀ b, b < w.heap.size → S b → w'.heap[b]? = w.heap[b]?) → (∀ b, b < w.heap.size → S b → S' b) → rd S' w' cs x

theorem Kd.frame {α : Type} (k : Kd α) {S T : Nat → Prop} {w w' : World} {cs : List Value} {x : α} (h : k.rd S w cs x) (hf : Fr T w w') (hd : ∀ b, b < w.heap.size → S b → ¬ T b) : k.rd S w' cs x :=
  k.fr h (fun b hb hs => hf.block b hb (hd b hb hs)) (fun _ _ h => h)
theorem Kd.mono {α : Type} (k : Kd α) {S S' : Nat → Prop} {w : World} {cs : List Value} {x : α} (h : k.rd S w cs x) (hS : ∀ b, b < w.heap.size → S b → S' b) : k.rd S' w cs x :=
  k.fr h (fun _ _ _ => rfl) hS

def kInt (q : IntKind) : Kd Int where
  sz := 1
  rd _ _ cs x := cs = [.int q x] ∧ (Lit.int q x).wf = true
  len h := by rw [h.1]; rfl
  pos := Nat.one_pos
  one h v hv := by rw [h.1] at hv; simp at hv; subst hv; rfl
  fr h _ _ := h

def kBool : Kd Bool where
  sz := 1
  rd _ _ cs x := cs = [.bool x]
  len h := by rw [h]; rfl
  pos := Nat.one_pos
  one h v hv := by rw [h] at hv; simp at hv; subst hv; rfl
  fr h _ _ := h

def kByte : Kd UInt8 where
  sz := 1
  rd _ _ cs x := cs = [.int .u8 (x.toNat : Int)]
  len h := by rw [h]; rfl
  pos := Nat.one_pos
  one h v hv := by rw [h] at hv; simp at hv; subst hv; rfl
  fr h _ _ := h

def kStr : Kd ByteArray where
  sz := 1
  rd _ _ cs x := cs = [.string x] ∧ x.size ≤ maxLen
  len h := by rw [h.1]; rfl
  pos := Nat.one_pos
  one h v hv := by rw [h.1] at hv; simp at hv; subst hv; rfl
  fr h _ _ := h

/-- The elements from an address on. -/
def Elems {α : Type} (k : Kd α) (S : Nat → Prop) (w : World) (b o : Nat) (l : List α) : Prop :=
  ∀ i (h : i < l.length), ∃ cs, k.rd S w cs l[i] ∧ ∀ j (hj : j < cs.length), w.cell? ⟨b, o + i * k.sz + j, none⟩ = some cs[j]

theorem Elems.fr {α : Type} {k : Kd α} {S S' : Nat → Prop} {w w' : World} {b o : Nat} {l : List α} (h : Elems k S w b o l) (hb : l ≠ [] → S b)
    (h1 : ∀ b, b < w.heap.size → S b → w'.heap[b]? = w.heap[b]?) (h2 : ∀ b, b < w.heap.size → S b → S' b) : Elems k S' w' b o l := by
  intro i hi
  obtain ⟨cs, hr, hc⟩ := h i hi
  refine ⟨cs, k.fr hr h1 h2, fun j hj => ?_⟩
  have := hc j hj
  rw [World.cell?_of_block (w := w) (h1 b (World.block_lt_of_cell? w _ this) (hb (by intro e; subst e; simp at hi)))]
  exact this

theorem Elems.lt {α : Type} {k : Kd α} {S : Nat → Prop} {w : World} {b o : Nat} {l : List α} (h : Elems k S w b o l) (hn : l ≠ []) : b < w.heap.size := by
  cases l with
  | nil => exact absurd rfl hn
  | cons x xs =>
    obtain ⟨cs, hr, hc⟩ := h 0 (by simp)
    exact World.block_lt_of_cell? w _ (hc 0 (by have := k.len hr; have := k.pos; omega))

/-- A slice value that reads as a list. -/
def Sl {α : Type} (k : Kd α) (S : Nat → Prop) (w : World) (v : Value) (l : List α) : Prop :=
  (v = .slice none 0 0 ∧ l = []) ∨
  ∃ a c, v = .slice (some a) l.length c ∧ l.length ≤ c ∧ c ≤ maxLen ∧ (l ≠ [] → a.spot = none ∧ S a.block) ∧ Elems k S w a.block a.off l

theorem Sl.fr {α : Type} {k : Kd α} {S S' : Nat → Prop} {w w' : World} {v : Value} {l : List α} (h : Sl k S w v l)
    (h1 : ∀ b, b < w.heap.size → S b → w'.heap[b]? = w.heap[b]?) (h2 : ∀ b, b < w.heap.size → S b → S' b) : Sl k S' w' v l := by
  rcases h with h | ⟨a, c, hv, hl, hm, hs, he⟩
  · exact .inl h
  · exact .inr ⟨a, c, hv, hl, hm, fun hn => ⟨(hs hn).1, h2 _ (he.lt hn) (hs hn).2⟩, he.fr (fun hn => (hs hn).2) h1 h2⟩

theorem Sl.frame {α : Type} {k : Kd α} {S T : Nat → Prop} {w w' : World} {v : Value} {l : List α} (h : Sl k S w v l) (hf : Fr T w w')
    (hd : ∀ b, b < w.heap.size → S b → ¬ T b) : Sl k S w' v l := h.fr (fun b hb hs => hf.block b hb (hd b hb hs)) (fun _ _ h => h)
theorem Sl.mono {α : Type} {k : Kd α} {S S' : Nat → Prop} {w : World} {v : Value} {l : List α} (h : Sl k S w v l)
    (hS : ∀ b, b < w.heap.size → S b → S' b) : Sl k S' w v l := h.fr (fun _ _ _ => rfl) hS

def kSl {α : Type} (k : Kd α) : Kd (List α) where
  sz := 1
  rd S w cs l := ∃ v, cs = [v] ∧ Sl k S w v l
  len h := by obtain ⟨v, rfl, _⟩ := h; rfl
  pos := Nat.one_pos
  one h u hu := by
    obtain ⟨v, rfl, h⟩ := h
    simp at hu; subst hu
    rcases h with ⟨rfl, _⟩ | ⟨a, c, rfl, _⟩ <;> rfl
  fr h h1 h2 := by
    obtain ⟨v, rfl, h⟩ := h
    exact ⟨v, rfl, h.fr h1 h2⟩

/-- A row of cells that reads as a list, cell by cell. -/
def Row {α : Type} (k : Kd α) (S : Nat → Prop) (w : World) : List Value → List α → Prop
  | cs, [] => cs = []
  | cs, x :: l => ∃ c1 c2, cs = c1 ++ c2 ∧ k.rd S w c1 x ∧ Row k S w c2 l

theorem Row.fr {α : Type} {k : Kd α} {S S' : Nat → Prop} {w w' : World} {l : List α} : ∀ {cs : List Value}, Row k S w cs l →
    (∀ b, b < w.heap.size → S b → w'.heap[b]? = w.heap[b]?) → (∀ b, b < w.heap.size → S b → S' b) → Row k S' w' cs l := by
  induction l with
  | nil => intro cs h _ _; exact h
  | cons x l ih =>
    intro cs h h1 h2
    obtain ⟨c1, c2, e, h3, h4⟩ := h
    exact ⟨c1, c2, e, k.fr h3 h1 h2, ih h4 h1 h2⟩

theorem Row.len {α : Type} {k : Kd α} {S : Nat → Prop} {w : World} {l : List α} : ∀ {cs : List Value}, Row k S w cs l → cs.length = l.length * k.sz := by
  induction l with
  | nil => intro cs h; simp [show cs = [] from h]
  | cons x l ih =>
    intro cs h
    obtain ⟨c1, c2, rfl, h3, h4⟩ := h
    rw [List.length_append, k.len h3, ih h4, List.length_cons, Nat.add_mul]; omega

theorem Row.one {α : Type} {k : Kd α} {S : Nat → Prop} {w : World} {l : List α} : ∀ {cs : List Value}, Row k S w cs l → ∀ v ∈ cs, v.oneCell' = true := by
  induction l with
  | nil => intro cs h v hv; rw [show cs = [] from h] at hv; cases hv
  | cons x l ih =>
    intro cs h v hv
    obtain ⟨c1, c2, rfl, h3, h4⟩ := h
    rcases List.mem_append.1 hv with h | h
    · exact k.one h3 v h
    · exact ih h4 v h

theorem Row.append {α : Type} {k : Kd α} {S : Nat → Prop} {w : World} {l : List α} {ds : List Value} {m : List α} : ∀ {cs : List Value}, Row k S w cs l → Row k S w ds m → Row k S w (cs ++ ds) (l ++ m) := by
  induction l with
  | nil => intro cs h h'; rw [show cs = [] from h]; simpa using h'
  | cons x l ih =>
    intro cs h h'
    obtain ⟨c1, c2, rfl, h3, h4⟩ := h
    exact ⟨c1, c2 ++ ds, by simp, h3, ih h4 h'⟩

theorem Row.single {α : Type} {k : Kd α} {S : Nat → Prop} {w : World} {cs : List Value} {x : α} (h : k.rd S w cs x) : Row k S w cs [x] := ⟨cs, [], by simp, h, rfl⟩

theorem Row.at {α : Type} {k : Kd α} {S : Nat → Prop} {w : World} {l : List α} : ∀ {cs : List Value}, Row k S w cs l → ∀ i (hi : i < l.length), ∃ c1 cx c2, cs = c1 ++ cx ++ c2 ∧ c1.length = i * k.sz ∧ k.rd S w cx l[i] := by
  induction l with
  | nil => intro cs h i hi; simp at hi
  | cons x l ih =>
    intro cs h i hi
    obtain ⟨d1, d2, rfl, h3, h4⟩ := h
    cases i with
    | zero => exact ⟨[], d1, d2, by simp, by simp, h3⟩
    | succ i =>
      obtain ⟨c1, cx, c2, rfl, hl, hr⟩ := ih h4 i (by simpa using hi)
      exact ⟨d1 ++ c1, cx, c2, by simp, by rw [List.length_append, k.len h3, hl, Nat.add_mul]; omega, by simpa using hr⟩

theorem Row.take {α : Type} {k : Kd α} {S : Nat → Prop} {w : World} {l : List α} : ∀ {cs : List Value}, Row k S w cs l → ∀ n, Row k S w (cs.take (n * k.sz)) (l.take n) := by
  induction l with
  | nil => intro cs h n; rw [show cs = [] from h]; simp [Row]
  | cons x l ih =>
    intro cs h n
    obtain ⟨d1, d2, rfl, h3, h4⟩ := h
    cases n with
    | zero => simp [Row]
    | succ n =>
      have e : (n + 1) * k.sz = d1.length + n * k.sz := by rw [k.len h3, Nat.add_mul]; omega
      refine ⟨d1, d2.take (n * k.sz), ?_, h3, ih h4 n⟩
      rw [e, List.take_append, List.take_of_length_le (by omega)]
      congr 2; omega

theorem Row.drop {α : Type} {k : Kd α} {S : Nat → Prop} {w : World} {l : List α} : ∀ {cs : List Value}, Row k S w cs l → ∀ n, Row k S w (cs.drop (n * k.sz)) (l.drop n) := by
  induction l with
  | nil => intro cs h n; rw [show cs = [] from h]; simp [Row]
  | cons x l ih =>
    intro cs h n
    cases n with
    | zero => simpa using h
    | succ n =>
      obtain ⟨d1, d2, rfl, h3, h4⟩ := h
      have e : (n + 1) * k.sz = d1.length + n * k.sz := by rw [k.len h3, Nat.add_mul]; omega
      rw [e, List.drop_append, List.drop_of_length_le (by omega), List.nil_append]
      have e2 : d1.length + n * k.sz - d1.length = n * k.sz := by omega
      rw [e2]; exact ih h4 n

/-- The elements of a slice, as a row of cells. -/
theorem Elems.row {α : Type} {k : Kd α} {S : Nat → Prop} {w : World} {b : Nat} {l : List α} : ∀ {o : Nat}, Elems k S w b o l →
    ∃ cs, Row k S w cs l ∧ ∀ j u, cs[j]? = some u → w.cell? ⟨b, o + j, none⟩ = some u := by
  induction l with
  | nil => intro o _; exact ⟨[], rfl, by simp⟩
  | cons x l ih =>
    intro o h
    obtain ⟨c1, h1, h2⟩ := h 0 (by simp)
    have hrest : Elems k S w b (o + k.sz) l := by
      intro i hi
      obtain ⟨cs, hr, hc⟩ := h (i + 1) (by simpa using hi)
      refine ⟨cs, by simpa using hr, fun j hj => ?_⟩
      rw [show o + k.sz + i * k.sz + j = o + (i + 1) * k.sz + j from by rw [Nat.add_mul]; omega]
      exact hc j hj
    obtain ⟨c2, h3, h4⟩ := ih hrest
    refine ⟨c1 ++ c2, ⟨c1, c2, rfl, by simpa using h1, h3⟩, fun j u hu => ?_⟩
    have hl := k.len h1
    by_cases hj : j < c1.length
    · rw [List.getElem?_append_left hj, List.getElem?_eq_getElem hj] at hu
      have := h2 j hj
      simp only [Option.some.injEq] at hu; subst hu
      simpa using this
    · rw [List.getElem?_append_right (by omega)] at hu
      have := h4 _ _ hu
      rwa [show o + k.sz + (j - c1.length) = o + j from by omega] at this

theorem Elems.of_row {α : Type} {k : Kd α} {S : Nat → Prop} {w : World} {b o : Nat} {l : List α} {cs : List Value} (h : Row k S w cs l)
    (hc : ∀ j u, cs[j]? = some u → w.cell? ⟨b, o + j, none⟩ = some u) : Elems k S w b o l := by
  intro i hi
  obtain ⟨c1, cx, c2, rfl, hl, hr⟩ := h.at i hi
  refine ⟨cx, hr, fun j hj => ?_⟩
  rw [← hl, Nat.add_assoc]
  exact hc _ _ (by rw [List.append_assoc, List.getElem?_append_right (by omega), List.getElem?_append_left (by omega)]; simp)

/-- A list that the call has made and goes on appending to. -/
def Own {α : Type} (k : Kd α) (e : TypeId) (B : Nat) (S : Nat → Prop) (w : World) (v : Value) (l : List α) : Prop :=
  ∃ cs, w.ownsRow B e k.sz v l.length cs ∧ Row k S w cs l

theorem Own.nil {α : Type} (k : Kd α) (e B : Nat) (S : Nat → Prop) (w : World) : Own k e B S w (.slice none 0 0) [] := ⟨[], World.ownsRow_nil w B e k.sz, rfl⟩

theorem Own.block {α : Type} {k : Kd α} {e B : Nat} {S : Nat → Prop} {w : World} {v : Value} {l : List α} (h : Own k e B S w v l) : ∀ b, v.ownBlock = some b → B ≤ b ∧ b < w.heap.size := by
  obtain ⟨cs, h, _⟩ := h; exact h.lt

theorem Own.frame {α : Type} {k : Kd α} {e B : Nat} {S S' T : Nat → Prop} {w w' : World} {v : Value} {l : List α} (h : Own k e B S w v l) (hf : Fr T w w')
    (hv : ∀ b, v.ownBlock = some b → ¬ T b) (hd : ∀ b, b < w.heap.size → S b → ¬ T b) (hS : ∀ b, b < w.heap.size → S b → S' b) : Own k e B S' w' v l := by
  obtain ⟨cs, h, hr⟩ := h
  refine ⟨cs, ⟨h.1, ?_⟩, hr.fr (fun b hb hs => hf.block b hb (hd b hb hs)) hS⟩
  rcases h.2 with hn | ⟨g, cap, cur, rfl, hb, hg, rest⟩
  · exact .inl hn
  · exact .inr ⟨g, cap, cur, rfl, hb, hf.heap hg (hv g rfl), rest⟩

/-- It is a slice that reads as that list. -/
theorem Own.sl {α : Type} {k : Kd α} {e B : Nat} {S S' : Nat → Prop} {w : World} {v : Value} {l : List α} (h : Own k e B S w v l) (hv : ∀ b, v.ownBlock = some b → S' b)
    (hS : ∀ b, b < w.heap.size → S b → S' b) : Sl k S' w v l := by
  obtain ⟨cs, h, hr⟩ := h
  have hcell := fun g => World.ownsRow.cells h (g := g)
  have hlen := hr.len
  rcases h.2 with ⟨rfl, hn⟩ | ⟨g, cap, cur, rfl, hb, hg, hl, hm, _, _⟩
  · exact .inl ⟨rfl, List.eq_nil_of_length_eq_zero hn⟩
  · refine .inr ⟨⟨g, 0, none⟩, cap, rfl, hl, hm, fun _ => ⟨rfl, hv g rfl⟩, Elems.of_row (hr.fr (fun _ _ _ => rfl) hS) fun j u hu => ?_⟩
    have := hcell g rfl j u hu
    have hadd : (⟨g, 0, none⟩ : Addr).add j = ⟨g, 0 + j, none⟩ := by unfold Addr.add; split <;> simp_all
    rwa [hadd] at this

#print axioms Own.sl
end Go.Proofs.Ytplhcfaonhkegaa
