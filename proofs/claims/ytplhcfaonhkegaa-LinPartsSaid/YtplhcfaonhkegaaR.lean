/-
  How an argument that was read as data lies in the cells: the readings of L, out of a row's own.
-/
import Derived.Test.YtplhcfaonhkegaaL
import Derived.Deep.Slices
import Derived.ChangeArms
import Derived.DataReads
import Derived.ChangeShapes
import Derived.Carry
import Derived.RowKit
import Derived.SizedLaws
namespace Go.Proofs.Ytplhcfaonhkegaa
open Go.RowKit Go.Deep Go.ChangeShapes Go.WideShapes

def kPair {α β : Type} (a : Kd α) (b : Kd β) : Kd (α × β) where
  sz := a.sz + b.sz
  rd S w cs x := ∃ c1 c2, cs = c1 ++ c2 ∧ a.rd S w c1 x.1 ∧ b.rd S w c2 x.2
  len h := by obtain ⟨c1, c2, rfl, h1, h2⟩ := h; rw [List.length_append, a.len h1, b.len h2]
  pos := by have := a.pos; omega
  one h v hv := by
    obtain ⟨c1, c2, rfl, h1, h2⟩ := h
    rcases List.mem_append.1 hv with h | h
    · exact a.one h1 v h
    · exact b.one h2 v h
  fr h h1 h2 := by
    obtain ⟨c1, c2, e, h3, h4⟩ := h
    exact ⟨c1, c2, e, a.fr h3 h1 h2, b.fr h4 h1 h2⟩

/-- A slice with its reach: so many bytes an element. -/
def kRow {α : Type} (k : Kd α) (B : Nat) : Kd (List α) where
  sz := 1
  rd S w cs l := ∃ v, cs = [v] ∧ Sl k S w v l ∧ l.length * B ≤ reachBytes
  len h := by obtain ⟨v, rfl, _⟩ := h; rfl
  pos := Nat.one_pos
  one h u hu := by
    obtain ⟨v, rfl, h, _⟩ := h
    simp at hu; subst hu
    rcases h with ⟨rfl, _⟩ | ⟨a, c, rfl, _⟩ <;> rfl
  fr h h1 h2 := by
    obtain ⟨v, rfl, h, hb⟩ := h
    exact ⟨v, rfl, h.fr h1 h2, hb⟩
/-- A string with its reach. -/
def kText : Kd ByteArray where
  sz := 1
  rd _ _ cs x := cs = [.string x] ∧ x.size ≤ reachBytes
  len h := by rw [h.1]; rfl
  pos := Nat.one_pos
  one h v hv := by rw [h.1] at hv; simp at hv; subst hv; rfl
  fr h _ _ := h

/-- The blocks that were there. -/
def Old (w : World) : Nat → Prop := fun b => b < w.heap.size

section
variable {P : Program} {w : World}

/-- Within the form's own reach. -/
def Fit {H : Type} (P : Program) (t : TypeId) (d : DataW H) : Prop := ∀ n ∈ d.weights P t, n ≤ reachBytes
theorem weightsAll_mem {H : Type} {e : TypeId} {n : Nat} {d : DataW H} : ∀ {l : List (DataW H)}, d ∈ l → n ∈ d.weights P e → n ∈ DataW.weightsAll P e l
  | x :: r, hd, hn => by
    rw [DataW.weightsAll, List.mem_append]
    rcases List.mem_cons.1 hd with rfl | hd
    · exact .inl hn
    · exact .inr (weightsAll_mem hd hn)
theorem weightsEach_mem {H : Type} {n : Nat} : ∀ {ts : List TypeId} {l : List (DataW H)} {i : Nat} {t : TypeId} {d : DataW H}, ts[i]? = some t → l[i]? = some d → n ∈ d.weights P t → n ∈ DataW.weightsEach P ts l
  | u :: ts, x :: r, i, t, d, h1, h2, hn => by
    rw [DataW.weightsEach, List.mem_append]
    cases i with
    | zero => simp at h1 h2; subst h1 h2; exact .inl hn
    | succ i => exact .inr (weightsEach_mem (i := i) (by simpa using h1) (by simpa using h2) hn)

def From {α : Type} (P : Program) (w : World) (k : Kd α) (t : TypeId) : Prop :=
  P.cellsOf t = k.sz ∧ ∀ (H : Type) (enc : TypeId × Value → H) (fuel : Nat) (cs : List Value) (x : DataW H × List MemPlace),
    DataW.trod enc P w 0 (fun _ => true) true fuel t cs = some x → Fit P t x.1 → ∃ a, k.rd (Old w) w cs a

theorem From.int {t : TypeId} {q : IntKind} (ht : P.underlying t = some (.int q)) (hc : P.cellsOf t = 1) : From P w (kInt q) t :=
  ⟨hc, fun _ _ _ _ _ h _ => by
    obtain ⟨n, rfl, _, hw⟩ := DataW.trod_int ht h
    exact ⟨n, rfl, hw⟩⟩
theorem From.byte {t : TypeId} (ht : P.underlying t = some (.int .u8)) (hc : P.cellsOf t = 1) : From P w kByte t :=
  ⟨hc, fun _ _ _ _ _ h _ => by
    obtain ⟨n, rfl, _, hw⟩ := DataW.trod_int ht h
    simp only [Lit.wf, Bool.and_eq_true, decide_eq_true_eq] at hw
    have h0 : 0 ≤ n ∧ n < 256 := by
      have h1 : IntKind.min .u8 = 0 := by decide
      have h2 : IntKind.max .u8 = 255 := by decide
      rw [h1, h2] at hw
      omega
    refine ⟨UInt8.ofNat n.toNat, ?_⟩
    show [Value.int .u8 n] = [Value.int .u8 ((UInt8.ofNat n.toNat).toNat : Int)]
    have : ((UInt8.ofNat n.toNat).toNat : Int) = n := by simp; omega
    rw [this]⟩
theorem From.bool {t : TypeId} (ht : P.underlying t = some .bool) (hc : P.cellsOf t = 1) : From P w kBool t :=
  ⟨hc, fun _ _ _ _ _ h _ => by
    obtain ⟨b, rfl, _⟩ := DataW.trod_bool ht h
    exact ⟨b, rfl⟩⟩
theorem From.str {t : TypeId} (ht : P.underlying t = some .string) (hc : P.cellsOf t = 1) : From P w kText t :=
  ⟨hc, fun _ _ _ _ _ h hf => by
    obtain ⟨s, rfl, rfl, hs⟩ := DataW.trod_string ht h
    refine ⟨s, rfl, ?_⟩
    have := hf _ (by rw [DataW.weights]; exact List.mem_cons_self ..)
    rw [Array.length_toList] at this
    exact this⟩

theorem cells_plain {base : Nat} {b o n : Nat} {cs : List Value} (h : w.cells? base ⟨b, o, none⟩ n = some cs) : cs.length = n ∧ ∀ j (hj : j < cs.length), w.cell? ⟨b, o + j, none⟩ = some cs[j] := by
  obtain ⟨_, hl, hc⟩ := World.cells?_some h
  refine ⟨hl, fun j hj => ?_⟩
  have := hc j (by omega)
  rw [List.getElem?_eq_getElem hj] at this
  have e : (⟨b, o, none⟩ : Addr).add j = ⟨b, o + j, none⟩ := by unfold Addr.add; split <;> simp_all
  rwa [e] at this

theorem From.slice {α : Type} {k : Kd α} {t e : TypeId} {B : Nat} (ht : P.underlying t = some (.slice e)) (hc : P.cellsOf t = 1) (he : From P w k e) (hB : P.bytesOf e = B) : From P w (kRow k B) t :=
  ⟨hc, fun H enc fuel cs x h hf => by
    obtain ⟨hsz, he⟩ := he
    rcases open_slice ht h with ⟨rfl, _⟩ | ⟨a, len, cap, m, n, D, Pl, rfl, hb, hl, hm, hmm, rfl, hx⟩
    · exact ⟨[], _, rfl, .inl ⟨rfl, rfl⟩, by simp⟩
    · simp only [if_true] at hmm
      unfold Fit at hf
      simp only [DataW.weights, ht] at hf
      have hlenB : len * B ≤ reachBytes := by
        have h1 := hf _ (List.mem_cons_self ..)
        rw [hB] at h1
        refine Nat.le_trans (Nat.mul_le_mul_right _ ?_) h1
        simp
      have hel0 : ∀ i, i < len → Fit P e (D i) := fun i hi n hn => hf n (List.mem_cons_of_mem _ (List.mem_append.2 (.inl (weightsAll_mem (List.mem_map.2 ⟨i, List.mem_range.2 hi, rfl⟩) hn))))
      have hx' : ∀ i, i < len → ∃ y : α, ∃ cs', w.cells? 0 (a.add (i * k.sz)) k.sz = some cs' ∧ k.rd (Old w) w cs' y := fun i hi => by
        obtain ⟨cs', h1, h2⟩ := hx i (by omega)
        rw [hsz] at h1
        obtain ⟨y, hy⟩ := he H enc n cs' _ h2 (hel0 i hi)
        exact ⟨y, cs', h1, hy⟩
      by_cases h0 : len = 0
      · subst h0
        exact ⟨[], _, rfl, .inr ⟨a, cap, rfl, by simp, hm, fun h => absurd rfl h, fun i hi => by simp at hi⟩, by simp⟩
      · have hspot : a.spot = none := by
          obtain ⟨y, cs', h1, _⟩ := hx' 0 (by omega)
          obtain ⟨_, hl1, hc1⟩ := World.cells?_some h1
          have h2 := hc1 0 k.pos
          rw [List.getElem?_eq_getElem (by have := k.pos; omega)] at h2
          have := World.cell?_spot h2
          simpa [Addr.add] using this
        obtain ⟨b, o, sp⟩ := a
        simp only at hspot
        subst hspot
        have hy : ∃ y : α, True := ⟨(hx' 0 (by omega)).choose, trivial⟩
        haveI : Inhabited α := ⟨hy.choose⟩
        obtain ⟨Y, hY⟩ := choose_lt hx'
        have e : ∀ i, (⟨b, o, none⟩ : Addr).add i = ⟨b, o + i, none⟩ := fun i => by unfold Addr.add; split <;> simp_all
        have hel : Elems k (Old w) w b o ((List.range len).map Y) := by
          intro i hi
          simp only [List.length_map, List.length_range] at hi
          obtain ⟨cs', h1, h2⟩ := hY i hi
          rw [e] at h1
          refine ⟨cs', by simpa using h2, fun j hj => ?_⟩
          exact (cells_plain h1).2 j hj
        have hne : ((List.range len).map Y) ≠ [] := by intro hh; have := congrArg List.length hh; simp at this; omega
        exact ⟨(List.range len).map Y, _, rfl, .inr ⟨⟨b, o, none⟩, cap, by simp, by simpa using hl, hm, fun _ => ⟨rfl, hel.lt hne⟩, hel⟩, by simpa using hlenB⟩⟩

/-- The fields from a place on. -/
def FromFs {α : Type} (P : Program) (w : World) (k : Kd α) (off : Nat) (fs : List Field) : Prop :=
  ∀ (H : Type) (enc : TypeId × Value → H) (n : Nat) (cs : List Value), off + k.sz ≤ cs.length →
    (∀ f ∈ fs, ∃ x, DataW.trod enc P w 0 (fun _ => true) true n f.type ((cs.drop f.offset).take (P.cellsOf f.type)) = some x ∧ Fit P f.type x.1) → ∃ a, k.rd (Old w) w ((cs.drop off).take k.sz) a

theorem FromFs.one {α : Type} {k : Kd α} {f : Field} {o : Nat} (hk : From P w k f.type) (hof : o = f.offset) : FromFs P w k o [f] := by
  subst hof
  intro H enc n cs _ h
  obtain ⟨x, hx, hw⟩ := h f (List.mem_cons_self ..)
  rw [hk.1] at hx
  exact hk.2 H enc n _ x hx hw
theorem FromFs.cons {α β : Type} {k : Kd α} {ks : Kd β} {f : Field} {fs : List Field} {off : Nat} {o : Nat} (hk : From P w k f.type) (hof : o = f.offset) (ho : off = f.offset + k.sz) (h : FromFs P w ks off fs) : FromFs P w (kPair k ks) o (f :: fs) := by
  subst hof
  intro H enc n cs hl hf
  obtain ⟨x, hx, hw⟩ := hf f (List.mem_cons_self ..)
  rw [hk.1] at hx
  obtain ⟨a, ha⟩ := hk.2 H enc n _ x hx hw
  obtain ⟨b, hb⟩ := h H enc n cs (by simp only [kPair] at hl; omega) (fun g hg => hf g (List.mem_cons_of_mem _ hg))
  refine ⟨(a, b), _, _, ?_, ha, hb⟩
  show ((cs.drop f.offset).take (k.sz + ks.sz)) = _
  rw [ho, List.take_add, List.drop_drop]

theorem From.struct {α : Type} {k : Kd α} {t : TypeId} {fs : Array Field} (ht : P.underlying t = some (.struct fs)) (hc : P.cellsOf t = k.sz) (h : FromFs P w k 0 fs.toList) : From P w k t :=
  ⟨hc, fun H enc fuel cs x hx hw => by
    obtain ⟨xs, n, _, rfl, hl, hn, hf⟩ := DataW.trod_struct ht hx
    unfold Fit at hw
    simp only [DataW.weights, ht] at hw
    obtain ⟨a, ha⟩ := h H enc n cs (by omega) (fun f hm => by
      obtain ⟨i, hi, rfl⟩ := List.getElem_of_mem hm
      have hi' : i < fs.size := by simpa using hi
      refine ⟨xs[i], by rw [hf i _ (by rw [Array.getElem?_eq_getElem hi']; rfl), List.getElem?_eq_getElem], fun n hn => hw n (weightsEach_mem (i := i) (by simp [hi']) (by rw [List.getElem?_map, List.getElem?_eq_getElem (by omega)]; rfl) hn)⟩)
    rw [List.drop_zero, List.take_of_length_le (by omega)] at ha
    exact ⟨a, ha⟩⟩

/-- One argument, opened. -/
theorem From.arg {α : Type} {k : Kd α} {t : TypeId} (hk : From P w k t) {H : Type} {enc : TypeId × Value → H} {v : Value} {d : DataW H} {ps : List MemPlace} (h : DataW.Trod enc P w 0 (fun _ => true) true t v d ps) (hw : Fit P t d) :
    ∃ a, k.rd (Old w) w v.cells.toList a := by
  obtain ⟨fuel, hf⟩ := h
  exact hk.2 _ enc fuel _ _ hf hw
theorem Fit.of {H : Type} {ts : List TypeId} {ds : List (DataW H)} (h : (DataW.weightsEach P ts ds).all (· ≤ reachBytes) = true) {i : Nat} {t : TypeId} {d : DataW H} (h1 : ts[i]? = some t) (h2 : ds[i]? = some d) : Fit P t d :=
  fun n hn => of_decide_eq_true (List.all_eq_true.1 h n (weightsEach_mem h1 h2 hn))

theorem agg_cells {t : TypeId} {fs : Array Field} {r : Reach} {base : Nat} {v : Value} (ht : P.underlying t = some (.struct fs)) (h : Value.okWide P w r base t v) : ∃ cs, v = .agg cs ∧ v.cells = cs := by
  obtain ⟨cs, rfl, _⟩ := okWide_struct ht h
  exact ⟨cs, rfl, rfl⟩
end

/-- Of the old nothing turned: what was read is read. -/
theorem Fr.old {α : Type} {k : Kd α} {w w' : World} {cs : List Value} {x : α} (f : Fr Non w w') (h : k.rd (Old w) w cs x) : k.rd (Old w) w' cs x := k.frame h f (fun _ _ _ => id)
#print axioms From.struct
end Go.Proofs.Ytplhcfaonhkegaa
