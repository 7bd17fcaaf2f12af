/-
  Keys: rows of keys in cells; slices.Clone, slices.Compact.
-/
import Derived.Test.YthjfnpojelfekaaDoorK4
import Derived.Lib.SliceRun
import Derived.Test.YthjfnpojelfekaaDoorR
namespace Go.Proofs.YthjfnpojelfekaaDoor
open Go.RowKit

def kKey : Kd MK := kPair (kInt .i64) (kInt .u64)
theorem key_cells {S : Nat → Prop} {w : World} {cs : List Value} {x : MK} (h : kKey.rd S w cs x) : cs = [.int .i64 x.1, .int .u64 x.2] ∧ (Lit.int .i64 x.1).wf = true ∧ (Lit.int .u64 x.2).wf = true := by
  obtain ⟨_, _, rfl, ⟨rfl, h1⟩, ⟨rfl, h2⟩⟩ := h
  exact ⟨rfl, h1, h2⟩
def keyCells (l : List MK) : List Value := l.flatMap fun x => [.int .i64 x.1, .int .u64 x.2]
theorem keyCells_cons (x : MK) (l : List MK) : keyCells (x :: l) = .int .i64 x.1 :: .int .u64 x.2 :: keyCells l := rfl
theorem keyCells_app (a b : List MK) : keyCells (a ++ b) = keyCells a ++ keyCells b := by unfold keyCells; simp
theorem keyCells_len (l : List MK) : (keyCells l).length = l.length * 2 := by
  induction l with
  | nil => rfl
  | cons x l ih => rw [keyCells_cons]; simp [ih]; omega
theorem keyCells_one (l : List MK) : ∀ u ∈ keyCells l, u.oneCell' = true := by
  intro u hu
  unfold keyCells at hu
  simp only [List.mem_flatMap, List.mem_cons, List.not_mem_nil, or_false] at hu
  obtain ⟨x, _, rfl | rfl⟩ := hu <;> rfl
theorem keyCells_at {l : List MK} {i : Nat} (h : i < l.length) : (keyCells l)[i * 2]? = some (.int .i64 l[i].1) ∧ (keyCells l)[i * 2 + 1]? = some (.int .u64 l[i].2) := by
  induction l generalizing i with
  | nil => simp at h
  | cons x l ih =>
    rw [keyCells_cons]
    cases i with
    | zero => exact ⟨rfl, rfl⟩
    | succ i =>
      have := ih (i := i) (by simpa using h)
      rw [show (i + 1) * 2 = i * 2 + 2 by omega]
      simpa using this
theorem keyCells_set {l : List MK} {i : Nat} (h : i < l.length) (x : MK) (rest : List Value) : putAt (keyCells l ++ rest) (i * 2) [.int .i64 x.1, .int .u64 x.2] = keyCells (l.set i x) ++ rest := by
  induction l generalizing i with
  | nil => simp at h
  | cons y l ih =>
    cases i with
    | zero =>
      rw [List.set_cons_zero, keyCells_cons, keyCells_cons]
      rfl
    | succ i =>
      have := ih (i := i) (by simpa using h)
      rw [List.set_cons_succ, keyCells_cons, keyCells_cons]
      rw [show (i + 1) * 2 = i * 2 + 2 by omega]
      unfold putAt at this ⊢
      simp only [List.cons_append, List.take_succ_cons, List.length_cons, List.length_nil, Nat.zero_add]
      rw [show i * 2 + 2 + (1 + 1) = (i * 2 + (1 + 1)) + 2 by omega]
      simp only [List.drop_succ_cons]
      simp only [List.length_cons, List.length_nil, Nat.zero_add] at this
      rw [← this]
theorem row_keys {S : Nat → Prop} {w : World} {cs : List Value} {l : List MK} (h : Row kKey S w cs l) : cs = keyCells l := by
  induction l generalizing cs with
  | nil => exact h
  | cons x l ih =>
    obtain ⟨c1, c2, rfl, h1, h2⟩ := h
    rw [(key_cells h1).1, ih h2]
    rfl
theorem eI25 : ElemInfo Tryd.prog 32 25 2 16 := elemInfo (z := .agg #[.int .i64 0, .int .u64 0]) Tryd.underlying32 (by kernel_rfl) rfl (by decide)
/-- A slice of keys, as it is appended. -/
theorem keys_src {S : Nat → Prop} {w : World} {v : Value} {l : List MK} (h : Sl kKey S w v l) : Src w 2 v l.length (keyCells l) := by
  refine ⟨keyCells_len l, keyCells_one l, ?_⟩
  rcases h with ⟨rfl, rfl⟩ | ⟨⟨b, o, sp⟩, c, rfl, _, _, h3, h4⟩
  · exact .inl ⟨rfl, rfl⟩
  · refine .inr ⟨_, c, rfl, fun j u hu => ?_⟩
    have hne : l ≠ [] := by intro e; subst e; simp [keyCells] at hu
    have hs := (h3 hne).1
    simp only at hs
    subst hs
    obtain ⟨cs, hr, hc⟩ := h4.row
    rw [row_keys hr] at hc
    rw [addr_add']
    exact hc j u hu
/-- A slice of the call's own that holds keys. -/
def Keys (w : World) (v : Value) (l : List MK) : Prop := GRow w 25 2 v l.length (keyCells l)
theorem Keys.fr {w w' : World} {v : Value} {l : List MK} (h : Keys w v l) (f : Fr Non w w') : Keys w' v l := GRow.keep h fun b hb => f.block b (GRow.lt h b hb) id

set_option maxRecDepth 100000 in
set_option maxHeartbeats 4000000 in
theorem clone_any {w : World} {u : Value} {l : List MK} (hl : Sl kKey All w u l) (hn : l.length ≤ 200000) :
    Calls Tryd.prog 43 #[u] w fun e w' => ∃ v, e = .returned v ∧ Keys w' v l ∧ Fr Non w w' ∧ ∀ b, v.ownBlock = some b → w.heap.size ≤ b := by
  have hN := fun (w : World) (a : Option Addr) n c => Lib.run_eql_slice_nil (P := Tryd.prog) w 32 25 a n c 0 0 Tryd.underlying32
  have HS := Lib.hid (keys_src hl)
  rcases id hl with ⟨rfl, rfl⟩ | ⟨a, c, rfl, h1, h2, h3, h4⟩
  · clear hl
    go_enter Tryd.func43, Tryd.ntmps43
    go_wp2_with fail
    go_ret
    exact ⟨_, rfl, GRow.nil _ _ _, Fr.refl _ _, by simp [Value.ownBlock]⟩
  · clear hl h3 h4
    unfold maxLen at h2
    go_enter Tryd.func43, Tryd.ntmps43
    go_wp2_with (at_builtin; refine wpList_append_g rfl _ _ eI25 rfl (.slice (some ⟨w.heap.size, 0, none⟩) 0 0) 0 [] rfl ⟨rfl, .inr ⟨_, 0, #[], rfl, alloc_at w _, Nat.le_refl _, by unfold maxLen; omega, by simp, by simp⟩⟩ _ l.length (keyCells l) rfl (HS.out.alloc _) ?k2 ?k3 ?_)
    case k2 => unfold maxLen; omega
    case k3 => omega
    intro v' w1 r1 r2 r3 _
    have f1 : Fr Non w w1 := ((Fr.refl Non w).alloc _).trans2 r2 (fun b hb e => by simp [Value.ownBlock] at e; omega)
    have hown : ∀ b, v'.ownBlock = some b → w.heap.size ≤ b := by
      intro b hb
      rcases r3 with r3 | ⟨r3, _⟩
      · rw [r3] at hb; simp [Value.ownBlock] at hb; omega
      · rw [r3] at hb; cases hb; simp
    have R1 : GRow w1 25 2 v' l.length (keyCells l) := by simpa using r1
    go_wp2_with fail
    refine bodyPost_ret (v := v') (by simp [results, Tryd.results43, go_sem]) rfl ⟨_, rfl, R1, f1, hown⟩

def kPush (c : List MK) (x : MK) : List MK := if c.getLast? = some x then c else c ++ [x]
/-- Those that stand beside their like, once. -/
def kComp (l : List MK) : List MK := l.foldl kPush []
theorem kComp_snoc (l : List MK) (x : MK) : kComp (l ++ [x]) = kPush (kComp l) x := by unfold kComp; rw [List.foldl_append]; rfl
theorem kPush_last (c : List MK) (x : MK) : (kPush c x).getLast? = some x := by
  unfold kPush
  split
  · assumption
  · simp
theorem kPush_len (c : List MK) (x : MK) : (kPush c x).length ≤ c.length + 1 := by unfold kPush; split <;> simp
theorem kComp_take {l : List MK} {q : Nat} (h : q < l.length) : kComp (l.take (q + 1)) = kPush (kComp (l.take q)) l[q] := by
  rw [← List.take_append_getElem h, kComp_snoc]
theorem kComp_len (l : List MK) (q : Nat) : (kComp (l.take q)).length ≤ q := by
  induction q with
  | zero => simp [kComp]
  | succ q ih =>
    by_cases h : q < l.length
    · rw [kComp_take h]
      have := kPush_len (kComp (l.take q)) l[q]
      omega
    · rw [List.take_of_length_le (by omega)]
      rw [List.take_of_length_le (by omega)] at ih
      omega
/-- One more that is as the one ahead of it, or not. -/
theorem kComp_same {l : List MK} {q : Nat} (h : q + 1 < l.length) (e : l[q + 1] = l[q]) : kComp (l.take (q + 1 + 1)) = kComp (l.take (q + 1)) := by
  rw [kComp_take h, kComp_take (show q < l.length by omega)]
  generalize hc : kPush (kComp (l.take q)) l[q] = c
  have hl : c.getLast? = some l[q] := by rw [← hc]; exact kPush_last _ _
  unfold kPush
  rw [if_pos (by rw [hl, e])]
theorem kComp_other {l : List MK} {q : Nat} (h : q + 1 < l.length) (e : l[q + 1] ≠ l[q]) : kComp (l.take (q + 1 + 1)) = kComp (l.take (q + 1)) ++ [l[q + 1]] := by
  rw [kComp_take h, kComp_take (show q < l.length by omega)]
  generalize hc : kPush (kComp (l.take q)) l[q] = c
  have hl : c.getLast? = some l[q] := by rw [← hc]; exact kPush_last _ _
  unfold kPush
  rw [if_neg (by rw [hl]; intro h2; exact e (Option.some.inj h2).symm)]
/-- clear. -/
theorem run_clear_keys {w : World} {g o n c : Nat} {cur : List Value} (hg : w.heap[g]? = some (.cells cur.toArray 25 (0, 0))) (hn : 0 < n) (hfit : o + n * 2 ≤ cur.length) :
    ∃ w', (∀ ty, (Builtin.clear_ #[32] ty #[.slice (some ⟨g, o, none⟩) n c]).run Tryd.prog w = .ok (.tuple #[]) w') ∧ (∃ cur' : List Value, w'.heap[g]? = some (.cells cur'.toArray 25 (0, 0)) ∧ cur'.length = cur.length ∧ cur'.take o = cur.take o) ∧ Fr (fun b => b = g) w w' := by
  obtain ⟨Z, hZ⟩ : ∃ Z, (Builtin.zeroCells #[.int .i64 0, .int .u64 0] n).toList = Z := ⟨_, rfl⟩
  have hZl : Z.length = n * 2 := by rw [← hZ]; simp [Builtin.zeroCells]
  have hZ1 : ∀ u ∈ Z, u.oneCell' = true := by
    intro u hu
    rw [← hZ] at hu
    simp [Builtin.zeroCells] at hu
    obtain ⟨i, _, rfl⟩ := hu
    have : i % 2 = 0 ∨ i % 2 = 1 := by omega
    rcases this with h | h <;> simp [h] <;> rfl
  have hst := run_storeCells_at (P := Tryd.prog) g o 25 Z 0 cur.toArray w hg (by simp [hZl]; omega) hZ1
  have hz : ∀ w, (zeroValue 25).run Tryd.prog w = .ok (.agg #[.int .i64 0, .int .u64 0]) w := Tryd.zeroValue25
  have e : List.take (o + 0) cur.toArray.toList ++ Z ++ List.drop (o + 0 + Z.length) cur.toArray.toList = cur.take o ++ (Z ++ cur.drop (o + n * 2)) := by rw [hZl]; simp
  rw [e] at hst
  refine ⟨w.setRow g (cur.take o ++ (Z ++ cur.drop (o + n * 2))).toArray, fun ty => ?_, ⟨_, setRow_heap w g _ _ 25 _ hg, ?_, ?_⟩, ⟨rfl, rfl, rfl, by simp, fun k _ hk => setRow_other w g k _ hk⟩⟩
  · obtain ⟨m, rfl⟩ : ∃ m, n = m + 1 := ⟨n - 1, by omega⟩
    simp only [Builtin.clear_]
    simp [run_underlying Tryd.underlying32, hz, Value.cells, hZ, hst]
  · simp [hZl]; omega
  · rw [List.take_append_of_le_length (by simp; omega), List.take_take, Nat.min_self]
end Go.Proofs.YthjfnpojelfekaaDoor
