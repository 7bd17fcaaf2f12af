/-
  Net: what every act does, in one law each.
-/
import Derived.Test.YtkmpmibjenodlaaN15
namespace Go.Proofs.Ytkmpmibjenodlaa
open Go.RowKit Go.Maps

/-- A net and its blocks. -/
def NetX (w : World) (N : List Nat) (bn k : Nat) (st : NetSt) : Prop :=
  ∃ bm lv vs k', k' ≤ k ∧ NetAt w bn bm lv vs k' st ∧ N = netFp bn bm lv vs ∧ ∀ p ∈ st.l, p.b.length ≤ 262144
def PostX (w : World) (N : List Nat) (bn k : Nat) (st : NetSt) (w' : World) : Prop :=
  Fr (fun b => b ∈ N) w w' ∧ ∃ N', NetX w' N' bn k st ∧ ∀ b ∈ N', b ∈ N ∨ w.heap.size ≤ b

theorem NetX.fr {T : Nat → Prop} {w w' : World} {N : List Nat} {bn k : Nat} {st : NetSt} (h : NetX w N bn k st) (f : Fr T w w') (hT : ∀ b ∈ N, ¬ T b) : NetX w' N bn k st := by
  obtain ⟨bm, lv, vs, k', hk, hn, rfl, hs⟩ := h
  exact ⟨bm, lv, vs, k', hk, hn.fr f hT, rfl, hs⟩
theorem NetX.lt {w : World} {N : List Nat} {bn k : Nat} {st : NetSt} (h : NetX w N bn k st) : ∀ b ∈ N, b < w.heap.size := by
  obtain ⟨bm, lv, vs, k', hk, hn, rfl, hs⟩ := h
  exact hn.lt
theorem NetX.mono {w : World} {N : List Nat} {bn k k' : Nat} {st : NetSt} (h : NetX w N bn k st) (hk : k ≤ k') : NetX w N bn k' st := by
  obtain ⟨bm, lv, vs, k0, h0, hn, rfl, hs⟩ := h
  exact ⟨bm, lv, vs, k0, by omega, hn, rfl, hs⟩
theorem PostX.quiet {w w' : World} {N : List Nat} {bn k : Nat} {st : NetSt} (h : NetX w N bn k st) (f : Fr Non w w') : PostX w N bn (k + 1) st w' :=
  ⟨f.mono (fun _ _ => False.elim), N, (h.fr f (fun _ _ => id)).mono (Nat.le_succ k), fun _ hb => .inl hb⟩

/-- A net of one's own since w0. -/
structure MineX (w0 w : World) (N : List Nat) (bn k : Nat) (st : NetSt) : Prop where
  fr : Fr Non w0 w
  net : NetX w N bn k st
  new : ∀ b ∈ N, w0.heap.size ≤ b
theorem MineX.quiet {w0 w w' : World} {N : List Nat} {bn k : Nat} {st : NetSt} (h : MineX w0 w N bn k st) (f : Fr Non w w') : MineX w0 w' N bn k st :=
  ⟨h.fr.trans f, h.net.fr f (fun _ _ => id), h.new⟩
theorem MineX.post {w0 w w' : World} {N : List Nat} {bn k k' : Nat} {st st' : NetSt} (h : MineX w0 w N bn k st) (hp : PostX w N bn k' st' w') :
    ∃ N', MineX w0 w' N' bn k' st' ∧ ∀ b ∈ N', b ∈ N ∨ w.heap.size ≤ b := by
  obtain ⟨f, N', n, hs⟩ := hp
  exact ⟨N', ⟨h.fr.trans2 f (fun b hb hm => by have := h.new b hm; omega), n, fun b hb => (hs b hb).elim (h.new b) (fun hx => Nat.le_trans h.fr.size hx)⟩, hs⟩

def zp : Parcel := ⟨false, 0, false, 0, []⟩
def okA (n : Int) : Prop := 0 ≤ n ∧ n < 1024
instance (n : Int) : Decidable (okA n) := by unfold okA; infer_instance
def isI (st : NetSt) (i : Int) : Prop := 0 ≤ i ∧ i < st.l.length
instance (st : NetSt) (i : Int) : Decidable (isI st i) := by unfold isI; infer_instance

def nPut (st : NetSt) (p : Parcel) : Int × NetSt :=
  if ¬ okA p.fn then (50, st) else if ¬ okA p.tn then (50, st) else if 262144 < p.b.length then (50, st)
  else if st.l.length = 4096 then (3, { st with c := upd st.c 3 (st.c 3 + 1) }) else (0, { l := st.l ++ [p], c := upd st.c 0 (st.c 0 + 1) })
def pAt (st : NetSt) (i : Int) : Parcel := if isI st i then st.l.getD i.toNat zp else zp
def cAt (st : NetSt) (i : Int) : Int := if isI st i then 0 else 5
def nTake (st : NetSt) (i : Int) : NetSt := if isI st i then { l := st.l.eraseIdx i.toNat, c := upd st.c 1 (st.c 1 + 1) } else st
def nTwin (st : NetSt) (i : Int) : NetSt := if isI st i then { st with c := upd st.c 1 (st.c 1 + 1) } else st
def nDrop (st : NetSt) (i : Int) : NetSt := if isI st i then { l := st.l.eraseIdx i.toNat, c := upd st.c 2 (st.c 2 + 1) } else st
def cSwap (st : NetSt) (i j : Int) : Int := if isI st i ∧ isI st j then 0 else 5
def nSwap (st : NetSt) (i j : Int) : NetSt := if isI st i ∧ isI st j then { st with l := (st.l.set i.toNat (pAt st j)).set j.toNat (pAt st i) } else st
def kCut (st : NetSt) (a : Bool) (n : Int) : Int := if okA n then (st.l.length : Int) - ((st.l.filter (stays a n)).length : Int) else 0
def cCut (n : Int) : Int := if okA n then 0 else 50
def nCut (st : NetSt) (a : Bool) (n : Int) : NetSt := if okA n then cutSt a n st else st

theorem isI_nat {st : NetSt} {i : Int} (h : isI st i) : ∃ j : Nat, i = (j : Int) ∧ j < st.l.length := ⟨i.toNat, by have := h.1; omega, by have := h.2; have := h.1; omega⟩

section
variable {w : World} {N : List Nat} {bn k : Nat} {st : NetSt} (h : NetX w N bn k st) (hk : k < 1000000)
include h hk

theorem x_put (p : Parcel) (v : Value) (hp : Src w 1 v p.b.length (bcs p.b)) :
    Calls Try.prog 10 #[.pointer (some ⟨bn, 0, none⟩), .agg #[.bool p.fa, .int .i64 p.fn, .bool p.ta, .int .i64 p.tn, v]] w fun e w' =>
      e = .returned (.int .i64 (nPut st p).1) ∧ PostX w N bn (k + 1) (nPut st p).2 w' := by
  have hx := h
  obtain ⟨bm, lv, vs, k', hk', hn, rfl, hs⟩ := h
  unfold nPut
  split
  · rename_i h1
    exact (put_from hn p v h1).mono fun e w' ⟨h1, h2⟩ => ⟨h1, .quiet hx h2⟩
  split
  · rename_i h1 h2
    exact (put_to hn p v (Decidable.not_not.1 h1) h2).mono fun e w' ⟨h1, h2⟩ => ⟨h1, .quiet hx h2⟩
  split
  · rename_i h1 h2 h3
    exact (put_long hn p v hp (Decidable.not_not.1 h1) (Decidable.not_not.1 h2) h3).mono fun e w' ⟨h1, h2⟩ => ⟨h1, .quiet hx h2⟩
  rename_i h1 h2 h3
  split
  · rename_i h4
    exact (put_many hn (by omega) p v hp (Decidable.not_not.1 h1) (Decidable.not_not.1 h2) (by omega) h4).mono fun e w' ⟨h1, f, lv', vs', n, hs'⟩ => ⟨h1, f, _, ⟨bm, lv', vs', k' + 1, by omega, n, rfl, hs⟩, hs'⟩
  · rename_i h4
    have := hn.full
    refine (put_ok hn (by omega) p v hp (Decidable.not_not.1 h1) (Decidable.not_not.1 h2) (by omega) (by omega)).mono fun e w' ⟨h1, f, lv', vs', n, hs'⟩ => ⟨h1, f, _, ⟨bm, lv', vs', k' + 1, by omega, n, rfl, ?_⟩, hs'⟩
    intro q hq
    rcases List.mem_append.1 hq with hq | hq
    · exact hs q hq
    · simp at hq; subst hq; omega

theorem x_take (i : Int) : Calls Try.prog 12 #[.pointer (some ⟨bn, 0, none⟩), .int .i64 i] w fun e w' =>
    ∃ a c, e = .returned (.tuple #[.agg (pcs (pAt st i) (.slice a (pAt st i).b.length c)).toArray, .int .i64 (cAt st i)]) ∧
      GRow w' 5 1 (.slice a (pAt st i).b.length c) (pAt st i).b.length (bcs (pAt st i).b) ∧
      Fr (fun b => b ∈ N) w w' ∧ ∃ N', NetX w' N' bn (k + 1) (nTake st i) ∧ (∀ b ∈ N', b ∈ N ∨ w.heap.size ≤ b) ∧ (∀ b, a = some b → b.block ∉ N' ∧ (b.block ∈ N ∨ w.heap.size ≤ b.block)) := by
  have hx := h
  obtain ⟨bm, lv, vs, k', hk', hn, rfl, hs⟩ := h
  by_cases hi : isI st i
  · obtain ⟨j, rfl, hj⟩ := isI_nat hi
    have e1 : pAt st (j : Int) = st.l[j] := by unfold pAt; rw [if_pos hi]; simp [List.getD, hj]
    unfold cAt nTake
    rw [e1, if_pos hi, if_pos hi]
    refine (take_ok hn (by omega) j hj).mono ?_
    rintro e w' ⟨rfl, f, ⟨lv', vs', n, hs', hap⟩, g⟩
    obtain ⟨a, c, hv⟩ := g.form
    rw [hv] at g hap
    rw [hv]
    have hmem : ∀ b, (vs[j]'(hn.bytes.len ▸ hj)).ownBlock = some b → b ∈ netFp bn bm lv vs := fun b hb => by
      simp only [netFp, List.mem_cons]
      refine .inr (.inr ?_)
      cases ho : lv.ownBlock with
      | none => rw [List.filterMap_cons_none ho]; exact List.mem_filterMap.2 ⟨_, List.getElem_mem _, hb⟩
      | some x => rw [List.filterMap_cons_some ho]; exact List.mem_cons_of_mem _ (List.mem_filterMap.2 ⟨_, List.getElem_mem _, hb⟩)
    refine ⟨a, c, rfl, g, f, _, ⟨bm, lv', vs', k' + 1, by omega, n, rfl, fun q hq => hs q (List.mem_of_mem_eraseIdx hq)⟩, hs', fun b hb => ⟨hap b.block (by simp [Value.ownBlock, hb]), .inl (hmem _ (by rw [hv]; simp [Value.ownBlock, hb]))⟩⟩
  · have e1 : pAt st i = zp := by unfold pAt; rw [if_neg hi]
    unfold cAt nTake
    rw [e1, if_neg hi, if_neg hi]
    refine (take_bad hn i hi).mono ?_
    rintro e w' ⟨rfl, f⟩
    obtain ⟨f', N', n, hs'⟩ := PostX.quiet hx f
    exact ⟨none, 0, rfl, GRow.nil _ _ _, f', N', n, hs', by simp⟩

theorem x_twin (i : Int) : Calls Try.prog 11 #[.pointer (some ⟨bn, 0, none⟩), .int .i64 i] w fun e w' =>
    ∃ a c, e = .returned (.tuple #[.agg (pcs (pAt st i) (.slice a (pAt st i).b.length c)).toArray, .int .i64 (cAt st i)]) ∧
      GRow w' 5 1 (.slice a (pAt st i).b.length c) (pAt st i).b.length (bcs (pAt st i).b) ∧
      Fr (fun b => b ∈ N) w w' ∧ NetX w' N bn (k + 1) (nTwin st i) ∧ (∀ b, a = some b → w.heap.size ≤ b.block) := by
  have hx := h
  obtain ⟨bm, lv, vs, k', hk', hn, rfl, hs⟩ := h
  by_cases hi : isI st i
  · obtain ⟨j, rfl, hj⟩ := isI_nat hi
    have e1 : pAt st (j : Int) = st.l[j] := by unfold pAt; rw [if_pos hi]; simp [List.getD, hj]
    unfold cAt nTwin
    rw [e1, if_pos hi, if_pos hi]
    refine (twin_ok hn (by omega) j hj (hs _ (List.getElem_mem hj))).mono ?_
    rintro e w' ⟨a, c, rfl, g, hb, n, f⟩
    exact ⟨a, c, rfl, g, f.mono (fun b _ hb => by subst hb; simp [netFp]), ⟨bm, lv, vs, k' + 1, by omega, n, rfl, hs⟩, hb⟩
  · have e1 : pAt st i = zp := by unfold pAt; rw [if_neg hi]
    unfold cAt nTwin
    rw [e1, if_neg hi, if_neg hi]
    refine (twin_bad hn i hi).mono ?_
    rintro e w' ⟨rfl, f⟩
    exact ⟨none, 0, rfl, GRow.nil _ _ _, f.mono (fun _ _ => False.elim), (hx.fr f (fun _ _ => id)).mono (Nat.le_succ k), by simp⟩

omit hk in
theorem x_at (i : Int) : Calls Try.prog 23 #[.pointer (some ⟨bn, 0, none⟩), .int .i64 i] w fun e w' =>
    ∃ a c, e = .returned (.tuple #[.agg (pcs (pAt st i) (.slice a (pAt st i).b.length c)).toArray, .int .i64 (cAt st i)]) ∧
      GRow w' 5 1 (.slice a (pAt st i).b.length c) (pAt st i).b.length (bcs (pAt st i).b) ∧
      Fr Non w w' ∧ (∀ b, a = some b → w.heap.size ≤ b.block) := by
  have hx := h
  obtain ⟨bm, lv, vs, k', hk', hn, rfl, hs⟩ := h
  by_cases hi : isI st i
  · obtain ⟨j, rfl, hj⟩ := isI_nat hi
    have e1 : pAt st (j : Int) = st.l[j] := by unfold pAt; rw [if_pos hi]; simp [List.getD, hj]
    unfold cAt
    rw [e1, if_pos hi]
    refine (at_ok hn j hj (hs _ (List.getElem_mem hj))).mono ?_
    rintro e w' ⟨a, c, rfl, g, hb, f⟩
    exact ⟨a, c, rfl, g, f, hb⟩
  · have e1 : pAt st i = zp := by unfold pAt; rw [if_neg hi]
    unfold cAt
    rw [e1, if_neg hi]
    refine (at_bad hn i hi).mono ?_
    rintro e w' ⟨rfl, f⟩
    exact ⟨none, 0, rfl, GRow.nil _ _ _, f, by simp⟩

theorem x_drop (i : Int) : Calls Try.prog 16 #[.pointer (some ⟨bn, 0, none⟩), .int .i64 i] w fun e w' =>
    e = .returned (.int .i64 (cAt st i)) ∧ PostX w N bn (k + 1) (nDrop st i) w' := by
  have hx := h
  obtain ⟨bm, lv, vs, k', hk', hn, rfl, hs⟩ := h
  by_cases hi : isI st i
  · obtain ⟨j, rfl, hj⟩ := isI_nat hi
    unfold cAt nDrop
    rw [if_pos hi, if_pos hi]
    exact (drop_ok hn (by omega) j hj).mono fun e w' ⟨h1, f, lv', vs', n, hs'⟩ => ⟨h1, f, _, ⟨bm, lv', vs', k' + 1, by omega, n, rfl, fun q hq => hs q (List.mem_of_mem_eraseIdx hq)⟩, hs'⟩
  · unfold cAt nDrop
    rw [if_neg hi, if_neg hi]
    exact (drop_bad hn i hi).mono fun e w' ⟨h1, h2⟩ => ⟨h1, .quiet hx h2⟩

omit hk in
theorem x_swap (i j : Int) : Calls Try.prog 14 #[.pointer (some ⟨bn, 0, none⟩), .int .i64 i, .int .i64 j] w fun e w' =>
    e = .returned (.int .i64 (cSwap st i j)) ∧ PostX w N bn (k + 1) (nSwap st i j) w' := by
  have hx := h
  obtain ⟨bm, lv, vs, k', hk', hn, rfl, hs⟩ := h
  by_cases hi : isI st i ∧ isI st j
  · obtain ⟨a, rfl, ha⟩ := isI_nat hi.1
    obtain ⟨b, rfl, hb⟩ := isI_nat hi.2
    have e1 : pAt st (a : Int) = st.l[a] := by unfold pAt; rw [if_pos hi.1]; simp [List.getD, ha]
    have e2 : pAt st (b : Int) = st.l[b] := by unfold pAt; rw [if_pos hi.2]; simp [List.getD, hb]
    unfold cSwap nSwap
    rw [if_pos hi, if_pos hi, e1, e2]
    refine (swap_ok hn a b ha hb).mono fun e w' ⟨h1, f, lv', vs', n, hs'⟩ => ⟨h1, f, _, ⟨bm, lv', vs', k', by omega, n, rfl, fun q hq => ?_⟩, hs'⟩
    rcases List.mem_or_eq_of_mem_set hq with hq | rfl
    · rcases List.mem_or_eq_of_mem_set hq with hq | rfl
      · exact hs q hq
      · exact hs _ (List.getElem_mem _)
    · exact hs _ (List.getElem_mem _)
  · unfold cSwap nSwap
    rw [if_neg hi, if_neg hi]
    exact (swap_bad hn i j hi).mono fun e w' ⟨h1, h2⟩ => ⟨h1, .quiet hx h2⟩

theorem x_cut (a : Bool) (n : Int) : Calls Try.prog 19 #[.pointer (some ⟨bn, 0, none⟩), .agg #[.bool a, .int .i64 n]] w fun e w' =>
    e = .returned (.tuple #[.int .i64 (kCut st a n), .int .i64 (cCut n)]) ∧ PostX w N bn (k + 1) (nCut st a n) w' := by
  have hx := h
  obtain ⟨bm, lv, vs, k', hk', hn, rfl, hs⟩ := h
  by_cases hi : okA n
  · unfold kCut cCut nCut
    rw [if_pos hi, if_pos hi, if_pos hi]
    exact (cut_ok hn (by omega) a n hi).mono fun e w' ⟨h1, f, lv', vs', n, hs'⟩ => ⟨h1, f, _, ⟨bm, lv', vs', k' + 1, by omega, n, rfl, fun q hq => hs q (List.mem_filter.1 hq).1⟩, hs'⟩
  · unfold kCut cCut nCut
    rw [if_neg hi, if_neg hi, if_neg hi]
    exact (cut_bad hn a n hi).mono fun e w' ⟨h1, h2⟩ => ⟨h1, .quiet hx h2⟩
end

theorem x_len {w : World} {N : List Nat} {bn k : Nat} {st : NetSt} (h : NetX w N bn k st) :
    Calls Try.prog 18 #[.pointer (some ⟨bn, 0, none⟩)] w fun e w' => e = .returned (.int .i64 st.l.length) ∧ w' = w := by
  obtain ⟨bm, lv, vs, k', hk', hn, rfl, hs⟩ := h
  exact len_any hn
theorem x_stats {w : World} {N : List Nat} {bn k : Nat} {st : NetSt} (h : NetX w N bn k st) :
    Calls Try.prog 17 #[.pointer (some ⟨bn, 0, none⟩)] w fun e w' => e = .returned (statsOf (st.c 0) (st.c 1) (st.c 2) (st.c 3)) ∧ Fr Non w w' := by
  obtain ⟨bm, lv, vs, k', hk', hn, rfl, hs⟩ := h
  exact stats_any hn
theorem x_new (w : World) : Calls Try.prog 8 #[] w fun e w' => ∃ bn N, e = .returned (.pointer (some ⟨bn, 0, none⟩)) ∧ MineX w w' N bn 0 net0 := by
  refine (new_any w).mono ?_
  rintro e w' ⟨bn, bm, rfl, n, f, hs⟩
  exact ⟨bn, _, rfl, f, ⟨bm, _, _, 0, Nat.le_refl _, n, rfl, by simp [net0]⟩, hs⟩
end Go.Proofs.Ytkmpmibjenodlaa
