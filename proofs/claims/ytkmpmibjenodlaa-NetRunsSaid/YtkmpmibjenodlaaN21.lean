/-
  Net: NetOnly.
-/
import Derived.Test.YtkmpmibjenodlaaN19
import Derived.Test.YtkmpmibjenodlaaN20
namespace Go.Proofs.Ytkmpmibjenodlaa
open Go.RowKit Go.Maps

/-- A row of bytes that is one's own, whatever they are. -/
def ByteRow (w : World) (a : Option Addr) (n c : Nat) : Prop :=
  (a = none ∧ n = 0) ∨ ∃ g cur, a = some ⟨g, 0, none⟩ ∧ n ≤ c ∧ c ≤ maxLen ∧ w.heap[g]? = some (.cells cur 5 (0, 0)) ∧ ∀ i, i < n → ∃ y, cur[i]? = some (.int .u8 y)
theorem ByteRow.of {w : World} {a : Option Addr} {n c : Nat} {l : List UInt8} (h : GRow w 5 1 (.slice a n c) n (bcs l)) : ByteRow w a n c := by
  rcases h.2 with ⟨he, h0⟩ | ⟨g, cap, cur, he, hg, h1, h2, h3, h4⟩
  · cases he; exact .inl ⟨rfl, rfl⟩
  · cases he
    refine .inr ⟨g, cur, rfl, h1, h2, hg, fun i hi => ?_⟩
    have hl := h.1
    have hi' : i < l.length := by simp [bcs] at hl; omega
    have e : (bcs l)[i]? = some (.int .u8 (l[i].toNat : Int)) := by simp [bcs, hi']
    rw [← h4, List.getElem?_take_of_lt (by omega), Array.getElem?_toList] at e
    exact ⟨_, e⟩
theorem ByteRow.keep {w w' : World} {a : Option Addr} {n c : Nat} (h : ByteRow w a n c) (hk : ∀ b, a = some b → w'.heap[b.block]? = w.heap[b.block]?) : ByteRow w' a n c := by
  rcases h with h | ⟨g, cur, rfl, h1, h2, hg, h3⟩
  · exact .inl h
  · exact .inr ⟨g, cur, rfl, h1, h2, by rw [hk _ rfl]; exact hg, h3⟩
theorem ByteRow.set {w : World} {g n c : Nat} (h : ByteRow w (some ⟨g, 0, none⟩) n c) (i : Nat) (y : Int) : ByteRow (w.setCell ⟨g, i, none⟩ (.int .u8 y)) (some ⟨g, 0, none⟩) n c := by
  rcases h with ⟨he, _⟩ | ⟨g', cur, he, h1, h2, hg, h3⟩
  · cases he
  · cases he
    refine .inr ⟨g, cur.setIfInBounds i (.int .u8 y), rfl, h1, h2, ?_, fun j hj => ?_⟩
    · rw [setCell_eq_setRow w g i cur 5 (0, 0) _ hg]; exact setRow_heap w g _ _ 5 _ hg
    · obtain ⟨z, hz⟩ := h3 j hj
      by_cases e : i = j
      · subst e
        have : i < cur.size := by by_cases h : i < cur.size; exact h; rw [Array.getElem?_eq_none (by omega)] at hz; cases hz
        exact ⟨y, by simp [this]⟩
      · exact ⟨z, by rw [Array.getElem?_setIfInBounds_ne e]; exact hz⟩

theorem cutB_le (l : List UInt8) : (cutB l).length ≤ l.length := by unfold cutB; split <;> simp <;> omega

theorem nPut_list (st : NetSt) (p : Parcel) : ((nPut st p).1 = 0 → (nPut st p).2.l = st.l ++ [p]) ∧ (((nPut st p).1 == 0) = false → (nPut st p).2.l = st.l) := by
  unfold nPut
  split
  · exact ⟨fun h => (by cases h), fun _ => rfl⟩
  split
  · exact ⟨fun h => (by cases h), fun _ => rfl⟩
  split
  · exact ⟨fun h => (by cases h), fun _ => rfl⟩
  split
  · exact ⟨fun h => (by cases h), fun _ => rfl⟩
  · exact ⟨fun _ => rfl, fun h => by cases h⟩

theorem swap_sub (st : NetSt) (i k : Int) : ∀ p ∈ (nSwap st i k).l, p ∈ st.l := by
  intro p hp
  unfold nSwap at hp
  split at hp
  · rename_i h
    have hg : ∀ x : Int, isI st x → pAt st x ∈ st.l := fun x hx => by
      obtain ⟨y, rfl, hy⟩ := isI_nat hx
      unfold pAt
      rw [if_pos hx]
      simp only [Int.toNat_natCast, List.getD, List.getElem?_eq_getElem hy, Option.getD_some]
      exact List.getElem_mem hy
    rcases List.mem_or_eq_of_mem_set hp with hp | rfl
    · rcases List.mem_or_eq_of_mem_set hp with hp | rfl
      · exact hp
      · exact hg _ h.2
    · exact hg _ h.1
  · exact hp

/-- What is cut of what came is read where it was. -/
theorem src_back {w w' : World} {a : Option Addr} {c : Nat} {l : List UInt8} (h : Src w' 1 (.slice a l.length c) l.length (bcs l)) (f : Fr Non w w') (hS : ∀ x, a = some x → l = [] ∨ x.block < w.heap.size) : Src w 1 (.slice a l.length c) l.length (bcs l) := by
  refine ⟨h.1, h.2.1, ?_⟩
  rcases h.2.2 with h0 | ⟨ad, c', he, hc⟩
  · exact .inl h0
  · cases he
    refine .inr ⟨ad, c, rfl, fun j u hu => ?_⟩
    have hw := hc j u hu
    rcases hS ad rfl with h1 | h1
    · subst h1; simp [bcs] at hu
    · rw [World.cell?_of_block (w := w) (w' := w') (f.block _ (by rw [addr_add_block]; exact h1) id)] at hw
      exact hw

theorem unfrozen_of_block' {w : World} {g : Nat} {cs : Array Value} {t : TypeId} (h : w.heap[g]? = some (.cells cs t (0, 0))) (i : Nat) : w.frozen? ⟨g, i, none⟩ = false := by simp [World.frozen?, h]
theorem MineX.apart {T : Nat → Prop} {w0 w w' : World} {N : List Nat} {bn k : Nat} {st : NetSt} (h : MineX w0 w N bn k st) (f : Fr T w w') (hT : ∀ b, T b → b ∉ N ∧ w0.heap.size ≤ b) : MineX w0 w' N bn k st :=
  ⟨h.fr.trans2 f (fun b hb ht => by have := (hT b ht).2; omega), h.net.fr f (fun b hb ht => (hT b ht).1 hb), h.new⟩
theorem block_set {w : World} {g : Nat} {cs : Array Value} {t : TypeId} {fr : Nat × Nat} (h : w.heap[g]? = some (.cells cs t fr)) (i : Nat) (v : Value) : (w.setCell ⟨g, i, none⟩ v).heap[g]? = some (.cells (cs.setIfInBounds i v) t fr) := by
  rw [setCell_eq_setRow w g i cs t fr v h]; exact setRow_heap w g _ _ t _ h
theorem MineX.same {w0 w w' : World} {N : List Nat} {bn k k' : Nat} {st st' : NetSt} (h : MineX w0 w N bn k st) (f : Fr (fun b => b ∈ N) w w') (n : NetX w' N bn k' st') : MineX w0 w' N bn k' st' :=
  ⟨h.fr.trans2 f (fun b hb hm => by have := h.new b hm; omega), n, h.new⟩
theorem MineX.mono {w0 w : World} {N : List Nat} {bn k k' : Nat} {st : NetSt} (h : MineX w0 w N bn k st) (hk : k ≤ k') : MineX w0 w N bn k' st := ⟨h.fr, h.net.mono hk, h.new⟩

/-- All that was put, as it lies. -/
structure AllAt (w0 w : World) (N : List Nat) (v : Value) (A : List Parcel) (us : List Value) : Prop where
  row : GRow w 30 5 v A.length (rowOf A us)
  len : A.length = us.length
  src : ∀ i (h : i < us.length), ∃ a c, us[i] = .slice a (A[i]'(by omega)).b.length c ∧ Src w0 1 us[i] (A[i]'(by omega)).b.length (bcs (A[i]'(by omega)).b) ∧ ∀ x, a = some x → (A[i]'(by omega)).b = [] ∨ x.block < w0.heap.size
  new : ∀ b, v.ownBlock = some b → w0.heap.size ≤ b ∧ b ∉ N

theorem AllAt.apart {T : Nat → Prop} {w0 w w' : World} {N : List Nat} {v : Value} {A : List Parcel} {us : List Value} (h : AllAt w0 w N v A us) (f : Fr T w w') (hT : ∀ b, v.ownBlock = some b → ¬ T b) : AllAt w0 w' N v A us :=
  ⟨h.row.keep fun b hb => f.block b (h.row.lt b hb) (hT b hb), h.len, h.src, h.new⟩
theorem rowOf_at : ∀ {A : List Parcel} {us : List Value} (i : Nat) (hA : i < A.length) (hu : i < us.length) (j : Nat) (u : Value), (pcs A[i] us[i])[j]? = some u → (rowOf A us)[i * 5 + j]? = some u
  | p :: A, v :: us, 0, _, _, j, u, h => by
    have hj : j < (pcs p v).length := (List.getElem?_eq_some_iff.1 h).1
    rw [rowOf, Nat.zero_mul, Nat.zero_add, List.getElem?_append_left hj]; exact h
  | p :: A, v :: us, i + 1, hA, hu, j, u, h => by
    have h5 : (pcs p v).length = 5 := rfl
    rw [rowOf, List.getElem?_append_right (by omega), show (i + 1) * 5 + j - (pcs p v).length = i * 5 + j from by omega]
    exact rowOf_at i (by simpa using hA) (by simpa using hu) j u (by simpa using h)
theorem all_at {w : World} {a : Option Addr} {c : Nat} {A : List Parcel} {us : List Value} (h : GRow w 30 5 (.slice a A.length c) A.length (rowOf A us)) (hl : A.length = us.length) (i : Nat) (hi : i < A.length) :
    ∃ g, a = some ⟨g, 0, none⟩ ∧ w.cell? ⟨g, i * 5, none⟩ = some (.bool A[i].fa) ∧ w.cell? ⟨g, i * 5 + 1, none⟩ = some (.int .i64 A[i].fn) ∧ w.cell? ⟨g, i * 5 + 2, none⟩ = some (.bool A[i].ta) ∧
      w.cell? ⟨g, i * 5 + 3, none⟩ = some (.int .i64 A[i].tn) ∧ w.cell? ⟨g, i * 5 + 4, none⟩ = some (us[i]'(by omega)) := by
  have hu : i < us.length := by omega
  rcases id h.2 with ⟨_, h0⟩ | ⟨g, cap, cur, he, _⟩
  · omega
  · cases he
    have hc := h.cells (g := g) rfl
    refine ⟨g, rfl, ?_, ?_, ?_, ?_, ?_⟩
    · exact hc _ _ (rowOf_at i hi hu 0 _ rfl)
    · exact hc _ _ (rowOf_at i hi hu 1 _ rfl)
    · exact hc _ _ (rowOf_at i hi hu 2 _ rfl)
    · exact hc _ _ (rowOf_at i hi hu 3 _ rfl)
    · exact hc _ _ (rowOf_at i hi hu 4 _ rfl)
theorem AllAt.net {w0 w : World} {N N' : List Nat} {v : Value} {A : List Parcel} {us : List Value} (h : AllAt w0 w N v A us) (hN : ∀ b ∈ N', b ∈ N ∨ w.heap.size ≤ b) : AllAt w0 w N' v A us :=
  ⟨h.row, h.len, h.src, fun b hb => ⟨(h.new b hb).1, fun hm => (hN b hm).elim (h.new b hb).2 (fun hx => by have := h.row.lt b hb; omega)⟩⟩
theorem AllAt.more {w0 w w' : World} {N : List Nat} {v v' : Value} {A : List Parcel} {us : List Value} (h : AllAt w0 w N v A us) (p : Parcel) (a : Option Addr) (c : Nat)
    (hr : GRow w' 30 5 v' (A.length + 1) (rowOf A us ++ pcs p (.slice a p.b.length c))) (hs : Src w0 1 (.slice a p.b.length c) p.b.length (bcs p.b)) (hS : ∀ x, a = some x → p.b = [] ∨ x.block < w0.heap.size)
    (hv : v'.ownBlock = v.ownBlock ∨ ∃ n, v'.ownBlock = some n ∧ w.heap.size ≤ n) (hw : w0.heap.size ≤ w.heap.size) (hN : ∀ b ∈ N, b < w.heap.size) :
    AllAt w0 w' N v' (A ++ [p]) (us ++ [.slice a p.b.length c]) := by
  have hl := h.len
  refine ⟨?_, by simp [hl], fun i hi => ?_, fun b hb => ?_⟩
  · rw [rowOf_append _ _ hl, List.length_append]; simpa [rowOf] using hr
  · by_cases h1 : i < us.length
    · have := h.src i h1
      simp only [List.getElem_append_left (show i < us.length from h1), List.getElem_append_left (show i < A.length by omega)]
      exact this
    · have e : i = us.length := by simp at hi; omega
      subst e
      have e2 : (A ++ [p])[us.length]'(by simp; omega) = p := by rw [List.getElem_append_right (by omega)]; simp [hl]
      refine ⟨a, c, ?_, ?_, ?_⟩
      · rw [e2]; simp
      · rw [e2]; simpa using hs
      · rw [e2]; exact hS
  · rcases hv with hv | ⟨n, hv, hn⟩
    · exact h.new b (hv ▸ hb)
    · rw [hv] at hb; cases hb; exact ⟨Nat.le_trans hw hn, fun hm => by have := hN _ hm; omega⟩

set_option maxRecDepth 100000 in
set_option maxHeartbeats 4000000 in
theorem only_any {w : World} {v : Value} {l : List (Int × (((Bool × Int) × ((Bool × Int) × List UInt8)) × (Int × Int)))} (h : Sl kOp (Old w) w v l) :
    Calls Try.prog 3 #[v] w fun e w' => e = .returned (.bool true) ∧ Fr Non w w' := by
  have hmax := h.len
  unfold maxLen at hmax
  obtain ⟨va, vc, rfl⟩ := h.form
  have HS := Lib.hid h
  clear h
  go_enter Try.func3, Try.ntmps3
  go_wp2_with fail
  refine (x_new w).mono ?_
  rintro e w1 ⟨bn, N, rfl, m1⟩
  go_wp2_with fail
  go_loopw [4, 5] (fun x i wr => ∃ (j : Nat), j ≤ l.length ∧ j ≤ 100 ∧ i = .int .i64 j ∧ Hid (∃ N st A us, MineX w wr N bn (2 * j) st ∧ AllAt w wr N x A us ∧ A.length ≤ j ∧ ∀ p ∈ st.l, p ∈ A)) (fun _ i _ => 100 - (intOf i).toNat)
  case atStart => exact ⟨0, by omega, by omega, rfl, N, net0, [], [], m1, ⟨GRow.nil _ _ _, rfl, fun i h => by simp at h, fun b hb => by simp [Value.ownBlock] at hb⟩, by simp, by simp [net0]⟩
  case round =>
    obtain ⟨j, hj, hj1, rfl, HI⟩ := hrel
    obtain ⟨N, st, A, us, m, hall, hAl, hsub⟩ := HI.out
    by_cases hlt : j < l.length ∧ j < 100
    · obtain ⟨hlt, hlt1⟩ := hlt
      have j0 : (0 : Int) ≤ (j : Int) := by omega
      have j1 : (j : Int) < (l.length : Int) := by omega
      have j2 : (j : Int) < 100 := by omega
      obtain ⟨B, O, rfl⟩ : ∃ B O, va = some ⟨B, O, none⟩ := by
        rcases HS.out with ⟨_, e⟩ | ⟨ad, c, he, _, _, h3, _⟩
        · rw [e] at hlt; simp at hlt
        · cases he
          obtain ⟨B, O, sp⟩ := ad
          obtain ⟨hsp, _⟩ := h3 (by intro e; rw [e] at hlt; simp at hlt)
          simp only at hsp
          subst hsp
          exact ⟨B, O, rfl⟩
      have hE : Elems kOp (Old w) wr B O l := by
        rcases HS.out.frame m.fr (fun _ _ _ => id) with ⟨he, _⟩ | ⟨ad, c, he, _, _, _, h4⟩
        · cases he
        · cases he; exact h4
      have hBl := act_len hE j hlt
      obtain ⟨u, hu, c0, c1, c2, c3, c4, c5, c6, c7⟩ := act_at hE j hlt
      generalize l[j] = x at hBl hu c0 c1 c2 c3 c4 c5 c6 c7
      obtain ⟨kd, ⟨⟨fa, fn⟩, ⟨ta, tn⟩, bs⟩, i, k⟩ := x
      simp only at hBl hu c0 c1 c2 c3 c4 c5 c6 c7
      obtain ⟨ua, uc, rfl⟩ := hu.form
      have HU := Lib.hid hu
      clear hu hE
      have f2 : Fr Non wr (wr.alloc (.cells #[.int .i64 kd, .bool fa, .int .i64 fn, .bool ta, .int .i64 tn, .slice ua bs.length uc, .int .i64 i, .int .i64 k] 32)) := (Fr.refl _ _).alloc _
      go_wp2_with fail
      refine (cut_any ((HU.out.frame f2 (fun _ _ _ => id))) (HU.out.len) fa ta fn tn).mono ?_
      rintro e w3 ⟨qa, qc, rfl, hq, f3, hqS⟩
      have hz1 : wr.heap.size < w3.heap.size := by have := f3.size; simp at this; omega
      have hf3 : Fr Non wr w3 := f2.trans f3
      have hqb : Src w 1 (.slice qa (cutB bs).length qc) (cutB bs).length (bcs (cutB bs)) := src_back hq (m.fr.trans hf3) (fun x hx => (hqS x hx).imp (fun e => by rw [e]; rfl) id)
      have hqS' : ∀ x, qa = some x → (cutB bs) = [] ∨ x.block < w.heap.size := fun x hx => (hqS x hx).imp (fun e => by rw [e]; rfl) id
      have hob := f3.heap (alloc_at wr _) id
      have hql := Nat.le_trans (cutB_le bs) hBl
      generalize cutB bs = q at hq hqb hqS' hql
      have HQ := Lib.hid (And.intro hqb hqS')
      clear hqb hqS' hqS c0 c1 c2 c3 c4 c5 c6 c7
      have hf4 : Fr Non wr (w3.alloc (.cells #[.bool fa, .int .i64 fn, .bool ta, .int .i64 tn, .slice qa q.length qc] 30)) := hf3.alloc _
      have m4 := m.quiet hf4
      have hob4 := ((Fr.refl Non w3).alloc (.cells #[.bool fa, .int .i64 fn, .bool ta, .int .i64 tn, .slice qa q.length qc] 30)).box hob id
      have hpb4 := ((Fr.refl Non (w3.alloc (.cells #[.bool fa, .int .i64 fn, .bool ta, .int .i64 tn, .slice qa q.length qc] 30)))).box (alloc_at w3 _) id
      by_cases k1 : kd = 1
      · subst k1
        go_wp2_with (at_builtin; refine wpList_append_g rfl _ _ eI5 rfl _ 0 [] rfl ?hg _ q.length (bcs q) rfl ((hq.alloc _).alloc _) ?h1 ?h2 ?_)
        case hg => exact ⟨by simp, .inr ⟨_, _, _, rfl, alloc_at2' w3 _ _, Nat.le_refl _, by decide, by simp, by simp⟩⟩
        case h1 => unfold maxLen; omega
        case h2 => omega
        intro v' w5 g1 g2 g3 g4
        try simp only [Nat.zero_add, List.nil_append] at g1
        obtain ⟨ba, bc, rfl⟩ := g1.form
        have f5 : Fr Non wr w5 := (hf4.alloc _).trans2 g2 (fun x hx e => by simp [Value.ownBlock] at e; have := hf3.size; omega)
        have m5 := m.quiet f5
        have f45 : Fr Non (w3.alloc (.cells #[.bool fa, .int .i64 fn, .bool ta, .int .i64 tn, .slice qa q.length qc] 30)) w5 := ((Fr.refl _ _).alloc _).trans2 g2 (fun x hx e => by simp [Value.ownBlock] at e; simp at hx; omega)
        have hpb5 := f45.heap (alloc_at w3 _) id
        have q5 := (f45.box (alloc_at w3 _) id).1
        clear hob4 hpb4
        go_wp2_with fail
        refine (x_put m5.net (by omega) ⟨fa, fn, ta, tn, q⟩ _ (grow_src g1)).mono ?_
        rintro e w6 ⟨rfl, hp⟩
        obtain ⟨fN, N6, n6, s6⟩ := id hp
        obtain ⟨N6, m6, s6⟩ := m5.post hp
        have hNlt := m.net.lt
        have fN6 : Fr (fun b => b ∈ N) w5 w6 := fN
        have hz3 := hf3.size
        have hz5 := f45.size
        simp only [World.size_alloc] at hz5
        have q6 := (fN6.box hpb5 (fun hm => by have := hNlt _ hm; omega)).1
        clear q5
        have hbx : ∀ x, ba = some x → w3.heap.size < x.block ∧ x.block < w5.heap.size := fun x hx => by
          subst hx
          refine ⟨?_, g1.lt x.block (by simp [Value.ownBlock])⟩
          rcases g3 with g3 | ⟨g3, _⟩
          · simp [Value.ownBlock] at g3; omega
          · simp [Value.ownBlock] at g3; omega
        have hbr6 : ByteRow w6 ba q.length bc := (ByteRow.of g1).keep fun x hx => fN6.block _ (hbx x hx).2 (fun hm => by have := hNlt _ hm; have := (hbx x hx).1; omega)
        have hall6 : AllAt w w6 N6 _ A us := ((hall.apart f5 (fun _ _ => id)).net s6).apart fN6 (fun b hb => (hall.new b hb).2)
        have hcases := nPut_cases st ⟨fa, fn, ta, tn, q⟩
        have hput : (nPut st ⟨fa, fn, ta, tn, q⟩).1 = 0 → (nPut st ⟨fa, fn, ta, tn, q⟩).2.l = st.l ++ [⟨fa, fn, ta, tn, q⟩] := (nPut_list st _).1
        have hput' : ((nPut st ⟨fa, fn, ta, tn, q⟩).1 == 0) = false → (nPut st ⟨fa, fn, ta, tn, q⟩).2.l = st.l := (nPut_list st _).2
        have hbN : ∀ b, (∃ ad, ba = some ad ∧ ad.block = b) → b ∉ N6 ∧ w.heap.size ≤ b := fun b ⟨ad, h1, h2⟩ => by
          have hx := hbx ad h1
          have h3 := m.fr.size
          refine ⟨fun hm => ?_, by omega⟩
          rcases s6 b hm with h4 | h4
          · have := hNlt b h4; omega
          · omega
        have hbA : ∀ ad, ba = some ad → ∀ b, Value.ownBlock u4 = some b → ad.block ≠ b := fun ad h1 b hb e => by
          have hx := hbx ad h1
          have := hall.row.lt b hb
          omega
        generalize nPut st ⟨fa, fn, ta, tn, q⟩ = R at m6 hcases hput hput' ⊢
        obtain ⟨r, st6⟩ := R
        simp only at m6 hcases hput hput' ⊢
        rcases hcases with ⟨rfl, _, _⟩ | ⟨hr, _, _⟩
        · go_wp2_with (at_builtin; refine wpList_append_g rfl _ _ eI30 rfl _ _ _ rfl (hall6.row.keep fun b hb => ?k1) _ 1 (pcs ⟨fa, fn, ta, tn, q⟩ (.slice qa q.length qc)) rfl (Src.block (m := 1) (alloc_at w6 _) rfl (by simp [Value.oneCell'])) ?k2 ?k3 ?_)
          case k1 => exact Below.heap_alloc _ _ _ (hall6.row.lt b hb)
          case k2 => unfold maxLen; omega
          case k3 => omega
          intro v7 w7 r1 r2 r3
          have f67 : Fr (fun x => Value.ownBlock u4 = some x) w6 w7 := (((Fr.refl _ w6).alloc _)).trans2 r2 (fun x hx hy => hy)
          have hbr7 : ByteRow w7 ba q.length bc := hbr6.keep fun x hx => f67.block _ (by have := (hbx x hx).2; have := fN6.size; omega) (fun h => hbA x hx _ h rfl)
          have m7 := m6.apart f67 (fun x hx => ⟨(hall6.new x hx).2, (hall6.new x hx).1⟩)
          have hall7 : AllAt w w7 N6 v7 (A ++ [⟨fa, fn, ta, tn, q⟩]) (us ++ [.slice qa q.length qc]) := hall6.more ⟨fa, fn, ta, tn, q⟩ qa qc r1 HQ.out.1 HQ.out.2 (r3.imp id (fun hx => ⟨_, hx.1, by first | (simp; done) | (simp; omega) | omega⟩)) (by have := m6.fr.size; omega) m6.net.lt
          have hbA7 : ∀ ad, ba = some ad → ∀ b, v7.ownBlock = some b → ad.block ≠ b := fun ad h1 b hb e => by
            rcases r3 with r3 | ⟨r3, _⟩
            · exact hbA ad h1 b (r3 ▸ hb) e
            · rw [r3] at hb; cases hb
              have := (hbx ad h1).2; have := fN6.size; (try simp at e); omega
          have hsub7 : ∀ p ∈ st6.l, p ∈ A ++ [⟨fa, fn, ta, tn, q⟩] := by
            intro p hp
            rw [hput (by trivial)] at hp
            rcases List.mem_append.1 hp with hp | hp
            · exact List.mem_append.2 (.inl (hsub p hp))
            · exact List.mem_append.2 (.inr hp)
          go_wp2_with fail
          go_loopw [9] (fun c wl => ∃ mm : Nat, mm ≤ q.length ∧ c = .int .i64 mm ∧ Hid (ByteRow wl ba q.length bc ∧ Fr (fun x => ∃ ad, ba = some ad ∧ ad.block = x) w7 wl)) (fun c _ => q.length - (intOf c).toNat)
          case atStart => exact ⟨0, by omega, rfl, hbr7, Fr.refl _ _⟩
          case round =>
            obtain ⟨mm, hmm, rfl, HB⟩ := hrel
            obtain ⟨hB, fB⟩ := HB.out
            by_cases hmq : mm < q.length
            · have y0 : (0 : Int) ≤ (mm : Int) := by omega
              have y1 : (mm : Int) < (q.length : Int) := by omega
              have hB0 := hB
              rcases hB with ⟨_, h0⟩ | ⟨g, cur, hba, z1, z2, hg, z3⟩
              · omega
              · obtain ⟨y, hy⟩ := z3 mm hmq
                have hcell := (cell_of_row _ g mm cur 5 (0, 0) hg).trans hy
                have hfz := unfrozen_of_block' hg mm
                have HBA := Lib.hid hba
                have hB1 : ∀ z, ByteRow (wr.setCell ⟨g, mm, none⟩ (.int .u8 z)) ba q.length bc := fun z => by rw [hba] at hB0 ⊢; exact hB0.set mm z
                rw [hba]
                clear hba hg z3 hy hB0
                go_wp2_with fail
                go_roundw
                case rel =>
                  refine ⟨mm + 1, by omega, by go_num, ?_⟩
                  rw [← HBA.out]
                  exact ⟨hB1 _, fB.setCell (p := ⟨g, mm, none⟩) (.inl ⟨_, HBA.out, rfl⟩) _⟩
                case measure => simp [intOf]; omega
            · obtain rfl : mm = q.length := by omega
              go_wp2_with fail
              go_roundw
              case rel => exact ⟨j + 1, by omega, by omega, by go_num, N6, st6, _, _, (m7.mono (by omega)).apart fB (fun b hb => hbN b hb), hall7.apart fB (fun b hb ⟨ad, h1, h2⟩ => hbA7 ad h1 b hb h2), by simp; omega, hsub7⟩
              case measure => simp [intOf]; omega
        · go_wp2_with fail
          go_loopw [9] (fun c wl => ∃ mm : Nat, mm ≤ q.length ∧ c = .int .i64 mm ∧ Hid (ByteRow wl ba q.length bc ∧ Fr (fun x => ∃ ad, ba = some ad ∧ ad.block = x) w6 wl)) (fun c _ => q.length - (intOf c).toNat)
          case atStart => exact ⟨0, by omega, rfl, hbr6, Fr.refl _ _⟩
          case round =>
            obtain ⟨mm, hmm, rfl, HB⟩ := hrel
            obtain ⟨hB, fB⟩ := HB.out
            by_cases hmq : mm < q.length
            · have y0 : (0 : Int) ≤ (mm : Int) := by omega
              have y1 : (mm : Int) < (q.length : Int) := by omega
              have hB0 := hB
              rcases hB with ⟨_, h0⟩ | ⟨g, cur, hba, z1, z2, hg, z3⟩
              · omega
              · obtain ⟨y, hy⟩ := z3 mm hmq
                have hcell := (cell_of_row _ g mm cur 5 (0, 0) hg).trans hy
                have hfz := unfrozen_of_block' hg mm
                have HBA := Lib.hid hba
                have hB1 : ∀ z, ByteRow (wr.setCell ⟨g, mm, none⟩ (.int .u8 z)) ba q.length bc := fun z => by rw [hba] at hB0 ⊢; exact hB0.set mm z
                rw [hba]
                clear hba hg z3 hy hB0
                go_wp2_with fail
                go_roundw
                case rel =>
                  refine ⟨mm + 1, by omega, by go_num, ?_⟩
                  rw [← HBA.out]
                  exact ⟨hB1 _, fB.setCell (p := ⟨g, mm, none⟩) (.inl ⟨_, HBA.out, rfl⟩) _⟩
                case measure => simp [intOf]; omega
            · obtain rfl : mm = q.length := by omega
              go_wp2_with fail
              go_roundw
              case rel => exact ⟨j + 1, by omega, by omega, by go_num, N6, st6, A, us, (m6.mono (by omega)).apart fB (fun b hb => hbN b hb), hall6.apart fB (fun b hb ⟨ad, h1, h2⟩ => hbA ad h1 b hb h2), by omega, by rw [hput' hr]; exact hsub⟩
              case measure => simp [intOf]; omega
      have e1 : (kd == 1) = false := by simpa using k1
      have hNlt := m.net.lt
      have hz3 := hf3.size
      by_cases k3 : kd = 3
      · subst k3
        have ho4 := hob4.1
        go_wp2_with fail
        refine (x_twin m4.net (by omega) i).mono ?_
        rintro e w5 ⟨xa, xc, rfl, g5, f5, n5, hxb⟩
        have m5 := m4.same f5 n5
        have ho5 := (f5.box (((Fr.refl Non w3).alloc _).heap hob id) (fun hm => by have := hNlt _ hm; omega)).1
        have hz5 := f5.size
        simp only [World.size_alloc] at hz5
        clear ho4 hob4 hpb4
        have hz6 : wr.heap.size < w5.heap.size := by omega
        have hP : cAt st i = 0 → pAt st i ∈ A := fun h0 => by
          have hi : isI st i := by
            by_cases hi : isI st i
            · exact hi
            · unfold cAt at h0; rw [if_neg hi] at h0; cases h0
          obtain ⟨y, rfl, hy⟩ := isI_nat hi
          unfold pAt
          rw [if_pos hi]
          simp only [Int.toNat_natCast, List.getD, List.getElem?_eq_getElem hy, Option.getD_some]
          exact hsub _ (List.getElem_mem hy)
        have hr0 : cAt st i = 0 ∨ (cAt st i == 0) = false := by unfold cAt; split <;> simp
        have hsub6 : ∀ p ∈ (nTwin st i).l, p ∈ A := by
          intro p hp
          refine hsub p ?_
          unfold nTwin at hp
          split at hp <;> exact hp
        generalize nTwin st i = st6 at m5 hsub6
        generalize cAt st i = r at hP hr0 ⊢
        generalize pAt st i = P at hP g5 ⊢
        simp only [pcs]
        obtain ⟨w6, hw6⟩ : ∃ x, x = w5.alloc (.cells #[.bool P.fa, .int .i64 P.fn, .bool P.ta, .int .i64 P.tn, .slice xa P.b.length xc] 30) := ⟨_, rfl⟩
        have f56 : Fr Non w5 w6 := by rw [hw6]; exact (Fr.refl _ _).alloc _
        have htb : w6.heap[w5.heap.size]? = some (.cells #[.bool P.fa, .int .i64 P.fn, .bool P.ta, .int .i64 P.tn, .slice xa P.b.length xc] 30) := by rw [hw6]; exact alloc_at _ _
        have m6 := (m5.quiet f56).mono (k' := 2 * (j + 1)) (by omega)
        have hall6 : AllAt w w6 N _ A us := ((hall.apart hf4 (fun _ _ => id)).apart f5 (fun b hb => (hall.new b hb).2)).apart f56 (fun _ _ => id)
        have hxr := g5.keep (w' := w6) (fun b hb => f56.block b (g5.lt b hb) id)
        have hxw : ∀ ad, xa = some ad → w3.heap.size ≤ ad.block ∧ ad.block < w5.heap.size := fun ad h1 => ⟨by have := hxb ad h1; simp at this; omega, g5.lt ad.block (by simp [Value.ownBlock, h1])⟩
        have hxN : ∀ ad, xa = some ad → ad.block ∉ N ∧ w.heap.size ≤ ad.block := fun ad h1 => ⟨fun hm => by have := hNlt _ hm; have := (hxw ad h1).1; omega, by have := (hxw ad h1).1; have := m.fr.size; omega⟩
        have hxA : ∀ ad, xa = some ad → ∀ b, Value.ownBlock u4 = some b → ad.block ≠ b := fun ad h1 b hb e => by have := hall.row.lt b hb; have := (hxw ad h1).1; omega
        have hxtb : ∀ ad, xa = some ad → ad.block ≠ w5.heap.size := fun ad h1 e => by have := (hxw ad h1).2; omega
        rcases hr0 with rfl | hr0
        · have hP := hP rfl
          go_wp2_with fail
          rw [← hw6]
          go_loopw [12, 13] (fun t c wl => ∃ (mm : Nat) (tv : Bool), mm ≤ A.length ∧ c = .int .i64 mm ∧ t = .bool tv ∧ Hid (tv = (false || (A.take mm).any (fun p => decide (p = P)))) ∧ Fr Non w6 wl) (fun _ c _ => A.length - (intOf c).toNat)
          case atStart => exact ⟨0, false, by omega, rfl, by first | rfl | (simpa using hr0), by simp [Hid], Fr.refl _ _⟩
          case round =>
            obtain ⟨mm, tv, hmm, rfl, rfl, HTV, fl⟩ := hrel
            obtain ⟨aa, ac, hav⟩ := hall6.row.form
            subst hav
            by_cases hmA : mm < A.length
            · have y0 : (0 : Int) ≤ (mm : Int) := by omega
              have y1 : (mm : Int) < (A.length : Int) := by omega
              have htk : (A.take (mm + 1)).any (fun p => decide (p = P)) = ((A.take mm).any (fun p => decide (p = P)) || decide (A[mm] = P)) := by
                rw [List.take_succ_eq_append_getElem hmA, List.any_append]; simp
              have HTK := Lib.hid htk
              clear htk
              cases tv with
              | true =>
                go_wp2_with fail
                refine wp_draw [((Fr Non w6), [(.free, 0), (.free, 1), (.free, 2), (.free, 3), (.free, 4), (.held, 5), (.held, 6), (.kept, 7), (.free, 8), (.free, 9)])] 10 (by kernel_rfl) (by kernel_rfl) (fun _ _ _ _ _ h => h) ⟨fl.drew, ?_⟩
                repeat (first
                  | (refine' wpPlan_free (v := _) rfl (by rfl) ?_ ?_
                     rotate_left
                     · (intro w'; go_simp; try rfl)
                     simp only [List.getElem_toArray, List.getElem_cons_zero, List.getElem_cons_succ, Act.put, List.setIfInBounds_toArray, List.set_cons_zero, List.set_cons_succ])
                  | (refine' wpPlan_held (v := _) rfl (by rfl) ?_ ?_
                     rotate_left
                     · (intro w' hS; go_simp; try rfl)
                     simp only [List.getElem_toArray, List.getElem_cons_zero, List.getElem_cons_succ, Act.put, List.setIfInBounds_toArray, List.set_cons_zero, List.set_cons_succ])
                  | (refine' wpPlan_skip rfl (by rfl) ?_
                     simp only [List.getElem_toArray, List.getElem_cons_zero, List.getElem_cons_succ, Act.put, List.setIfInBounds_toArray, List.set_cons_zero, List.set_cons_succ])
                  | (refine' wpPlan_skipHeld rfl (by rfl) ?_
                     simp only [List.getElem_toArray, List.getElem_cons_zero, List.getElem_cons_succ, Act.put, List.setIfInBounds_toArray, List.set_cons_zero, List.set_cons_succ]))
                refine' wpPlan_kept rfl ?_
                intro K hK
                go_simp
                refine hK _ _ ⟨fl.drew, ?_⟩
                clear hK K
                repeat (first
                  | (refine' wpPlan_free (v := _) rfl (by rfl) ?_ ?_
                     rotate_left
                     · (intro w'; go_simp; try rfl)
                     simp only [List.getElem_toArray, List.getElem_cons_zero, List.getElem_cons_succ, Act.put, List.setIfInBounds_toArray, List.set_cons_zero, List.set_cons_succ])
                  | (refine' wpPlan_held (v := _) rfl (by rfl) ?_ ?_
                     rotate_left
                     · (intro w' hS; go_simp; try rfl)
                     simp only [List.getElem_toArray, List.getElem_cons_zero, List.getElem_cons_succ, Act.put, List.setIfInBounds_toArray, List.set_cons_zero, List.set_cons_succ])
                  | (refine' wpPlan_skip rfl (by rfl) ?_
                     simp only [List.getElem_toArray, List.getElem_cons_zero, List.getElem_cons_succ, Act.put, List.setIfInBounds_toArray, List.set_cons_zero, List.set_cons_succ])
                  | (refine' wpPlan_skipHeld rfl (by rfl) ?_
                     simp only [List.getElem_toArray, List.getElem_cons_zero, List.getElem_cons_succ, Act.put, List.setIfInBounds_toArray, List.set_cons_zero, List.set_cons_succ]))
                refine wpPlan_end ?_
                simp only [wpSegs, List.drop_succ_cons, List.drop_zero]
                go_wp2_with fail
                go_roundw
                case rel => exact ⟨mm + 1, true, by omega, by go_num, rfl, by rw [HTK.out]; have := HTV.out; simp only [Hid, ← Bool.or_assoc, ← this]; rfl, fl.drew⟩
                case measure => simp [intOf]; omega
              | false =>
                obtain ⟨ma, mc, hmu, hms, hmS⟩ := hall6.src mm (by have := hall6.len; omega)
                obtain ⟨AG, haa, w0, w1, w2, w3, w4⟩ := all_at hall6.row hall6.len mm hmA
                subst haa
                rw [hmu] at w4 hms
                have hmd := (hms.keep (w' := wr) (fun a c he hlt => (m6.fr.trans fl).block _ hlt id))
                generalize A[mm] = Q at w0 w1 w2 w3 w4 hms hmd HTK
                have HW := Lib.hid (And.intro w0 (And.intro w1 (And.intro w2 (And.intro w3 w4))))
                clear w0 w1 w2 w3 w4 hmS hmu
                go_wp2_with fail
                refine wp_draw [((Fr Non w6), [(.free, 0), (.free, 1), (.free, 2), (.free, 3), (.free, 4), (.held, 5), (.held, 6), (.kept, 7), (.free, 8), (.free, 9)])] 10 (by kernel_rfl) (by kernel_rfl) (fun _ _ _ _ _ h => h) ⟨fl.drew, ?_⟩
                repeat (first
                  | (refine' wpPlan_free (v := _) rfl (by rfl) ?_ ?_
                     rotate_left
                     · (intro w'; go_simp; try rfl)
                     simp only [List.getElem_toArray, List.getElem_cons_zero, List.getElem_cons_succ, Act.put, List.setIfInBounds_toArray, List.set_cons_zero, List.set_cons_succ])
                  | (refine' wpPlan_held (v := _) rfl (by rfl) ?_ ?_
                     rotate_left
                     · (intro w' hS; obtain ⟨w0, w1, w2, w3, w4⟩ := HW.out; have w0 := hS.cell w0 id; have w1 := hS.cell w1 id; have w2 := hS.cell w2 id; have w3 := hS.cell w3 id; have w4 := hS.cell w4 id; have wb := (hS.box htb id).1; go_simp; try rfl)
                     simp only [List.getElem_toArray, List.getElem_cons_zero, List.getElem_cons_succ, Act.put, List.setIfInBounds_toArray, List.set_cons_zero, List.set_cons_succ])
                  | (refine' wpPlan_skip rfl (by rfl) ?_
                     simp only [List.getElem_toArray, List.getElem_cons_zero, List.getElem_cons_succ, Act.put, List.setIfInBounds_toArray, List.set_cons_zero, List.set_cons_succ])
                  | (refine' wpPlan_skipHeld rfl (by rfl) ?_
                     simp only [List.getElem_toArray, List.getElem_cons_zero, List.getElem_cons_succ, Act.put, List.setIfInBounds_toArray, List.set_cons_zero, List.set_cons_succ]))
                refine' wpPlan_kept rfl ?_
                intro K hK
                go_simp
                refine (same_any Q P _ _ hmd.drew ((grow_src hxr).keep (w' := wr.drew) (fun a c he hlt => fl.drew.block _ hlt id))).mono ?_
                rintro e w8 ⟨rfl, g8⟩
                go_simp
                refine hK _ _ ⟨fl.drew.trans g8, ?_⟩
                clear hK K
                repeat (first
                  | (refine' wpPlan_free (v := _) rfl (by rfl) ?_ ?_
                     rotate_left
                     · (intro w'; go_simp; try rfl)
                     simp only [List.getElem_toArray, List.getElem_cons_zero, List.getElem_cons_succ, Act.put, List.setIfInBounds_toArray, List.set_cons_zero, List.set_cons_succ])
                  | (refine' wpPlan_held (v := _) rfl (by rfl) ?_ ?_
                     rotate_left
                     · (intro w' hS; go_simp; try rfl)
                     simp only [List.getElem_toArray, List.getElem_cons_zero, List.getElem_cons_succ, Act.put, List.setIfInBounds_toArray, List.set_cons_zero, List.set_cons_succ])
                  | (refine' wpPlan_skip rfl (by rfl) ?_
                     simp only [List.getElem_toArray, List.getElem_cons_zero, List.getElem_cons_succ, Act.put, List.setIfInBounds_toArray, List.set_cons_zero, List.set_cons_succ])
                  | (refine' wpPlan_skipHeld rfl (by rfl) ?_
                     simp only [List.getElem_toArray, List.getElem_cons_zero, List.getElem_cons_succ, Act.put, List.setIfInBounds_toArray, List.set_cons_zero, List.set_cons_succ]))
                refine wpPlan_end ?_
                simp only [wpSegs, List.drop_succ_cons, List.drop_zero]
                go_wp2_with fail
                go_roundw
                case rel => exact ⟨mm + 1, decide (Q = P), by omega, by go_num, rfl, by rw [HTK.out]; have := HTV.out; simp only [Hid, ← Bool.or_assoc, ← this]; rfl, fl.drew.trans g8⟩
                case measure => simp [intOf]; omega
            · obtain rfl : mm = A.length := by omega
              obtain rfl : tv = true := by have := HTV.out; rw [this]; simp [hP]
              go_wp2_with fail
              have hbr0 : ByteRow wr xa P.b.length xc := (ByteRow.of hxr).keep fun x hx => fl.block _ (hxr.lt x.block (by simp [Value.ownBlock, hx])) id
              have htb0 := fl.heap htb id
              have m8 := m6.quiet fl
              have hall8 := hall6.apart fl (fun _ _ => id)
              clear hmm hmA
              go_loopw [14] (fun c wl => ∃ mm : Nat, mm ≤ P.b.length ∧ c = .int .i64 mm ∧ Hid (ByteRow wl xa P.b.length xc ∧ Fr (fun x => ∃ ad, xa = some ad ∧ ad.block = x) wr wl)) (fun c _ => P.b.length - (intOf c).toNat)
              case atStart => exact ⟨0, by omega, rfl, hbr0, Fr.refl _ _⟩
              case round =>
                obtain ⟨mm, hmm, rfl, HB⟩ := hrel
                obtain ⟨hB, fB⟩ := HB.out
                have htc := (fB.box htb0 (fun ⟨ad, h1, h2⟩ => hxtb ad h1 h2)).1
                by_cases hmq : mm < P.b.length
                · have y0 : (0 : Int) ≤ (mm : Int) := by omega
                  have y1 : (mm : Int) < (P.b.length : Int) := by omega
                  have hB0 := hB
                  rcases hB with ⟨_, h0⟩ | ⟨g, cur, hba, z1, z2, hg, z3⟩
                  · omega
                  · obtain ⟨y, hy⟩ := z3 mm hmq
                    have hcell := (cell_of_row _ g mm cur 5 (0, 0) hg).trans hy
                    have hfz := unfrozen_of_block' hg mm
                    have HBA := Lib.hid hba
                    have hB1 : ∀ z, ByteRow (wr.drew.setCell ⟨g, mm, none⟩ (.int .u8 z)) xa P.b.length xc := fun z => by rw [hba] at hB0 ⊢; exact ByteRow.set (w := wr.drew) hB0 mm z
                    rw [hba] at htc ⊢
                    clear hba hg z3 hy hB0
                    go_wp2_with fail
                    refine wp_draw [((fun x => x = wr.drew), [(.free, 0), (.held, 1), (.free, 2), (.free, 3), (.held, 4), (.free, 5), (.free, 6), (.held, 7), (.free, 8), (.free, 9)])] 10 (by kernel_rfl) (by kernel_rfl) (fun _ _ _ _ _ h => h) ⟨rfl, ?_⟩
                    repeat (first
                      | (refine' wpPlan_free (v := _) rfl (by rfl) ?_ ?_
                         rotate_left
                         · (intro w'; go_simp; try rfl)
                         simp only [List.getElem_toArray, List.getElem_cons_zero, List.getElem_cons_succ, Act.put, List.setIfInBounds_toArray, List.set_cons_zero, List.set_cons_succ])
                      | (refine' wpPlan_held (v := _) rfl (by rfl) ?_ ?_
                         rotate_left
                         · (intro w' hS; subst hS; go_simp; try rfl)
                         simp only [List.getElem_toArray, List.getElem_cons_zero, List.getElem_cons_succ, Act.put, List.setIfInBounds_toArray, List.set_cons_zero, List.set_cons_succ])
                      | (refine' wpPlan_skip rfl (by rfl) ?_
                         simp only [List.getElem_toArray, List.getElem_cons_zero, List.getElem_cons_succ, Act.put, List.setIfInBounds_toArray, List.set_cons_zero, List.set_cons_succ])
                      | (refine' wpPlan_skipHeld rfl (by rfl) ?_
                         simp only [List.getElem_toArray, List.getElem_cons_zero, List.getElem_cons_succ, Act.put, List.setIfInBounds_toArray, List.set_cons_zero, List.set_cons_succ]))
                    refine wpPlan_end ?_
                    simp only [wpSegs, List.drop_succ_cons, List.drop_zero]
                    have y2 : (mm : Int) < 9223372036854775807 := by unfold maxLen at z2; omega
                    go_wp2_with fail
                    go_roundw
                    case rel =>
                      refine ⟨mm + 1, by omega, by go_num, ?_⟩
                      rw [← HBA.out]
                      exact ⟨hB1 _, (fB.setCell (p := ⟨g, mm, none⟩) (.inl ⟨_, HBA.out, rfl⟩) _).drew⟩
                    case measure => simp [intOf]; omega
                · obtain rfl : mm = P.b.length := by omega
                  go_wp2_with fail
                  go_roundw
                  case rel => exact ⟨j + 1, by omega, by omega, by go_num, _, st6, A, us, m8.apart fB (fun b ⟨ad, h1, h2⟩ => h2 ▸ hxN ad h1), hall8.apart fB (fun b hb ⟨ad, h1, h2⟩ => hxA ad h1 b hb h2), by omega, hsub6⟩
                  case measure => simp [intOf]; omega
        · go_wp2_with fail
          rw [← hw6]
          go_loopw [12, 13] (fun t c wl => ∃ (mm : Nat) (tv : Bool), mm ≤ A.length ∧ c = .int .i64 mm ∧ t = .bool tv ∧ Hid (tv = (true || (A.take mm).any (fun p => decide (p = P)))) ∧ Fr Non w6 wl) (fun _ c _ => A.length - (intOf c).toNat)
          case atStart => exact ⟨0, true, by omega, rfl, by first | rfl | (simpa using hr0), by simp [Hid], Fr.refl _ _⟩
          case round =>
            obtain ⟨mm, tv, hmm, rfl, rfl, HTV, fl⟩ := hrel
            obtain ⟨aa, ac, hav⟩ := hall6.row.form
            subst hav
            by_cases hmA : mm < A.length
            · have y0 : (0 : Int) ≤ (mm : Int) := by omega
              have y1 : (mm : Int) < (A.length : Int) := by omega
              have htk : (A.take (mm + 1)).any (fun p => decide (p = P)) = ((A.take mm).any (fun p => decide (p = P)) || decide (A[mm] = P)) := by
                rw [List.take_succ_eq_append_getElem hmA, List.any_append]; simp
              have HTK := Lib.hid htk
              clear htk
              cases tv with
              | true =>
                go_wp2_with fail
                refine wp_draw [((Fr Non w6), [(.free, 0), (.free, 1), (.free, 2), (.free, 3), (.free, 4), (.held, 5), (.held, 6), (.kept, 7), (.free, 8), (.free, 9)])] 10 (by kernel_rfl) (by kernel_rfl) (fun _ _ _ _ _ h => h) ⟨fl.drew, ?_⟩
                repeat (first
                  | (refine' wpPlan_free (v := _) rfl (by rfl) ?_ ?_
                     rotate_left
                     · (intro w'; go_simp; try rfl)
                     simp only [List.getElem_toArray, List.getElem_cons_zero, List.getElem_cons_succ, Act.put, List.setIfInBounds_toArray, List.set_cons_zero, List.set_cons_succ])
                  | (refine' wpPlan_held (v := _) rfl (by rfl) ?_ ?_
                     rotate_left
                     · (intro w' hS; go_simp; try rfl)
                     simp only [List.getElem_toArray, List.getElem_cons_zero, List.getElem_cons_succ, Act.put, List.setIfInBounds_toArray, List.set_cons_zero, List.set_cons_succ])
                  | (refine' wpPlan_skip rfl (by rfl) ?_
                     simp only [List.getElem_toArray, List.getElem_cons_zero, List.getElem_cons_succ, Act.put, List.setIfInBounds_toArray, List.set_cons_zero, List.set_cons_succ])
                  | (refine' wpPlan_skipHeld rfl (by rfl) ?_
                     simp only [List.getElem_toArray, List.getElem_cons_zero, List.getElem_cons_succ, Act.put, List.setIfInBounds_toArray, List.set_cons_zero, List.set_cons_succ]))
                refine' wpPlan_kept rfl ?_
                intro K hK
                go_simp
                refine hK _ _ ⟨fl.drew, ?_⟩
                clear hK K
                repeat (first
                  | (refine' wpPlan_free (v := _) rfl (by rfl) ?_ ?_
                     rotate_left
                     · (intro w'; go_simp; try rfl)
                     simp only [List.getElem_toArray, List.getElem_cons_zero, List.getElem_cons_succ, Act.put, List.setIfInBounds_toArray, List.set_cons_zero, List.set_cons_succ])
                  | (refine' wpPlan_held (v := _) rfl (by rfl) ?_ ?_
                     rotate_left
                     · (intro w' hS; go_simp; try rfl)
                     simp only [List.getElem_toArray, List.getElem_cons_zero, List.getElem_cons_succ, Act.put, List.setIfInBounds_toArray, List.set_cons_zero, List.set_cons_succ])
                  | (refine' wpPlan_skip rfl (by rfl) ?_
                     simp only [List.getElem_toArray, List.getElem_cons_zero, List.getElem_cons_succ, Act.put, List.setIfInBounds_toArray, List.set_cons_zero, List.set_cons_succ])
                  | (refine' wpPlan_skipHeld rfl (by rfl) ?_
                     simp only [List.getElem_toArray, List.getElem_cons_zero, List.getElem_cons_succ, Act.put, List.setIfInBounds_toArray, List.set_cons_zero, List.set_cons_succ]))
                refine wpPlan_end ?_
                simp only [wpSegs, List.drop_succ_cons, List.drop_zero]
                go_wp2_with fail
                go_roundw
                case rel => exact ⟨mm + 1, true, by omega, by go_num, rfl, by rw [HTK.out]; have := HTV.out; simp only [Hid, ← Bool.or_assoc, ← this]; rfl, fl.drew⟩
                case measure => simp [intOf]; omega
              | false =>
                obtain ⟨ma, mc, hmu, hms, hmS⟩ := hall6.src mm (by have := hall6.len; omega)
                obtain ⟨AG, haa, w0, w1, w2, w3, w4⟩ := all_at hall6.row hall6.len mm hmA
                subst haa
                rw [hmu] at w4 hms
                have hmd := (hms.keep (w' := wr) (fun a c he hlt => (m6.fr.trans fl).block _ hlt id))
                generalize A[mm] = Q at w0 w1 w2 w3 w4 hms hmd HTK
                have HW := Lib.hid (And.intro w0 (And.intro w1 (And.intro w2 (And.intro w3 w4))))
                clear w0 w1 w2 w3 w4 hmS hmu
                go_wp2_with fail
                refine wp_draw [((Fr Non w6), [(.free, 0), (.free, 1), (.free, 2), (.free, 3), (.free, 4), (.held, 5), (.held, 6), (.kept, 7), (.free, 8), (.free, 9)])] 10 (by kernel_rfl) (by kernel_rfl) (fun _ _ _ _ _ h => h) ⟨fl.drew, ?_⟩
                repeat (first
                  | (refine' wpPlan_free (v := _) rfl (by rfl) ?_ ?_
                     rotate_left
                     · (intro w'; go_simp; try rfl)
                     simp only [List.getElem_toArray, List.getElem_cons_zero, List.getElem_cons_succ, Act.put, List.setIfInBounds_toArray, List.set_cons_zero, List.set_cons_succ])
                  | (refine' wpPlan_held (v := _) rfl (by rfl) ?_ ?_
                     rotate_left
                     · (intro w' hS; obtain ⟨w0, w1, w2, w3, w4⟩ := HW.out; have w0 := hS.cell w0 id; have w1 := hS.cell w1 id; have w2 := hS.cell w2 id; have w3 := hS.cell w3 id; have w4 := hS.cell w4 id; have wb := (hS.box htb id).1; go_simp; try rfl)
                     simp only [List.getElem_toArray, List.getElem_cons_zero, List.getElem_cons_succ, Act.put, List.setIfInBounds_toArray, List.set_cons_zero, List.set_cons_succ])
                  | (refine' wpPlan_skip rfl (by rfl) ?_
                     simp only [List.getElem_toArray, List.getElem_cons_zero, List.getElem_cons_succ, Act.put, List.setIfInBounds_toArray, List.set_cons_zero, List.set_cons_succ])
                  | (refine' wpPlan_skipHeld rfl (by rfl) ?_
                     simp only [List.getElem_toArray, List.getElem_cons_zero, List.getElem_cons_succ, Act.put, List.setIfInBounds_toArray, List.set_cons_zero, List.set_cons_succ]))
                refine' wpPlan_kept rfl ?_
                intro K hK
                go_simp
                refine (same_any Q P _ _ hmd.drew ((grow_src hxr).keep (w' := wr.drew) (fun a c he hlt => fl.drew.block _ hlt id))).mono ?_
                rintro e w8 ⟨rfl, g8⟩
                go_simp
                refine hK _ _ ⟨fl.drew.trans g8, ?_⟩
                clear hK K
                repeat (first
                  | (refine' wpPlan_free (v := _) rfl (by rfl) ?_ ?_
                     rotate_left
                     · (intro w'; go_simp; try rfl)
                     simp only [List.getElem_toArray, List.getElem_cons_zero, List.getElem_cons_succ, Act.put, List.setIfInBounds_toArray, List.set_cons_zero, List.set_cons_succ])
                  | (refine' wpPlan_held (v := _) rfl (by rfl) ?_ ?_
                     rotate_left
                     · (intro w' hS; go_simp; try rfl)
                     simp only [List.getElem_toArray, List.getElem_cons_zero, List.getElem_cons_succ, Act.put, List.setIfInBounds_toArray, List.set_cons_zero, List.set_cons_succ])
                  | (refine' wpPlan_skip rfl (by rfl) ?_
                     simp only [List.getElem_toArray, List.getElem_cons_zero, List.getElem_cons_succ, Act.put, List.setIfInBounds_toArray, List.set_cons_zero, List.set_cons_succ])
                  | (refine' wpPlan_skipHeld rfl (by rfl) ?_
                     simp only [List.getElem_toArray, List.getElem_cons_zero, List.getElem_cons_succ, Act.put, List.setIfInBounds_toArray, List.set_cons_zero, List.set_cons_succ]))
                refine wpPlan_end ?_
                simp only [wpSegs, List.drop_succ_cons, List.drop_zero]
                go_wp2_with fail
                go_roundw
                case rel => exact ⟨mm + 1, decide (Q = P), by omega, by go_num, rfl, by rw [HTK.out]; have := HTV.out; simp only [Hid, ← Bool.or_assoc, ← this]; rfl, fl.drew.trans g8⟩
                case measure => simp [intOf]; omega
            · obtain rfl : mm = A.length := by omega
              obtain rfl : tv = true := by have := HTV.out; rw [this]; rfl
              go_wp2_with fail
              have hbr0 : ByteRow wr xa P.b.length xc := (ByteRow.of hxr).keep fun x hx => fl.block _ (hxr.lt x.block (by simp [Value.ownBlock, hx])) id
              have htb0 := fl.heap htb id
              have m8 := m6.quiet fl
              have hall8 := hall6.apart fl (fun _ _ => id)
              clear hmm hmA
              go_loopw [14] (fun c wl => ∃ mm : Nat, mm ≤ P.b.length ∧ c = .int .i64 mm ∧ Hid (ByteRow wl xa P.b.length xc ∧ Fr (fun x => ∃ ad, xa = some ad ∧ ad.block = x) wr wl)) (fun c _ => P.b.length - (intOf c).toNat)
              case atStart => exact ⟨0, by omega, rfl, hbr0, Fr.refl _ _⟩
              case round =>
                obtain ⟨mm, hmm, rfl, HB⟩ := hrel
                obtain ⟨hB, fB⟩ := HB.out
                have htc := (fB.box htb0 (fun ⟨ad, h1, h2⟩ => hxtb ad h1 h2)).1
                by_cases hmq : mm < P.b.length
                · have y0 : (0 : Int) ≤ (mm : Int) := by omega
                  have y1 : (mm : Int) < (P.b.length : Int) := by omega
                  have hB0 := hB
                  rcases hB with ⟨_, h0⟩ | ⟨g, cur, hba, z1, z2, hg, z3⟩
                  · omega
                  · obtain ⟨y, hy⟩ := z3 mm hmq
                    have hcell := (cell_of_row _ g mm cur 5 (0, 0) hg).trans hy
                    have hfz := unfrozen_of_block' hg mm
                    have HBA := Lib.hid hba
                    have hB1 : ∀ z, ByteRow (wr.drew.setCell ⟨g, mm, none⟩ (.int .u8 z)) xa P.b.length xc := fun z => by rw [hba] at hB0 ⊢; exact ByteRow.set (w := wr.drew) hB0 mm z
                    rw [hba] at htc ⊢
                    clear hba hg z3 hy hB0
                    go_wp2_with fail
                    refine wp_draw [((fun x => x = wr.drew), [(.free, 0), (.held, 1), (.free, 2), (.free, 3), (.held, 4), (.free, 5), (.free, 6), (.held, 7), (.free, 8), (.free, 9)])] 10 (by kernel_rfl) (by kernel_rfl) (fun _ _ _ _ _ h => h) ⟨rfl, ?_⟩
                    repeat (first
                      | (refine' wpPlan_free (v := _) rfl (by rfl) ?_ ?_
                         rotate_left
                         · (intro w'; go_simp; try rfl)
                         simp only [List.getElem_toArray, List.getElem_cons_zero, List.getElem_cons_succ, Act.put, List.setIfInBounds_toArray, List.set_cons_zero, List.set_cons_succ])
                      | (refine' wpPlan_held (v := _) rfl (by rfl) ?_ ?_
                         rotate_left
                         · (intro w' hS; subst hS; go_simp; try rfl)
                         simp only [List.getElem_toArray, List.getElem_cons_zero, List.getElem_cons_succ, Act.put, List.setIfInBounds_toArray, List.set_cons_zero, List.set_cons_succ])
                      | (refine' wpPlan_skip rfl (by rfl) ?_
                         simp only [List.getElem_toArray, List.getElem_cons_zero, List.getElem_cons_succ, Act.put, List.setIfInBounds_toArray, List.set_cons_zero, List.set_cons_succ])
                      | (refine' wpPlan_skipHeld rfl (by rfl) ?_
                         simp only [List.getElem_toArray, List.getElem_cons_zero, List.getElem_cons_succ, Act.put, List.setIfInBounds_toArray, List.set_cons_zero, List.set_cons_succ]))
                    refine wpPlan_end ?_
                    simp only [wpSegs, List.drop_succ_cons, List.drop_zero]
                    have y2 : (mm : Int) < 9223372036854775807 := by unfold maxLen at z2; omega
                    go_wp2_with fail
                    go_roundw
                    case rel =>
                      refine ⟨mm + 1, by omega, by go_num, ?_⟩
                      rw [← HBA.out]
                      exact ⟨hB1 _, (fB.setCell (p := ⟨g, mm, none⟩) (.inl ⟨_, HBA.out, rfl⟩) _).drew⟩
                    case measure => simp [intOf]; omega
                · obtain rfl : mm = P.b.length := by omega
                  go_wp2_with fail
                  go_roundw
                  case rel => exact ⟨j + 1, by omega, by omega, by go_num, _, st6, A, us, m8.apart fB (fun b ⟨ad, h1, h2⟩ => h2 ▸ hxN ad h1), hall8.apart fB (fun b hb ⟨ad, h1, h2⟩ => hxA ad h1 b hb h2), by omega, hsub6⟩
                  case measure => simp [intOf]; omega
      have e3 : (kd == 3) = false := by simpa using k3
      by_cases k2 : kd = 2
      · subst k2
        have ho4 := hob4.1
        have eI : isI (nTwin st i) i ↔ isI st i := by
          have hl : (nTwin st i).l.length = st.l.length := (twin_cases st i).1
          unfold isI; rw [hl]
        have eL : (nTwin st i).l = st.l := by unfold nTwin; split <;> rfl
        have eP : pAt (nTwin st i) i = pAt st i := by unfold pAt; simp only [eI, eL]
        have eC : cAt (nTwin st i) i = cAt st i := by unfold cAt; simp only [eI]
        have hP : cAt st i = 0 → pAt st i ∈ A := fun h0 => by
          have hi : isI st i := by
            by_cases hi : isI st i
            · exact hi
            · unfold cAt at h0; rw [if_neg hi] at h0; cases h0
          obtain ⟨y, rfl, hy⟩ := isI_nat hi
          unfold pAt
          rw [if_pos hi]
          simp only [Int.toNat_natCast, List.getD, List.getElem?_eq_getElem hy, Option.getD_some]
          exact hsub _ (List.getElem_mem hy)
        have hr0 : cAt st i = 0 ∨ (cAt st i == 0) = false := by unfold cAt; split <;> simp
        have hsub6 : ∀ p ∈ (nTake (nTwin st i) i).l, p ∈ A := by
          intro p hp
          refine hsub p ?_
          unfold nTake at hp
          split at hp
          · rw [← eL]; exact List.mem_of_mem_eraseIdx hp
          · rw [← eL]; exact hp
        have htw := fun (u : World) (N : List Nat) (k : Nat) (h : NetX u N bn k st) (hk : k < 1000000) => x_twin h hk i
        have htk := fun (u : World) (N : List Nat) (k : Nat) (h : NetX u N bn k (nTwin st i)) (hk : k < 1000000) => x_take h hk i
        rw [eP, eC] at htk
        generalize nTake (nTwin st i) i = st6 at htk hsub6
        generalize nTwin st i = st1 at htw htk
        generalize cAt st i = r at hP hr0 htw htk
        generalize pAt st i = P at hP htw htk
        clear eP eC eL eI
        simp only [pcs] at htw htk
        have HTK0 := Lib.hid htk
        have HTW := Lib.hid htw
        clear htk htw
        go_wp2_with fail
        refine (HTW.out _ _ _ m4.net (by omega)).mono ?_
        rintro e w5 ⟨ya, yc, rfl, g5, f5, n5, hyb⟩
        have m5 := m4.same f5 n5
        have ho5 := (f5.box (((Fr.refl Non w3).alloc _).heap hob id) (fun hm => by have := hNlt _ hm; omega)).1
        have hz5 := f5.size
        simp only [World.size_alloc] at hz5
        clear ho4 hob4 hpb4
        have hz6 : wr.heap.size < w5.heap.size := by omega
        go_wp2_with fail
        have ma := m5.quiet ((Fr.refl Non w5).alloc (.cells #[.bool P.fa, .int .i64 P.fn, .bool P.ta, .int .i64 P.tn, .slice ya P.b.length yc] 30))
        refine (HTK0.out _ _ _ ma.net (by omega)).mono ?_
        rintro e w7 ⟨xa, xc, rfl, g7, f7, N7, n7, s7, hxa⟩
        obtain ⟨NN, mm7, ss7⟩ := id (show PostX _ N bn _ st6 w7 from ⟨f7, N7, n7, s7⟩)
        have m7 : MineX w w7 N7 bn _ st6 := ⟨ma.fr.trans2 f7 (fun b hb hm => by have := ma.new b hm; omega), n7, fun b hb => (s7 b hb).elim (ma.new b) (fun hx => Nat.le_trans ma.fr.size hx)⟩
        have htN : w5.heap.size ∉ N := fun hm => by have := hNlt _ hm; omega
        have h7b := f7.heap (alloc_at w5 _) htN
        obtain ⟨b7, z7⟩ := f7.box (alloc_at w5 _) htN
        obtain ⟨w6, hw6⟩ : ∃ x, x = set5 w7 w5.heap.size P (.slice xa P.b.length xc) := ⟨_, rfl⟩
        have f76 : Fr (fun b => b = w5.heap.size) w7 w6 := by rw [hw6]; exact set5_fr _ _ _ _
        have htb : w6.heap[w5.heap.size]? = some (.cells #[.bool P.fa, .int .i64 P.fn, .bool P.ta, .int .i64 P.tn, .slice xa P.b.length xc] 30) := by
          rw [hw6]
          unfold set5
          have k0 := block_set h7b 0 (.bool P.fa)
          have k1 := block_set k0 1 (.int .i64 P.fn)
          have k2 := block_set k1 2 (.bool P.ta)
          have k3 := block_set k2 3 (.int .i64 P.tn)
          have k4 := block_set k3 4 (.slice xa P.b.length xc)
          rw [k4]
          rfl
        have hz7 := f7.size
        simp only [World.size_alloc] at hz7
        have htN7 : w5.heap.size ∉ N7 := fun hm => by
          rcases s7 _ hm with h1 | h1
          · exact htN h1
          · simp at h1; omega
        have m6 := (m7.apart f76 (fun b hb => by subst hb; exact ⟨htN7, by have := m5.fr.size; omega⟩)).mono (k' := 2 * (j + 1)) (by omega)
        have hxw : ∀ ad, xa = some ad → ad.block ∉ N7 ∧ w.heap.size ≤ ad.block ∧ ad.block ≠ w5.heap.size ∧ (ad.block ∈ N ∨ w5.heap.size < ad.block) := fun ad h1 => by
          obtain ⟨h2, h3⟩ := hxa ad h1
          rcases h3 with h3 | h3
          · exact ⟨h2, m.new _ h3, fun e => htN (e ▸ h3), .inl h3⟩
          · simp at h3
            exact ⟨h2, by have := m5.fr.size; omega, by omega, .inr (by omega)⟩
        have hxN : ∀ ad, xa = some ad → ad.block ∉ N7 ∧ w.heap.size ≤ ad.block := fun ad h1 => ⟨(hxw ad h1).1, (hxw ad h1).2.1⟩
        have hxA : ∀ ad, xa = some ad → ∀ b, Value.ownBlock u4 = some b → ad.block ≠ b := fun ad h1 b hb e => by
          rcases (hxw ad h1).2.2.2 with h3 | h3
          · exact (hall.new b hb).2 (e ▸ h3)
          · have := hall.row.lt b hb; omega
        have hxtb : ∀ ad, xa = some ad → ad.block ≠ w5.heap.size := fun ad h1 => (hxw ad h1).2.2.1
        have hxr := g7.keep (w' := w6) (fun b hb => f76.block b (g7.lt b hb) (fun e => by
          cases hxa' : xa with
          | none => rw [hxa'] at hb; simp [Value.ownBlock] at hb
          | some ad => rw [hxa'] at hb; simp [Value.ownBlock] at hb; exact hxtb ad hxa' (hb ▸ e)))
        have hall6 : AllAt w w6 N7 _ A us := (((((hall.apart hf4 (fun _ _ => id)).apart f5 (fun b hb => (hall.new b hb).2)).apart ((Fr.refl Non w5).alloc (.cells #[.bool P.fa, .int .i64 P.fn, .bool P.ta, .int .i64 P.tn, .slice ya P.b.length yc] 30)) (fun _ _ => id)).net s7).apart f7 (fun b hb => (hall.new b hb).2)).apart f76 (fun b hb e => by have := hall.row.lt b hb; omega)
        have hw6' := hw6
        unfold set5 at hw6'
        have HW6 := Lib.hid hw6'
        clear hw6 hw6'
        rcases hr0 with rfl | hr0
        · have hP := hP rfl
          go_wp2_with fail
          rw [← HW6.out]
          go_loopw [12, 13] (fun t c wl => ∃ (mm : Nat) (tv : Bool), mm ≤ A.length ∧ c = .int .i64 mm ∧ t = .bool tv ∧ Hid (tv = (false || (A.take mm).any (fun p => decide (p = P)))) ∧ Fr Non w6 wl) (fun _ c _ => A.length - (intOf c).toNat)
          case atStart => exact ⟨0, false, by omega, rfl, by first | rfl | (simpa using hr0), by simp [Hid], Fr.refl _ _⟩
          case round =>
            obtain ⟨mm, tv, hmm, rfl, rfl, HTV, fl⟩ := hrel
            obtain ⟨aa, ac, hav⟩ := hall6.row.form
            subst hav
            by_cases hmA : mm < A.length
            · have y0 : (0 : Int) ≤ (mm : Int) := by omega
              have y1 : (mm : Int) < (A.length : Int) := by omega
              have htk : (A.take (mm + 1)).any (fun p => decide (p = P)) = ((A.take mm).any (fun p => decide (p = P)) || decide (A[mm] = P)) := by
                rw [List.take_succ_eq_append_getElem hmA, List.any_append]; simp
              have HTK := Lib.hid htk
              clear htk
              cases tv with
              | true =>
                go_wp2_with fail
                refine wp_draw [((Fr Non w6), [(.free, 0), (.free, 1), (.free, 2), (.free, 3), (.free, 4), (.held, 5), (.held, 6), (.kept, 7), (.free, 8), (.free, 9)])] 10 (by kernel_rfl) (by kernel_rfl) (fun _ _ _ _ _ h => h) ⟨fl.drew, ?_⟩
                repeat (first
                  | (refine' wpPlan_free (v := _) rfl (by rfl) ?_ ?_
                     rotate_left
                     · (intro w'; go_simp; try rfl)
                     simp only [List.getElem_toArray, List.getElem_cons_zero, List.getElem_cons_succ, Act.put, List.setIfInBounds_toArray, List.set_cons_zero, List.set_cons_succ])
                  | (refine' wpPlan_held (v := _) rfl (by rfl) ?_ ?_
                     rotate_left
                     · (intro w' hS; go_simp; try rfl)
                     simp only [List.getElem_toArray, List.getElem_cons_zero, List.getElem_cons_succ, Act.put, List.setIfInBounds_toArray, List.set_cons_zero, List.set_cons_succ])
                  | (refine' wpPlan_skip rfl (by rfl) ?_
                     simp only [List.getElem_toArray, List.getElem_cons_zero, List.getElem_cons_succ, Act.put, List.setIfInBounds_toArray, List.set_cons_zero, List.set_cons_succ])
                  | (refine' wpPlan_skipHeld rfl (by rfl) ?_
                     simp only [List.getElem_toArray, List.getElem_cons_zero, List.getElem_cons_succ, Act.put, List.setIfInBounds_toArray, List.set_cons_zero, List.set_cons_succ]))
                refine' wpPlan_kept rfl ?_
                intro K hK
                go_simp
                refine hK _ _ ⟨fl.drew, ?_⟩
                clear hK K
                repeat (first
                  | (refine' wpPlan_free (v := _) rfl (by rfl) ?_ ?_
                     rotate_left
                     · (intro w'; go_simp; try rfl)
                     simp only [List.getElem_toArray, List.getElem_cons_zero, List.getElem_cons_succ, Act.put, List.setIfInBounds_toArray, List.set_cons_zero, List.set_cons_succ])
                  | (refine' wpPlan_held (v := _) rfl (by rfl) ?_ ?_
                     rotate_left
                     · (intro w' hS; go_simp; try rfl)
                     simp only [List.getElem_toArray, List.getElem_cons_zero, List.getElem_cons_succ, Act.put, List.setIfInBounds_toArray, List.set_cons_zero, List.set_cons_succ])
                  | (refine' wpPlan_skip rfl (by rfl) ?_
                     simp only [List.getElem_toArray, List.getElem_cons_zero, List.getElem_cons_succ, Act.put, List.setIfInBounds_toArray, List.set_cons_zero, List.set_cons_succ])
                  | (refine' wpPlan_skipHeld rfl (by rfl) ?_
                     simp only [List.getElem_toArray, List.getElem_cons_zero, List.getElem_cons_succ, Act.put, List.setIfInBounds_toArray, List.set_cons_zero, List.set_cons_succ]))
                refine wpPlan_end ?_
                simp only [wpSegs, List.drop_succ_cons, List.drop_zero]
                go_wp2_with fail
                go_roundw
                case rel => exact ⟨mm + 1, true, by omega, by go_num, rfl, by rw [HTK.out]; have := HTV.out; simp only [Hid, ← Bool.or_assoc, ← this]; rfl, fl.drew⟩
                case measure => simp [intOf]; omega
              | false =>
                obtain ⟨ma, mc, hmu, hms, hmS⟩ := hall6.src mm (by have := hall6.len; omega)
                obtain ⟨AG, haa, w0, w1, w2, w3, w4⟩ := all_at hall6.row hall6.len mm hmA
                subst haa
                rw [hmu] at w4 hms
                have hmd := (hms.keep (w' := wr) (fun a c he hlt => (m6.fr.trans fl).block _ hlt id))
                generalize A[mm] = Q at w0 w1 w2 w3 w4 hms hmd HTK
                have HW := Lib.hid (And.intro w0 (And.intro w1 (And.intro w2 (And.intro w3 w4))))
                clear w0 w1 w2 w3 w4 hmS hmu
                go_wp2_with fail
                refine wp_draw [((Fr Non w6), [(.free, 0), (.free, 1), (.free, 2), (.free, 3), (.free, 4), (.held, 5), (.held, 6), (.kept, 7), (.free, 8), (.free, 9)])] 10 (by kernel_rfl) (by kernel_rfl) (fun _ _ _ _ _ h => h) ⟨fl.drew, ?_⟩
                repeat (first
                  | (refine' wpPlan_free (v := _) rfl (by rfl) ?_ ?_
                     rotate_left
                     · (intro w'; go_simp; try rfl)
                     simp only [List.getElem_toArray, List.getElem_cons_zero, List.getElem_cons_succ, Act.put, List.setIfInBounds_toArray, List.set_cons_zero, List.set_cons_succ])
                  | (refine' wpPlan_held (v := _) rfl (by rfl) ?_ ?_
                     rotate_left
                     · (intro w' hS; obtain ⟨w0, w1, w2, w3, w4⟩ := HW.out; have w0 := hS.cell w0 id; have w1 := hS.cell w1 id; have w2 := hS.cell w2 id; have w3 := hS.cell w3 id; have w4 := hS.cell w4 id; have wb := (hS.box htb id).1; go_simp; try rfl)
                     simp only [List.getElem_toArray, List.getElem_cons_zero, List.getElem_cons_succ, Act.put, List.setIfInBounds_toArray, List.set_cons_zero, List.set_cons_succ])
                  | (refine' wpPlan_skip rfl (by rfl) ?_
                     simp only [List.getElem_toArray, List.getElem_cons_zero, List.getElem_cons_succ, Act.put, List.setIfInBounds_toArray, List.set_cons_zero, List.set_cons_succ])
                  | (refine' wpPlan_skipHeld rfl (by rfl) ?_
                     simp only [List.getElem_toArray, List.getElem_cons_zero, List.getElem_cons_succ, Act.put, List.setIfInBounds_toArray, List.set_cons_zero, List.set_cons_succ]))
                refine' wpPlan_kept rfl ?_
                intro K hK
                go_simp
                refine (same_any Q P _ _ hmd.drew ((grow_src hxr).keep (w' := wr.drew) (fun a c he hlt => fl.drew.block _ hlt id))).mono ?_
                rintro e w8 ⟨rfl, g8⟩
                go_simp
                refine hK _ _ ⟨fl.drew.trans g8, ?_⟩
                clear hK K
                repeat (first
                  | (refine' wpPlan_free (v := _) rfl (by rfl) ?_ ?_
                     rotate_left
                     · (intro w'; go_simp; try rfl)
                     simp only [List.getElem_toArray, List.getElem_cons_zero, List.getElem_cons_succ, Act.put, List.setIfInBounds_toArray, List.set_cons_zero, List.set_cons_succ])
                  | (refine' wpPlan_held (v := _) rfl (by rfl) ?_ ?_
                     rotate_left
                     · (intro w' hS; go_simp; try rfl)
                     simp only [List.getElem_toArray, List.getElem_cons_zero, List.getElem_cons_succ, Act.put, List.setIfInBounds_toArray, List.set_cons_zero, List.set_cons_succ])
                  | (refine' wpPlan_skip rfl (by rfl) ?_
                     simp only [List.getElem_toArray, List.getElem_cons_zero, List.getElem_cons_succ, Act.put, List.setIfInBounds_toArray, List.set_cons_zero, List.set_cons_succ])
                  | (refine' wpPlan_skipHeld rfl (by rfl) ?_
                     simp only [List.getElem_toArray, List.getElem_cons_zero, List.getElem_cons_succ, Act.put, List.setIfInBounds_toArray, List.set_cons_zero, List.set_cons_succ]))
                refine wpPlan_end ?_
                simp only [wpSegs, List.drop_succ_cons, List.drop_zero]
                go_wp2_with fail
                go_roundw
                case rel => exact ⟨mm + 1, decide (Q = P), by omega, by go_num, rfl, by rw [HTK.out]; have := HTV.out; simp only [Hid, ← Bool.or_assoc, ← this]; rfl, fl.drew.trans g8⟩
                case measure => simp [intOf]; omega
            · obtain rfl : mm = A.length := by omega
              obtain rfl : tv = true := by have := HTV.out; rw [this]; simp [hP]
              go_wp2_with fail
              have hbr0 : ByteRow wr xa P.b.length xc := (ByteRow.of hxr).keep fun x hx => fl.block _ (hxr.lt x.block (by simp [Value.ownBlock, hx])) id
              have htb0 := fl.heap htb id
              have m8 := m6.quiet fl
              have hall8 := hall6.apart fl (fun _ _ => id)
              clear hmm hmA
              go_loopw [14] (fun c wl => ∃ mm : Nat, mm ≤ P.b.length ∧ c = .int .i64 mm ∧ Hid (ByteRow wl xa P.b.length xc ∧ Fr (fun x => ∃ ad, xa = some ad ∧ ad.block = x) wr wl)) (fun c _ => P.b.length - (intOf c).toNat)
              case atStart => exact ⟨0, by omega, rfl, hbr0, Fr.refl _ _⟩
              case round =>
                obtain ⟨mm, hmm, rfl, HB⟩ := hrel
                obtain ⟨hB, fB⟩ := HB.out
                have htc := (fB.box htb0 (fun ⟨ad, h1, h2⟩ => hxtb ad h1 h2)).1
                by_cases hmq : mm < P.b.length
                · have y0 : (0 : Int) ≤ (mm : Int) := by omega
                  have y1 : (mm : Int) < (P.b.length : Int) := by omega
                  have hB0 := hB
                  rcases hB with ⟨_, h0⟩ | ⟨g, cur, hba, z1, z2, hg, z3⟩
                  · omega
                  · obtain ⟨y, hy⟩ := z3 mm hmq
                    have hcell := (cell_of_row _ g mm cur 5 (0, 0) hg).trans hy
                    have hfz := unfrozen_of_block' hg mm
                    have HBA := Lib.hid hba
                    have hB1 : ∀ z, ByteRow (wr.drew.setCell ⟨g, mm, none⟩ (.int .u8 z)) xa P.b.length xc := fun z => by rw [hba] at hB0 ⊢; exact ByteRow.set (w := wr.drew) hB0 mm z
                    rw [hba] at htc ⊢
                    clear hba hg z3 hy hB0
                    go_wp2_with fail
                    refine wp_draw [((fun x => x = wr.drew), [(.free, 0), (.held, 1), (.free, 2), (.free, 3), (.held, 4), (.free, 5), (.free, 6), (.held, 7), (.free, 8), (.free, 9)])] 10 (by kernel_rfl) (by kernel_rfl) (fun _ _ _ _ _ h => h) ⟨rfl, ?_⟩
                    repeat (first
                      | (refine' wpPlan_free (v := _) rfl (by rfl) ?_ ?_
                         rotate_left
                         · (intro w'; go_simp; try rfl)
                         simp only [List.getElem_toArray, List.getElem_cons_zero, List.getElem_cons_succ, Act.put, List.setIfInBounds_toArray, List.set_cons_zero, List.set_cons_succ])
                      | (refine' wpPlan_held (v := _) rfl (by rfl) ?_ ?_
                         rotate_left
                         · (intro w' hS; subst hS; go_simp; try rfl)
                         simp only [List.getElem_toArray, List.getElem_cons_zero, List.getElem_cons_succ, Act.put, List.setIfInBounds_toArray, List.set_cons_zero, List.set_cons_succ])
                      | (refine' wpPlan_skip rfl (by rfl) ?_
                         simp only [List.getElem_toArray, List.getElem_cons_zero, List.getElem_cons_succ, Act.put, List.setIfInBounds_toArray, List.set_cons_zero, List.set_cons_succ])
                      | (refine' wpPlan_skipHeld rfl (by rfl) ?_
                         simp only [List.getElem_toArray, List.getElem_cons_zero, List.getElem_cons_succ, Act.put, List.setIfInBounds_toArray, List.set_cons_zero, List.set_cons_succ]))
                    refine wpPlan_end ?_
                    simp only [wpSegs, List.drop_succ_cons, List.drop_zero]
                    have y2 : (mm : Int) < 9223372036854775807 := by unfold maxLen at z2; omega
                    go_wp2_with fail
                    go_roundw
                    case rel =>
                      refine ⟨mm + 1, by omega, by go_num, ?_⟩
                      rw [← HBA.out]
                      exact ⟨hB1 _, (fB.setCell (p := ⟨g, mm, none⟩) (.inl ⟨_, HBA.out, rfl⟩) _).drew⟩
                    case measure => simp [intOf]; omega
                · obtain rfl : mm = P.b.length := by omega
                  go_wp2_with fail
                  go_roundw
                  case rel => exact ⟨j + 1, by omega, by omega, by go_num, _, st6, A, us, m8.apart fB (fun b ⟨ad, h1, h2⟩ => h2 ▸ hxN ad h1), hall8.apart fB (fun b hb ⟨ad, h1, h2⟩ => hxA ad h1 b hb h2), by omega, hsub6⟩
                  case measure => simp [intOf]; omega
        · go_wp2_with fail
          rw [← HW6.out]
          go_loopw [12, 13] (fun t c wl => ∃ (mm : Nat) (tv : Bool), mm ≤ A.length ∧ c = .int .i64 mm ∧ t = .bool tv ∧ Hid (tv = (true || (A.take mm).any (fun p => decide (p = P)))) ∧ Fr Non w6 wl) (fun _ c _ => A.length - (intOf c).toNat)
          case atStart => exact ⟨0, true, by omega, rfl, by first | rfl | (simpa using hr0), by simp [Hid], Fr.refl _ _⟩
          case round =>
            obtain ⟨mm, tv, hmm, rfl, rfl, HTV, fl⟩ := hrel
            obtain ⟨aa, ac, hav⟩ := hall6.row.form
            subst hav
            by_cases hmA : mm < A.length
            · have y0 : (0 : Int) ≤ (mm : Int) := by omega
              have y1 : (mm : Int) < (A.length : Int) := by omega
              have htk : (A.take (mm + 1)).any (fun p => decide (p = P)) = ((A.take mm).any (fun p => decide (p = P)) || decide (A[mm] = P)) := by
                rw [List.take_succ_eq_append_getElem hmA, List.any_append]; simp
              have HTK := Lib.hid htk
              clear htk
              cases tv with
              | true =>
                go_wp2_with fail
                refine wp_draw [((Fr Non w6), [(.free, 0), (.free, 1), (.free, 2), (.free, 3), (.free, 4), (.held, 5), (.held, 6), (.kept, 7), (.free, 8), (.free, 9)])] 10 (by kernel_rfl) (by kernel_rfl) (fun _ _ _ _ _ h => h) ⟨fl.drew, ?_⟩
                repeat (first
                  | (refine' wpPlan_free (v := _) rfl (by rfl) ?_ ?_
                     rotate_left
                     · (intro w'; go_simp; try rfl)
                     simp only [List.getElem_toArray, List.getElem_cons_zero, List.getElem_cons_succ, Act.put, List.setIfInBounds_toArray, List.set_cons_zero, List.set_cons_succ])
                  | (refine' wpPlan_held (v := _) rfl (by rfl) ?_ ?_
                     rotate_left
                     · (intro w' hS; go_simp; try rfl)
                     simp only [List.getElem_toArray, List.getElem_cons_zero, List.getElem_cons_succ, Act.put, List.setIfInBounds_toArray, List.set_cons_zero, List.set_cons_succ])
                  | (refine' wpPlan_skip rfl (by rfl) ?_
                     simp only [List.getElem_toArray, List.getElem_cons_zero, List.getElem_cons_succ, Act.put, List.setIfInBounds_toArray, List.set_cons_zero, List.set_cons_succ])
                  | (refine' wpPlan_skipHeld rfl (by rfl) ?_
                     simp only [List.getElem_toArray, List.getElem_cons_zero, List.getElem_cons_succ, Act.put, List.setIfInBounds_toArray, List.set_cons_zero, List.set_cons_succ]))
                refine' wpPlan_kept rfl ?_
                intro K hK
                go_simp
                refine hK _ _ ⟨fl.drew, ?_⟩
                clear hK K
                repeat (first
                  | (refine' wpPlan_free (v := _) rfl (by rfl) ?_ ?_
                     rotate_left
                     · (intro w'; go_simp; try rfl)
                     simp only [List.getElem_toArray, List.getElem_cons_zero, List.getElem_cons_succ, Act.put, List.setIfInBounds_toArray, List.set_cons_zero, List.set_cons_succ])
                  | (refine' wpPlan_held (v := _) rfl (by rfl) ?_ ?_
                     rotate_left
                     · (intro w' hS; go_simp; try rfl)
                     simp only [List.getElem_toArray, List.getElem_cons_zero, List.getElem_cons_succ, Act.put, List.setIfInBounds_toArray, List.set_cons_zero, List.set_cons_succ])
                  | (refine' wpPlan_skip rfl (by rfl) ?_
                     simp only [List.getElem_toArray, List.getElem_cons_zero, List.getElem_cons_succ, Act.put, List.setIfInBounds_toArray, List.set_cons_zero, List.set_cons_succ])
                  | (refine' wpPlan_skipHeld rfl (by rfl) ?_
                     simp only [List.getElem_toArray, List.getElem_cons_zero, List.getElem_cons_succ, Act.put, List.setIfInBounds_toArray, List.set_cons_zero, List.set_cons_succ]))
                refine wpPlan_end ?_
                simp only [wpSegs, List.drop_succ_cons, List.drop_zero]
                go_wp2_with fail
                go_roundw
                case rel => exact ⟨mm + 1, true, by omega, by go_num, rfl, by rw [HTK.out]; have := HTV.out; simp only [Hid, ← Bool.or_assoc, ← this]; rfl, fl.drew⟩
                case measure => simp [intOf]; omega
              | false =>
                obtain ⟨ma, mc, hmu, hms, hmS⟩ := hall6.src mm (by have := hall6.len; omega)
                obtain ⟨AG, haa, w0, w1, w2, w3, w4⟩ := all_at hall6.row hall6.len mm hmA
                subst haa
                rw [hmu] at w4 hms
                have hmd := (hms.keep (w' := wr) (fun a c he hlt => (m6.fr.trans fl).block _ hlt id))
                generalize A[mm] = Q at w0 w1 w2 w3 w4 hms hmd HTK
                have HW := Lib.hid (And.intro w0 (And.intro w1 (And.intro w2 (And.intro w3 w4))))
                clear w0 w1 w2 w3 w4 hmS hmu
                go_wp2_with fail
                refine wp_draw [((Fr Non w6), [(.free, 0), (.free, 1), (.free, 2), (.free, 3), (.free, 4), (.held, 5), (.held, 6), (.kept, 7), (.free, 8), (.free, 9)])] 10 (by kernel_rfl) (by kernel_rfl) (fun _ _ _ _ _ h => h) ⟨fl.drew, ?_⟩
                repeat (first
                  | (refine' wpPlan_free (v := _) rfl (by rfl) ?_ ?_
                     rotate_left
                     · (intro w'; go_simp; try rfl)
                     simp only [List.getElem_toArray, List.getElem_cons_zero, List.getElem_cons_succ, Act.put, List.setIfInBounds_toArray, List.set_cons_zero, List.set_cons_succ])
                  | (refine' wpPlan_held (v := _) rfl (by rfl) ?_ ?_
                     rotate_left
                     · (intro w' hS; obtain ⟨w0, w1, w2, w3, w4⟩ := HW.out; have w0 := hS.cell w0 id; have w1 := hS.cell w1 id; have w2 := hS.cell w2 id; have w3 := hS.cell w3 id; have w4 := hS.cell w4 id; have wb := (hS.box htb id).1; go_simp; try rfl)
                     simp only [List.getElem_toArray, List.getElem_cons_zero, List.getElem_cons_succ, Act.put, List.setIfInBounds_toArray, List.set_cons_zero, List.set_cons_succ])
                  | (refine' wpPlan_skip rfl (by rfl) ?_
                     simp only [List.getElem_toArray, List.getElem_cons_zero, List.getElem_cons_succ, Act.put, List.setIfInBounds_toArray, List.set_cons_zero, List.set_cons_succ])
                  | (refine' wpPlan_skipHeld rfl (by rfl) ?_
                     simp only [List.getElem_toArray, List.getElem_cons_zero, List.getElem_cons_succ, Act.put, List.setIfInBounds_toArray, List.set_cons_zero, List.set_cons_succ]))
                refine' wpPlan_kept rfl ?_
                intro K hK
                go_simp
                refine (same_any Q P _ _ hmd.drew ((grow_src hxr).keep (w' := wr.drew) (fun a c he hlt => fl.drew.block _ hlt id))).mono ?_
                rintro e w8 ⟨rfl, g8⟩
                go_simp
                refine hK _ _ ⟨fl.drew.trans g8, ?_⟩
                clear hK K
                repeat (first
                  | (refine' wpPlan_free (v := _) rfl (by rfl) ?_ ?_
                     rotate_left
                     · (intro w'; go_simp; try rfl)
                     simp only [List.getElem_toArray, List.getElem_cons_zero, List.getElem_cons_succ, Act.put, List.setIfInBounds_toArray, List.set_cons_zero, List.set_cons_succ])
                  | (refine' wpPlan_held (v := _) rfl (by rfl) ?_ ?_
                     rotate_left
                     · (intro w' hS; go_simp; try rfl)
                     simp only [List.getElem_toArray, List.getElem_cons_zero, List.getElem_cons_succ, Act.put, List.setIfInBounds_toArray, List.set_cons_zero, List.set_cons_succ])
                  | (refine' wpPlan_skip rfl (by rfl) ?_
                     simp only [List.getElem_toArray, List.getElem_cons_zero, List.getElem_cons_succ, Act.put, List.setIfInBounds_toArray, List.set_cons_zero, List.set_cons_succ])
                  | (refine' wpPlan_skipHeld rfl (by rfl) ?_
                     simp only [List.getElem_toArray, List.getElem_cons_zero, List.getElem_cons_succ, Act.put, List.setIfInBounds_toArray, List.set_cons_zero, List.set_cons_succ]))
                refine wpPlan_end ?_
                simp only [wpSegs, List.drop_succ_cons, List.drop_zero]
                go_wp2_with fail
                go_roundw
                case rel => exact ⟨mm + 1, decide (Q = P), by omega, by go_num, rfl, by rw [HTK.out]; have := HTV.out; simp only [Hid, ← Bool.or_assoc, ← this]; rfl, fl.drew.trans g8⟩
                case measure => simp [intOf]; omega
            · obtain rfl : mm = A.length := by omega
              obtain rfl : tv = true := by have := HTV.out; rw [this]; rfl
              go_wp2_with fail
              have hbr0 : ByteRow wr xa P.b.length xc := (ByteRow.of hxr).keep fun x hx => fl.block _ (hxr.lt x.block (by simp [Value.ownBlock, hx])) id
              have htb0 := fl.heap htb id
              have m8 := m6.quiet fl
              have hall8 := hall6.apart fl (fun _ _ => id)
              clear hmm hmA
              go_loopw [14] (fun c wl => ∃ mm : Nat, mm ≤ P.b.length ∧ c = .int .i64 mm ∧ Hid (ByteRow wl xa P.b.length xc ∧ Fr (fun x => ∃ ad, xa = some ad ∧ ad.block = x) wr wl)) (fun c _ => P.b.length - (intOf c).toNat)
              case atStart => exact ⟨0, by omega, rfl, hbr0, Fr.refl _ _⟩
              case round =>
                obtain ⟨mm, hmm, rfl, HB⟩ := hrel
                obtain ⟨hB, fB⟩ := HB.out
                have htc := (fB.box htb0 (fun ⟨ad, h1, h2⟩ => hxtb ad h1 h2)).1
                by_cases hmq : mm < P.b.length
                · have y0 : (0 : Int) ≤ (mm : Int) := by omega
                  have y1 : (mm : Int) < (P.b.length : Int) := by omega
                  have hB0 := hB
                  rcases hB with ⟨_, h0⟩ | ⟨g, cur, hba, z1, z2, hg, z3⟩
                  · omega
                  · obtain ⟨y, hy⟩ := z3 mm hmq
                    have hcell := (cell_of_row _ g mm cur 5 (0, 0) hg).trans hy
                    have hfz := unfrozen_of_block' hg mm
                    have HBA := Lib.hid hba
                    have hB1 : ∀ z, ByteRow (wr.drew.setCell ⟨g, mm, none⟩ (.int .u8 z)) xa P.b.length xc := fun z => by rw [hba] at hB0 ⊢; exact ByteRow.set (w := wr.drew) hB0 mm z
                    rw [hba] at htc ⊢
                    clear hba hg z3 hy hB0
                    go_wp2_with fail
                    refine wp_draw [((fun x => x = wr.drew), [(.free, 0), (.held, 1), (.free, 2), (.free, 3), (.held, 4), (.free, 5), (.free, 6), (.held, 7), (.free, 8), (.free, 9)])] 10 (by kernel_rfl) (by kernel_rfl) (fun _ _ _ _ _ h => h) ⟨rfl, ?_⟩
                    repeat (first
                      | (refine' wpPlan_free (v := _) rfl (by rfl) ?_ ?_
                         rotate_left
                         · (intro w'; go_simp; try rfl)
                         simp only [List.getElem_toArray, List.getElem_cons_zero, List.getElem_cons_succ, Act.put, List.setIfInBounds_toArray, List.set_cons_zero, List.set_cons_succ])
                      | (refine' wpPlan_held (v := _) rfl (by rfl) ?_ ?_
                         rotate_left
                         · (intro w' hS; subst hS; go_simp; try rfl)
                         simp only [List.getElem_toArray, List.getElem_cons_zero, List.getElem_cons_succ, Act.put, List.setIfInBounds_toArray, List.set_cons_zero, List.set_cons_succ])
                      | (refine' wpPlan_skip rfl (by rfl) ?_
                         simp only [List.getElem_toArray, List.getElem_cons_zero, List.getElem_cons_succ, Act.put, List.setIfInBounds_toArray, List.set_cons_zero, List.set_cons_succ])
                      | (refine' wpPlan_skipHeld rfl (by rfl) ?_
                         simp only [List.getElem_toArray, List.getElem_cons_zero, List.getElem_cons_succ, Act.put, List.setIfInBounds_toArray, List.set_cons_zero, List.set_cons_succ]))
                    refine wpPlan_end ?_
                    simp only [wpSegs, List.drop_succ_cons, List.drop_zero]
                    have y2 : (mm : Int) < 9223372036854775807 := by unfold maxLen at z2; omega
                    go_wp2_with fail
                    go_roundw
                    case rel =>
                      refine ⟨mm + 1, by omega, by go_num, ?_⟩
                      rw [← HBA.out]
                      exact ⟨hB1 _, (fB.setCell (p := ⟨g, mm, none⟩) (.inl ⟨_, HBA.out, rfl⟩) _).drew⟩
                    case measure => simp [intOf]; omega
                · obtain rfl : mm = P.b.length := by omega
                  go_wp2_with fail
                  go_roundw
                  case rel => exact ⟨j + 1, by omega, by omega, by go_num, _, st6, A, us, m8.apart fB (fun b ⟨ad, h1, h2⟩ => h2 ▸ hxN ad h1), hall8.apart fB (fun b hb ⟨ad, h1, h2⟩ => hxA ad h1 b hb h2), by omega, hsub6⟩
                  case measure => simp [intOf]; omega
      have e2 : (kd == 2) = false := by simpa using k2
      have hall4 : AllAt w (w3.alloc (.cells #[.bool fa, .int .i64 fn, .bool ta, .int .i64 tn, .slice qa q.length qc] 30)) N _ A us := hall.apart hf4 (fun _ _ => id)
      have ho4 := hob4.1
      by_cases k5 : kd = 5
      · subst k5
        go_wp2_with fail
        refine (x_swap m4.net i k).mono ?_
        rintro e w5 ⟨rfl, hp⟩
        obtain ⟨fN5, _, _, _⟩ := id hp
        obtain ⟨N5, m5, s5⟩ := m4.post hp
        have hall5 : AllAt w w5 N5 _ A us := (hall4.net s5).apart fN5 (fun b hb => (hall4.new b hb).2)
        go_wp2_with fail
        go_roundw
        case rel => exact ⟨j + 1, by omega, by omega, by go_num, N5, _, A, us, m5.mono (by omega), hall5, by omega, fun p hp => hsub p (swap_sub st i k p hp)⟩
        case measure => simp [intOf]; omega
      · have e5 : (kd == 5) = false := by simpa using k5
        go_wp2_with fail
        go_roundw
        case rel => exact ⟨j + 1, by omega, by omega, by go_num, N, st, A, us, m4.mono (by omega), hall4, by omega, hsub⟩
        case measure => simp [intOf]; omega
    · have fin : ∀ x, Fr Non wr x → Fr Non w x := fun x f => m.fr.trans f
      by_cases hl1 : j < l.length
      · have j1 : (j : Int) < (l.length : Int) := by omega
        have j2 : ¬ (j : Int) < 100 := by omega
        go_wp2_with fail
        refine (alive_any _).mono ?_
        rintro e w2 ⟨rfl, f2⟩
        go_wp2_with fail
        go_ret
        exact ⟨rfl, fin _ f2⟩
      · have j1 : ¬ (j : Int) < (l.length : Int) := by omega
        go_wp2_with fail
        refine (alive_any _).mono ?_
        rintro e w2 ⟨rfl, f2⟩
        go_wp2_with fail
        go_ret
        exact ⟨rfl, fin _ f2⟩
end Go.Proofs.Ytkmpmibjenodlaa
