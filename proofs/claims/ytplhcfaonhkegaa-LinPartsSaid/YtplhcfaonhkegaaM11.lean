/-
  Model: results as values; ranged.
-/
import Derived.Test.YtplhcfaonhkegaaM10
namespace Go.Proofs.Ytplhcfaonhkegaa
open Go.RowKit Go.Maps

/-- A result as a value. -/
def ResS (S : Nat → Prop) (w : World) (v : Value) (r : MRes) : Prop :=
  ∃ u vv, v = .agg (resCells r u vv).toArray ∧ Sl kByte S w u r.2.2.1 ∧ Sl kItem S w vv r.2.2.2.1 ∧ r.2.2.1.length ≤ reachBytes ∧ r.2.2.2.1.length ≤ 200000 ∧ (0 ≤ r.2.1 ∧ r.2.1 ≤ 18446744073709551615)
theorem ResS.frame {S T : Nat → Prop} {w w' : World} {v : Value} {r : MRes} (h : ResS S w v r) (f : Fr T w w') (hd : ∀ b, b < w.heap.size → S b → ¬ T b) : ResS S w' v r := by
  obtain ⟨u, vv, h1, h2, h3, h4⟩ := h
  exact ⟨u, vv, h1, h2.frame f hd, h3.frame f hd, h4⟩
theorem ResS.mono {S S' : Nat → Prop} {w : World} {v : Value} {r : MRes} (h : ResS S w v r) (hS : ∀ b, b < w.heap.size → S b → S' b) : ResS S' w v r := by
  obtain ⟨u, vv, h1, h2, h3, h4⟩ := h
  exact ⟨u, vv, h1, h2.mono hS, h3.mono hS, h4⟩
theorem ResS.err {S : Nat → Prop} {w : World} (e : Int) : ResS S w (.agg (resCells (mErr e) (.slice none 0 0) (.slice none 0 0)).toArray) (mErr e) :=
  ⟨_, _, rfl, .inl ⟨rfl, rfl⟩, .inl ⟨rfl, rfl⟩, by simp [mErr], by simp [mErr], by simp [mErr]⟩

def mWhile (h : Int) (l : List MItem) : List MItem := l.takeWhile fun x => decide (x.1 ≤ h)
def mRanged (h : Int) (l : List MItem) : MRes := if 64 < (mWhile h l).length then mErr 102 else (0, 0, [], mWhile h l, r0, r0, false)
theorem while_take (h : Int) (l : List MItem) : l.take (mWhile h l).length = mWhile h l := by
  exact (List.prefix_iff_eq_take.1 (List.takeWhile_prefix _)).symm
theorem while_le (h : Int) (l : List MItem) : (mWhile h l).length ≤ l.length := List.Sublist.length_le (List.takeWhile_sublist _)
theorem while_yes {h : Int} {x : MItem} {l : List MItem} (hx : x.1 ≤ h) : mWhile h (x :: l) = x :: mWhile h l := by simp [mWhile, hx]
theorem while_no {h : Int} {x : MItem} {l : List MItem} (hx : ¬ x.1 ≤ h) : mWhile h (x :: l) = [] := by simp [mWhile, hx]

theorem block_set {w : World} {g : Nat} {cs : Array Value} {t : TypeId} {fr : Nat × Nat} (h : w.heap[g]? = some (.cells cs t fr)) (i : Nat) (v : Value) : (w.setCell ⟨g, i, none⟩ v).heap[g]? = some (.cells (cs.setIfInBounds i v) t fr) := by
  rw [setCell_eq_setRow w g i cs t fr v h]; exact setRow_heap w g _ _ t _ h
theorem set15_block {w : World} {R : Nat} {c0 c1 c2 c3 c4 c5 c6 c7 c8 c9 c10 c11 c12 c13 c14 : Value} (h : w.heap[R]? = some (.cells #[c0, c1, c2, c3, c4, c5, c6, c7, c8, c9, c10, c11, c12, c13, c14] 52 (0, 0))) (v0 v1 v2 v3 v4 v5 v6 v7 v8 v9 v10 v11 v12 v13 v14 : Value) : (((((((((((((((w.setCell ⟨R, 0, none⟩ v0).setCell ⟨R, 1, none⟩ v1).setCell ⟨R, 2, none⟩ v2).setCell ⟨R, 3, none⟩ v3).setCell ⟨R, 4, none⟩ v4).setCell ⟨R, 5, none⟩ v5).setCell ⟨R, 6, none⟩ v6).setCell ⟨R, 7, none⟩ v7).setCell ⟨R, 8, none⟩ v8).setCell ⟨R, 9, none⟩ v9).setCell ⟨R, 10, none⟩ v10).setCell ⟨R, 11, none⟩ v11).setCell ⟨R, 12, none⟩ v12).setCell ⟨R, 13, none⟩ v13).setCell ⟨R, 14, none⟩ v14).heap[R]? = some (.cells #[v0, v1, v2, v3, v4, v5, v6, v7, v8, v9, v10, v11, v12, v13, v14] 52 (0, 0)) := by
  have h0 := block_set h 0 v0
  have h1 := block_set h0 1 v1
  have h2 := block_set h1 2 v2
  have h3 := block_set h2 3 v3
  have h4 := block_set h3 4 v4
  have h5 := block_set h4 5 v5
  have h6 := block_set h5 6 v6
  have h7 := block_set h6 7 v7
  have h8 := block_set h7 8 v8
  have h9 := block_set h8 9 v9
  have h10 := block_set h9 10 v10
  have h11 := block_set h10 11 v11
  have h12 := block_set h11 12 v12
  have h13 := block_set h12 13 v13
  have h14 := block_set h13 14 v14
  rw [h14]
  simp only [List.setIfInBounds_toArray, List.set_cons_succ, List.set_cons_zero]
theorem set15_cell {w : World} {R : Nat} {c0 c1 c2 c3 c4 c5 c6 c7 c8 c9 c10 c11 c12 c13 c14 : Value} (h : w.heap[R]? = some (.cells #[c0, c1, c2, c3, c4, c5, c6, c7, c8, c9, c10, c11, c12, c13, c14] 52 (0, 0))) (v0 v1 v2 v3 v4 v5 v6 v7 v8 v9 v10 v11 v12 v13 v14 : Value) (j : Nat) : (((((((((((((((w.setCell ⟨R, 0, none⟩ v0).setCell ⟨R, 1, none⟩ v1).setCell ⟨R, 2, none⟩ v2).setCell ⟨R, 3, none⟩ v3).setCell ⟨R, 4, none⟩ v4).setCell ⟨R, 5, none⟩ v5).setCell ⟨R, 6, none⟩ v6).setCell ⟨R, 7, none⟩ v7).setCell ⟨R, 8, none⟩ v8).setCell ⟨R, 9, none⟩ v9).setCell ⟨R, 10, none⟩ v10).setCell ⟨R, 11, none⟩ v11).setCell ⟨R, 12, none⟩ v12).setCell ⟨R, 13, none⟩ v13).setCell ⟨R, 14, none⟩ v14).cell? ⟨R, j, none⟩ = (#[v0, v1, v2, v3, v4, v5, v6, v7, v8, v9, v10, v11, v12, v13, v14] : Array Value)[j]? :=
  cell_of_row _ _ _ _ _ _ (set15_block h v0 v1 v2 v3 v4 v5 v6 v7 v8 v9 v10 v11 v12 v13 v14)
theorem set15_fr (w : World) (R : Nat) (v0 v1 v2 v3 v4 v5 v6 v7 v8 v9 v10 v11 v12 v13 v14 : Value) : Fr (fun b => b = R) w (((((((((((((((w.setCell ⟨R, 0, none⟩ v0).setCell ⟨R, 1, none⟩ v1).setCell ⟨R, 2, none⟩ v2).setCell ⟨R, 3, none⟩ v3).setCell ⟨R, 4, none⟩ v4).setCell ⟨R, 5, none⟩ v5).setCell ⟨R, 6, none⟩ v6).setCell ⟨R, 7, none⟩ v7).setCell ⟨R, 8, none⟩ v8).setCell ⟨R, 9, none⟩ v9).setCell ⟨R, 10, none⟩ v10).setCell ⟨R, 11, none⟩ v11).setCell ⟨R, 12, none⟩ v12).setCell ⟨R, 13, none⟩ v13).setCell ⟨R, 14, none⟩ v14) := by
  exact (((((((((((((((Fr.refl (fun b => b = R) w).setCell (.inl rfl) _).setCell (.inl rfl) _).setCell (.inl rfl) _).setCell (.inl rfl) _).setCell (.inl rfl) _).setCell (.inl rfl) _).setCell (.inl rfl) _).setCell (.inl rfl) _).setCell (.inl rfl) _).setCell (.inl rfl) _).setCell (.inl rfl) _).setCell (.inl rfl) _).setCell (.inl rfl) _).setCell (.inl rfl) _).setCell (.inl rfl) _

set_option maxRecDepth 100000 in
set_option maxHeartbeats 4000000 in
theorem ranged_any {w : World} {v : Value} {l : List MItem} (h : Sl kItem All w v l) (hl : l.length ≤ 100000) (k : Int) :
    Calls Try.prog 108 #[v, .int .u64 k] w fun e w' => ∃ x, e = .returned x ∧ ResS (fun b => w.heap.size ≤ b) w' x (mRanged k l) ∧ Fr Non w w' := by
  obtain ⟨va, vc, rfl, hc, hm, hnil⟩ := h.frm
  have hrb : (100000 : Nat) * 32 ≤ reachBytes := by decide
  have hM := hm
  unfold maxLen at hm
  have HS := Lib.hid h
  clear h
  have f0 : Fr Non w (w.alloc (.cells (resCells (mErr 0) (.slice none 0 0) (.slice none 0 0)).toArray 52)) := (Fr.refl _ _).alloc _
  have b0 := alloc_at w (.cells (resCells (mErr 0) (.slice none 0 0) (.slice none 0 0)).toArray 52)
  simp only [resCells, refCells, mErr, r0, List.cons_append, List.nil_append] at f0 b0
  go_enter Try.func108, Try.ntmps108
  go_wp2_with fail
  have hz1 : (w.alloc (.cells #[.int .i64 0, .int .u64 0, .slice none 0 0, .slice none 0 0, .int .i64 0, .int .i64 0, .int .u64 0, .int .i64 0, .int .u64 0, .int .i64 0, .int .i64 0, .int .u64 0, .int .i64 0, .int .u64 0, .bool false] 52)).heap.size = w.heap.size + 1 := by simp
  generalize w.alloc (.cells #[.int .i64 0, .int .u64 0, .slice none 0 0, .slice none 0 0, .int .i64 0, .int .i64 0, .int .u64 0, .int .i64 0, .int .u64 0, .int .i64 0, .int .i64 0, .int .u64 0, .int .i64 0, .int .u64 0, .bool false] 52) = w1 at f0 b0 hz1 ⊢
  have HZ1 := Lib.hid hz1
  clear hz1
  obtain ⟨R, hR⟩ : ∃ R, w.heap.size = R := ⟨_, rfl⟩
  have HRR := Lib.hid hR
  rw [hR] at b0 ⊢
  clear hR
  obtain ⟨T, hT⟩ : ∃ T, (mWhile k l).length = T := ⟨_, rfl⟩
  have HT := Lib.hid hT
  clear hT
  go_loopw [5] (fun i wr => ∃ (j : Nat), j ≤ l.length ∧ i = .int .i64 j ∧ wr = w1 ∧ Hid ((mWhile k l).length = j + (mWhile k (l.drop j)).length)) (fun i _ => l.length - (intOf i).toNat)
  case atStart => exact ⟨0, by omega, rfl, rfl, Lib.hid (by rw [Nat.zero_add, List.drop_zero])⟩
  case round =>
    obtain ⟨j, hj, rfl, hw, HI⟩ := hrel
    obtain rfl := hw.symm
    by_cases hlt : j < l.length ∧ ∀ x, l[j]? = some x → x.1 ≤ k
    · obtain ⟨hlt, hx⟩ := hlt
      obtain ⟨B, O, u, rfl, _, _, c0, _⟩ := item_at (HS.out.stay f0) j hlt
      have HD := Lib.hid (drop_at hlt)
      have hx1 := hx l[j] (List.getElem?_eq_getElem hlt)
      generalize l[j] = x at c0 HD hx1
      have j0 : (0 : Int) ≤ (j : Int) := by omega
      have j1 : (j : Int) < (l.length : Int) := by omega
      clear hx
      go_wp2_with fail
      go_roundw
      case rel =>
        exact ⟨j + 1, by omega, by go_num, by trivial, Lib.hid (by
          have h1 := HI.out
          rw [HD.out, while_yes hx1, List.length_cons] at h1
          omega)⟩
      case measure => simp [intOf]; omega
    · have hend : T = j := by
        have h1 := HI.out
        have h2 := HT.out
        by_cases h3 : j < l.length
        · have hx : ¬ (l[j]).1 ≤ k := fun e => hlt ⟨h3, fun x hx => by rw [List.getElem?_eq_getElem h3] at hx; cases hx; exact e⟩
          rw [drop_at h3, while_no hx] at h1
          simp at h1
          omega
        · rw [List.drop_eq_nil_of_le (by omega)] at h1
          simp [mWhile] at h1
          simp [mWhile] at h2
          omega
      have hgo : (¬ (j : Int) < (l.length : Int)) ∨ ((j : Int) < (l.length : Int) ∧ ∃ B O x, va = some ⟨B, O, none⟩ ∧ w1.cell? ⟨B, O + j * 2, none⟩ = some (.int .u64 x) ∧ ¬ x ≤ k) := by
        by_cases h3 : j < l.length
        · obtain ⟨B, O, u, e1, _, _, c0, _⟩ := item_at (HS.out.stay f0) j h3
          refine .inr ⟨by omega, B, O, _, e1, c0, fun e => hlt ⟨h3, fun x hx => by rw [List.getElem?_eq_getElem h3] at hx; cases hx; exact e⟩⟩
        · exact .inl (by omega)
      clear hlt
      subst hend
      have hTl : T ≤ l.length := hj
      have hTc : (T : Int) ≤ (vc : Int) := by omega
      have hsub : Sl kItem All w1 (.slice va T T) (mWhile k l) := by
        have ht := while_take k l
        rw [HT.out] at ht
        cases va with
        | none =>
          have := hnil rfl
          subst this
          have hT0 : T = 0 := by have := HT.out; simp [mWhile] at this; omega
          subst hT0
          exact .inl ⟨rfl, by simp [mWhile]⟩
        | some ad =>
          by_cases h0 : l.length = 0
          · have hl0 : l = [] := List.eq_nil_of_length_eq_zero h0
            have hT0 : T = 0 := by omega
            subst hl0 hT0
            exact .inr ⟨ad, 0, by simp [mWhile], by simp [mWhile], by unfold maxLen; omega, fun e => by simp [mWhile] at e, fun i hi => by simp [mWhile] at hi⟩
          · obtain ⟨B, O, u, e1, _⟩ := item_at (HS.out.stay f0) 0 (by omega)
            cases e1
            have := (HS.out.stay f0).sub 0 T T (by omega) (Nat.le_refl _) (by unfold maxLen; omega)
            simp only [Nat.zero_mul, Nat.add_zero, List.drop_zero, ht] at this
            exact this
      have HSub := Lib.hid hsub
      clear hsub
      by_cases h64 : 64 < T
      · have g64 : (64 : Int) < (T : Int) := by omega
        have hres : mRanged k l = mErr 102 := if_pos (by rw [HT.out]; exact h64)
        have HRes := Lib.hid hres
        clear hres
        obtain ⟨q0, z0⟩ := box_facts b0
        rcases hgo with j1 | ⟨j1, B, O, x, rfl, c0, hxk⟩
        all_goals
          go_wp2_with fail
          refine bodyPost_ret (v := .agg (resCells (mErr 102) (.slice none 0 0) (.slice none 0 0)).toArray) (by simp [results, Try.results108, go_sem, set15_cell b0, resCells, refCells, mErr, r0]) rfl ⟨_, rfl, by rw [HRes.out]; exact ResS.err 102, ?_⟩
          exact f0.trans2 (set15_fr _ R _ _ _ _ _ _ _ _ _ _ _ _ _ _ _) (fun b hb e => by have := HRR.out; omega)
      · have g64 : ¬ (64 : Int) < (T : Int) := by omega
        have hres : mRanged k l = (0, 0, [], mWhile k l, r0, r0, false) := if_neg (by rw [HT.out]; exact h64)
        have HRes := Lib.hid hres
        clear hres
        rcases hgo with j1 | ⟨j1, B, O, x, rfl, c0, hxk⟩
        all_goals
          go_wp2_with fail
          have ho := owned_any HSub.out (by have := HT.out; omega)
          rw [HT.out] at ho
          refine ho.mono ?_
          clear ho
          rintro e w4 ⟨a4, c4, rfl, _, g4, f4, _⟩
          have b4 := f4.heap b0 id
          obtain ⟨q4, z4⟩ := box_facts b4
          go_wp2_with fail
          refine bodyPost_ret (v := .agg (resCells (0, 0, [], mWhile k l, r0, r0, false) (.slice none 0 0) (.slice a4 T c4)).toArray) (by simp [results, Try.results108, go_sem, set15_cell b4, resCells, refCells, r0]) rfl ⟨_, rfl, ?_, ?_⟩
          · rw [HRes.out]
            have hfr := set15_fr w4 R (.int .i64 0) (.int .u64 0) (.slice none 0 0) (.slice a4 T c4) (.int .i64 0) (.int .i64 0) (.int .u64 0) (.int .i64 0) (.int .u64 0) (.int .i64 0) (.int .i64 0) (.int .u64 0) (.int .i64 0) (.int .u64 0) (.bool false)
            have hz := HZ1.out
            have hR := HRR.out
            exact ⟨_, _, rfl, .inl ⟨rfl, rfl⟩, (g4.frame hfr (fun b _ hb e => by omega)).mono (fun b _ hb => by omega), by simp, by have := HT.out; simp only; omega, by simp⟩
          · exact (f0.trans f4).trans2 (set15_fr _ R _ _ _ _ _ _ _ _ _ _ _ _ _ _ _) (fun b hb e => by have := HRR.out; omega)
end Go.Proofs.Ytplhcfaonhkegaa
