/-
  Model: done: a range.
-/
import Derived.Test.YtplhcfaonhkegaaM12
namespace Go.Proofs.Ytplhcfaonhkegaa
open Go.RowKit Go.Maps

theorem tail_sl {S : Nat → Prop} {w : World} {g0 cap P : Nat} {A : Addr} {l : List MItem} (h : Sl kItem S w (.slice (some ⟨g0, 0, none⟩) l.length cap) l) (hP : P ≤ l.length) (hA : (if cap = P then (some ⟨g0, 0, none⟩ : Option Addr) else some ⟨g0, P * 2, none⟩) = some A) :
    Sl kItem S w (.slice (some A) (l.drop P).length (cap - P)) (l.drop P) := by
  obtain ⟨_, _, e, hc, hm, _⟩ := h.frm
  cases e
  have hd : (l.drop P).length = l.length - P := List.length_drop
  by_cases h0 : cap = P
  · have hl : l.drop P = [] := List.drop_eq_nil_of_le (by omega)
    rw [hl]
    exact .inr ⟨A, _, rfl, by simp, by omega, fun e => absurd rfl e, fun i hi => by simp at hi⟩
  · rw [if_neg h0] at hA
    cases hA
    have := h.sub P (l.length - P) (cap - P) (by omega) (by omega) (by omega)
    rw [List.take_of_length_le (by omega)] at this
    rw [hd]
    simpa [show kItem.sz = 2 from rfl] using this
theorem ranged_at {w : World} {a : Option Addr} {n c P : Nat} {l : List MItem} (h : Sl kItem All w (.slice a (l.drop P).length c) (l.drop P)) (hn : n = l.length - P) (hl : l.length ≤ 90000) (k : Int) :
    Calls Try.prog 108 #[.slice a n c, .int .u64 k] w fun e w' => ∃ (e4 : Int) (m : List MItem) (a3 : Option Addr) (c3 : Nat) (a4 : Option Addr) (c4 : Nat),
      e = .returned (.agg #[.int .i64 e4, .int .u64 0, .slice a3 0 c3, .slice a4 m.length c4, .int .i64 0, .int .i64 0, .int .u64 0, .int .i64 0, .int .u64 0, .int .i64 0, .int .i64 0, .int .u64 0, .int .i64 0, .int .u64 0, .bool false]) ∧
      mRanged k (l.drop P) = (e4, 0, [], m, r0, r0, false) ∧ Sl kByte (fun b => w.heap.size ≤ b) w' (.slice a3 0 c3) [] ∧ Sl kItem (fun b => w.heap.size ≤ b) w' (.slice a4 m.length c4) m ∧ m.length ≤ 200000 ∧ Fr Non w w' := by
  have hd : (l.drop P).length = l.length - P := List.length_drop
  have := ranged_any h (by omega) k
  rw [hd, ← hn] at this
  refine this.mono ?_
  rintro e w' ⟨x, rfl, ⟨u, v, rfl, hu, hv, h1, h2, h3⟩, f⟩
  obtain ⟨e4, m, hr⟩ : ∃ e4 m, mRanged k (l.drop P) = (e4, 0, [], m, r0, r0, false) := by
    unfold mRanged
    split
    · exact ⟨102, [], rfl⟩
    · exact ⟨0, _, rfl⟩
  rw [hr] at hu hv h2
  obtain ⟨a3, c3, rfl, _⟩ := hu.frm
  obtain ⟨a4, c4, rfl, _⟩ := hv.frm
  refine ⟨e4, m, a3, c3, a4, c4, ?_, hr, hu, hv, h2, f⟩
  rw [hr]
  simp [resCells, refCells, r0]

set_option maxRecDepth 100000 in
set_option maxHeartbeats 1500000 in
theorem done5n {S : Nat → Prop} {w : World} (key high : Int) {ca : Option Addr} {cc : Nat} {bs : List UInt8} :
    Calls Try.prog 71 #[.slice none 0 0, .agg #[.int .i64 5, .int .u64 key, .int .u64 high, .slice ca bs.length cc]] w fun e w' =>
      ∃ v' x, e = .returned (.tuple #[v', x]) ∧ BuildS (fun b => S b ∨ w.heap.size ≤ b) kItem 60 w' v' (mDone [] (5, key, high, bs)).1 ∧ (∀ b, v'.ownBlock = some b → (Value.slice none 0 0).ownBlock = some b ∨ w.heap.size ≤ b) ∧ ResS (fun b => w.heap.size ≤ b) w' x (mDone [] (5, key, high, bs)).2 ∧ Fr Non w w' := by
  have f0 : Fr Non w ((w.alloc (.cells #[.int .i64 5, .int .u64 key, .int .u64 high, .slice ca bs.length cc] 39)).alloc (.cells #[.int .i64 0, .int .u64 0, .slice none 0 0, .slice none 0 0, .int .i64 0, .int .i64 0, .int .u64 0, .int .i64 0, .int .u64 0, .int .i64 0, .int .i64 0, .int .u64 0, .int .i64 0, .int .u64 0, .bool false] 52)) := ((Fr.refl _ _).alloc _).alloc _
  have bC := alloc_at2 w (.cells #[.int .i64 5, .int .u64 key, .int .u64 high, .slice ca bs.length cc] 39) (.cells #[.int .i64 0, .int .u64 0, .slice none 0 0, .slice none 0 0, .int .i64 0, .int .i64 0, .int .u64 0, .int .i64 0, .int .u64 0, .int .i64 0, .int .i64 0, .int .u64 0, .int .i64 0, .int .u64 0, .bool false] 52)
  have bR := alloc_at2' w (.cells #[.int .i64 5, .int .u64 key, .int .u64 high, .slice ca bs.length cc] 39) (.cells #[.int .i64 0, .int .u64 0, .slice none 0 0, .slice none 0 0, .int .i64 0, .int .i64 0, .int .u64 0, .int .i64 0, .int .u64 0, .int .i64 0, .int .i64 0, .int .u64 0, .int .i64 0, .int .u64 0, .bool false] 52)
  have hpl := fun (W : World) => place_any (w := W) (v := .slice none 0 0) (l := []) (.inl ⟨rfl, rfl⟩) rfl (by simp) key
  have hP0 : mPlace key [] = 0 := rfl
  rw [hP0] at hpl
  have HPL := Lib.hid hpl
  clear hpl hP0
  obtain ⟨C, hC⟩ : ∃ C, w.heap.size = C := ⟨_, rfl⟩
  have HCC := Lib.hid hC
  rw [hC] at bC bR
  go_enter Try.func71, Try.ntmps71
  go_wp2_with fail
  refine (HPL.out _).mono ?_
  rintro e w2 ⟨rfl, f2⟩
  have bC2 := f2.heap bC id
  have bR2 := f2.heap bR id
  have fw2 : Fr Non w w2 := f0.trans f2
  obtain ⟨qC, zC⟩ := box_facts bC2
  go_wp2_with fail
  refine wp_draw [((fun x => x = w2.drew), [(.free, 0), (.free, 1), (.free, 2), (.free, 3), (.free, 4), (.free, 5), (.free, 6), (.free, 7), (.free, 8), (.held, 9), (.free, 10), (.held, 11), (.free, 12), (.free, 13), (.free, 14)])] 15 (by kernel_rfl) (by kernel_rfl) (fun _ _ _ _ _ h => h) ⟨rfl, ?_⟩
  repeat (first
    | (refine' wpPlan_free (v := _) rfl (by rfl) ?_ ?_
       rotate_left
       · (intro w'; go_simp; try rfl)
       simp only [List.getElem_toArray, List.getElem_cons_zero, List.getElem_cons_succ, Act.put, List.setIfInBounds_toArray, List.set_cons_zero, List.set_cons_succ])
    | (refine' wpPlan_held (v := _) rfl (by rfl) ?_ ?_
       rotate_left
       · (intro w' hS; subst hS; go_simp; try rfl)
       simp only [List.getElem_toArray, List.getElem_cons_zero, List.getElem_cons_succ, Act.put, List.setIfInBounds_toArray, List.set_cons_zero, List.set_cons_succ])
    | (refine' wpPlan_skip rfl (by rfl) ?_
       simp only [List.getElem_toArray, List.getElem_cons_zero, List.getElem_cons_succ, Act.put, List.setIfInBounds_toArray, List.set_cons_zero, List.set_cons_succ])
    | (refine' wpPlan_skipHeld rfl (by rfl) ?_
       simp only [List.getElem_toArray, List.getElem_cons_zero, List.getElem_cons_succ, Act.put, List.setIfInBounds_toArray, List.set_cons_zero, List.set_cons_succ]))
  repeat (first
    | (refine' wpPlan_free (v := _) rfl (by rfl) ?_ ?_
       rotate_left
       · (intro w'; go_simp; try rfl)
       simp only [List.getElem_toArray, List.getElem_cons_zero, List.getElem_cons_succ, Act.put, List.setIfInBounds_toArray, List.set_cons_zero, List.set_cons_succ])
    | (refine' wpPlan_held (v := _) rfl (by rfl) ?_ ?_
       rotate_left
       · (intro w' hS; go_simp; try rfl)
       simp only [List.getElem_toArray, List.getElem_cons_zero, List.getElem_cons_succ, Act.put, List.setIfInBounds_toArray, List.set_cons_zero, List.set_cons_succ])
    | (refine' wpPlan_skip rfl (by rfl) ?_
       simp only [List.getElem_toArray, List.getElem_cons_zero, List.getElem_cons_succ, Act.put, List.setIfInBounds_toArray, List.set_cons_zero, List.set_cons_succ])
    | (refine' wpPlan_skipHeld rfl (by rfl) ?_
       simp only [List.getElem_toArray, List.getElem_cons_zero, List.getElem_cons_succ, Act.put, List.setIfInBounds_toArray, List.set_cons_zero, List.set_cons_succ]))
  refine wpPlan_end ?_
  simp only [wpSegs, List.drop_succ_cons, List.drop_zero]
  have fwd : Fr Non w w2.drew := fw2.drew
  have bCd : w2.drew.heap[C]? = some (.cells #[.int .i64 5, .int .u64 key, .int .u64 high, .slice ca bs.length cc] 39 (0, 0)) := bC2
  have bRd : w2.drew.heap[C + 1]? = some (.cells (#[.int .i64 0, .int .u64 0, .slice none 0 0, .slice none 0 0, .int .i64 0, .int .i64 0, .int .u64 0, .int .i64 0, .int .u64 0, .int .i64 0, .int .i64 0, .int .u64 0, .int .i64 0, .int .u64 0, .bool false] : Array Value) 52 (0, 0)) := bR2
  clear qC zC bC2 bR2 fw2
  generalize w2.drew = wd at fwd bCd bRd ⊢
  obtain ⟨qC, zC⟩ := box_facts bCd
  go_wp2_with fail
  clear qC zC
  refine wp_draw [((fun y => y.heap[C]? = some (.cells #[.int .i64 5, .int .u64 key, .int .u64 high, .slice ca bs.length cc] 39 (0, 0))), [(.free, 0), (.free, 1), (.free, 2), (.free, 3), (.free, 4), (.held, 5), (.kept, 6), (.free, 7)])] 8 (by kernel_rfl) (by kernel_rfl) (fun _ _ _ _ _ h => h) ⟨bCd, ?_⟩
  have fwe := fwd.drew
  have bCe : wd.drew.heap[C]? = some (.cells #[.int .i64 5, .int .u64 key, .int .u64 high, .slice ca bs.length cc] 39 (0, 0)) := bCd
  have bRe : wd.drew.heap[C + 1]? = some (.cells (#[.int .i64 0, .int .u64 0, .slice none 0 0, .slice none 0 0, .int .i64 0, .int .i64 0, .int .u64 0, .int .i64 0, .int .u64 0, .int .i64 0, .int .i64 0, .int .u64 0, .int .i64 0, .int .u64 0, .bool false] : Array Value) 52 (0, 0)) := bRd
  clear fwd bCd bRd
  generalize wd.drew = we at fwe bCe bRe ⊢
  repeat (first
    | (refine' wpPlan_free (v := _) rfl (by rfl) ?_ ?_
       rotate_left
       · (intro w'; go_simp; try rfl)
       simp only [List.getElem_toArray, List.getElem_cons_zero, List.getElem_cons_succ, Act.put, List.setIfInBounds_toArray, List.set_cons_zero, List.set_cons_succ])
    | (refine' wpPlan_held (v := _) rfl (by rfl) ?_ ?_
       rotate_left
       · (intro w' hS; obtain ⟨q1, _⟩ := box_facts hS; clear hS; go_simp; try rfl)
       simp only [List.getElem_toArray, List.getElem_cons_zero, List.getElem_cons_succ, Act.put, List.setIfInBounds_toArray, List.set_cons_zero, List.set_cons_succ])
    | (refine' wpPlan_skip rfl (by rfl) ?_
       simp only [List.getElem_toArray, List.getElem_cons_zero, List.getElem_cons_succ, Act.put, List.setIfInBounds_toArray, List.set_cons_zero, List.set_cons_succ])
    | (refine' wpPlan_skipHeld rfl (by rfl) ?_
       simp only [List.getElem_toArray, List.getElem_cons_zero, List.getElem_cons_succ, Act.put, List.setIfInBounds_toArray, List.set_cons_zero, List.set_cons_succ]))
  refine' wpPlan_kept rfl ?_
  intro K hK
  go_simp
  refine (ranged_at (l := []) (P := 0) (.inl ⟨rfl, rfl⟩) (by simp) (by simp) high).mono ?_
  rintro e w3 ⟨e4, m, a3, c3, a4, c4, rfl, hr0, hu3, hv3, hm3, f3⟩
  go_simp
  refine hK _ _ ⟨f3.heap bCe id, ?_⟩
  clear hK K
  repeat (first
    | (refine' wpPlan_free (v := _) rfl (by rfl) ?_ ?_
       rotate_left
       · (intro w'; go_simp; try rfl)
       simp only [List.getElem_toArray, List.getElem_cons_zero, List.getElem_cons_succ, Act.put, List.setIfInBounds_toArray, List.set_cons_zero, List.set_cons_succ])
    | (refine' wpPlan_held (v := _) rfl (by rfl) ?_ ?_
       rotate_left
       · (intro w' hS; clear hS; go_simp; try rfl)
       simp only [List.getElem_toArray, List.getElem_cons_zero, List.getElem_cons_succ, Act.put, List.setIfInBounds_toArray, List.set_cons_zero, List.set_cons_succ])
    | (refine' wpPlan_skip rfl (by rfl) ?_
       simp only [List.getElem_toArray, List.getElem_cons_zero, List.getElem_cons_succ, Act.put, List.setIfInBounds_toArray, List.set_cons_zero, List.set_cons_succ])
    | (refine' wpPlan_skipHeld rfl (by rfl) ?_
       simp only [List.getElem_toArray, List.getElem_cons_zero, List.getElem_cons_succ, Act.put, List.setIfInBounds_toArray, List.set_cons_zero, List.set_cons_succ]))
  refine wpPlan_end ?_
  simp only [wpSegs, List.drop_succ_cons, List.drop_zero]
  have bR3 := f3.heap bRe id
  obtain ⟨qR, zR⟩ := box_facts bR3
  have fw3 := fwe.trans f3
  have HR := Lib.hid hr0
  clear hr0
  have HD := Lib.hid (show mDone [] (5, key, high, bs) = ([], (e4, 0, [], m, r0, r0, false)) by
    have h1 : mDone [] (5, key, high, bs) = ([], mAsked [] (5, key, high, bs)) := by simp [mDone]
    rw [h1, ← HR.out]
    rfl)
  go_wp2_with fail
  refine bodyPost_ret (v := .tuple #[.slice none 0 0, .agg (resCells (e4, 0, [], m, r0, r0, false) (.slice a3 0 c3) (.slice a4 m.length c4)).toArray]) (by simp [results, Try.results71, go_sem, set15_cell bR3, resCells, refCells, r0]) rfl ⟨.slice none 0 0, _, rfl, ?_, fun b hb => .inl hb, ?_, ?_⟩
  · rw [HD.out]
    exact ⟨[], GRow.nil _ _ _, rfl⟩
  · rw [HD.out]
    have hz := lt_of_block bRe
    have hfr := set15_fr w3 (C + 1) (.int .i64 e4) (.int .u64 0) (.slice a3 0 c3) (.slice a4 m.length c4) (.int .i64 0) (.int .i64 0) (.int .u64 0) (.int .i64 0) (.int .u64 0) (.int .i64 0) (.int .i64 0) (.int .u64 0) (.int .i64 0) (.int .u64 0) (.bool false)
    exact ⟨_, _, rfl, (hu3.frame hfr (fun b _ hb e => by omega)).mono (fun b _ hb => by have := fwe.size; omega), (hv3.frame hfr (fun b _ hb e => by omega)).mono (fun b _ hb => by have := fwe.size; omega), by simp, hm3, by simp⟩
  · exact fw3.trans2 (set15_fr _ (C + 1) _ _ _ _ _ _ _ _ _ _ _ _ _ _ _) (fun b hb e => by have := HCC.out; omega)

set_option maxRecDepth 100000 in
set_option maxHeartbeats 1500000 in
theorem done5 {S : Nat → Prop} {w : World} {a : Option Addr} {cap : Nat} {l : List MItem} (hBS : BuildS S kItem 60 w (.slice a l.length cap) l) (hok : mOk none l = true) (hl : l.length ≤ 90000) (key high : Int) {ca : Option Addr} {cc : Nat} {bs : List UInt8}
    (hv : Sl kByte All w (.slice ca bs.length cc) bs) (hc : mCallOk (5, key, high, bs) = true) (hsome : ∃ g0, a = some ⟨g0, 0, none⟩) (hk : 0 ≤ key ∧ key ≤ 18446744073709551615) :
    Calls Try.prog 71 #[.slice a l.length cap, .agg #[.int .i64 5, .int .u64 key, .int .u64 high, .slice ca bs.length cc]] w fun e w' =>
      ∃ v' x, e = .returned (.tuple #[v', x]) ∧ BuildS (fun b => S b ∨ w.heap.size ≤ b) kItem 60 w' v' (mDone l (5, key, high, bs)).1 ∧ (∀ b, v'.ownBlock = some b → (Value.slice a l.length cap).ownBlock = some b ∨ w.heap.size ≤ b) ∧ ResS (fun b => w.heap.size ≤ b) w' x (mDone l (5, key, high, bs)).2 ∧ Fr Non w w' := by
  have hB := hBS.build
  have f0 : Fr Non w ((w.alloc (.cells #[.int .i64 5, .int .u64 key, .int .u64 high, .slice ca bs.length cc] 39)).alloc (.cells #[.int .i64 0, .int .u64 0, .slice none 0 0, .slice none 0 0, .int .i64 0, .int .i64 0, .int .u64 0, .int .i64 0, .int .u64 0, .int .i64 0, .int .i64 0, .int .u64 0, .int .i64 0, .int .u64 0, .bool false] 52)) := ((Fr.refl _ _).alloc _).alloc _
  have bC := alloc_at2 w (.cells #[.int .i64 5, .int .u64 key, .int .u64 high, .slice ca bs.length cc] 39) (.cells #[.int .i64 0, .int .u64 0, .slice none 0 0, .slice none 0 0, .int .i64 0, .int .i64 0, .int .u64 0, .int .i64 0, .int .u64 0, .int .i64 0, .int .i64 0, .int .u64 0, .int .i64 0, .int .u64 0, .bool false] 52)
  have bR := alloc_at2' w (.cells #[.int .i64 5, .int .u64 key, .int .u64 high, .slice ca bs.length cc] 39) (.cells #[.int .i64 0, .int .u64 0, .slice none 0 0, .slice none 0 0, .int .i64 0, .int .i64 0, .int .u64 0, .int .i64 0, .int .u64 0, .int .i64 0, .int .i64 0, .int .u64 0, .int .i64 0, .int .u64 0, .bool false] 52)
  have hpl := place_any (hB.sl.stay f0) hok (by omega) key
  have hPle := mPlace_le key l
  have hth := mKey_there (k := key) hok
  have hplace := mPlace_cut key hok
  obtain ⟨P, hP⟩ : ∃ P, mPlace key l = P := ⟨_, rfl⟩
  unfold mThere at hth
  rw [hP] at hpl hPle hth hplace
  have HP := Lib.hid hP
  have HTh := Lib.hid hth
  have HPl := Lib.hid hplace
  obtain ⟨C, hC⟩ : ∃ C, w.heap.size = C := ⟨_, rfl⟩
  have HCC := Lib.hid hC
  have hBlt := hB.lt
  have HV := Lib.hid hv
  clear hP hth hplace hv
  rw [hC] at bC bR
  obtain ⟨g0, rfl⟩ := hsome
  by_cases hlt : P < l.length
  rotate_left
  · obtain rfl : P = l.length := by omega
    have hnone : (mKey key l).isSome = false := by have := HTh.out; rw [List.getElem?_eq_none (by omega)] at this; exact this
    have HN := Lib.hid hnone
    clear hnone
    go_enter Try.func71, Try.ntmps71
    go_wp2_with fail
    refine hpl.mono ?_
    clear hpl
    rintro e w2 ⟨rfl, f2⟩
    have bC2 := f2.heap bC id
    have bR2 := f2.heap bR id
    have fw2 : Fr Non w w2 := f0.trans f2
    obtain ⟨hcap, hcm⟩ : l.length ≤ cap ∧ cap ≤ 2 ^ 63 - 1 := by
      obtain ⟨_, _, e, h1, h2, _⟩ := hB.sl.frm
      unfold maxLen at h2
      cases e
      exact ⟨h1, h2⟩
    have hcap2 : (l.length : Int) ≤ (cap : Int) := by omega
    have p1 : ¬ (l.length : Int) < (l.length : Int) := by omega
    have G1 := Lib.hid (decide_eq_false p1)
    obtain ⟨qC, zC⟩ := box_facts bC2
    go_wp2_with fail
    refine wp_draw [((fun x => x = w2.drew), [(.free, 0), (.free, 1), (.free, 2), (.free, 3), (.free, 4), (.free, 5), (.free, 6), (.free, 7), (.free, 8), (.held, 9), (.free, 10), (.held, 11), (.free, 12), (.free, 13), (.free, 14)])] 15 (by kernel_rfl) (by kernel_rfl) (fun _ _ _ _ _ h => h) ⟨rfl, ?_⟩
    repeat (first
      | (refine' wpPlan_free (v := _) rfl (by rfl) ?_ ?_
         rotate_left
         · (intro w'; have g1 := G1.out; go_simp; try rfl)
         simp only [List.getElem_toArray, List.getElem_cons_zero, List.getElem_cons_succ, Act.put, List.setIfInBounds_toArray, List.set_cons_zero, List.set_cons_succ])
      | (refine' wpPlan_held (v := _) rfl (by rfl) ?_ ?_
         rotate_left
         · (intro w' hS; have g1 := G1.out; subst hS; go_simp; try rfl)
         simp only [List.getElem_toArray, List.getElem_cons_zero, List.getElem_cons_succ, Act.put, List.setIfInBounds_toArray, List.set_cons_zero, List.set_cons_succ])
      | (refine' wpPlan_skip rfl (by rfl) ?_
         simp only [List.getElem_toArray, List.getElem_cons_zero, List.getElem_cons_succ, Act.put, List.setIfInBounds_toArray, List.set_cons_zero, List.set_cons_succ])
      | (refine' wpPlan_skipHeld rfl (by rfl) ?_
         simp only [List.getElem_toArray, List.getElem_cons_zero, List.getElem_cons_succ, Act.put, List.setIfInBounds_toArray, List.set_cons_zero, List.set_cons_succ]))
    repeat (first
      | (refine' wpPlan_free (v := _) rfl (by rfl) ?_ ?_
         rotate_left
         · (intro w'; have g1 := G1.out; go_simp; try rfl)
         simp only [List.getElem_toArray, List.getElem_cons_zero, List.getElem_cons_succ, Act.put, List.setIfInBounds_toArray, List.set_cons_zero, List.set_cons_succ])
      | (refine' wpPlan_held (v := _) rfl (by rfl) ?_ ?_
         rotate_left
         · (intro w' hS; have g1 := G1.out; go_simp; try rfl)
         simp only [List.getElem_toArray, List.getElem_cons_zero, List.getElem_cons_succ, Act.put, List.setIfInBounds_toArray, List.set_cons_zero, List.set_cons_succ])
      | (refine' wpPlan_skip rfl (by rfl) ?_
         simp only [List.getElem_toArray, List.getElem_cons_zero, List.getElem_cons_succ, Act.put, List.setIfInBounds_toArray, List.set_cons_zero, List.set_cons_succ])
      | (refine' wpPlan_skipHeld rfl (by rfl) ?_
         simp only [List.getElem_toArray, List.getElem_cons_zero, List.getElem_cons_succ, Act.put, List.setIfInBounds_toArray, List.set_cons_zero, List.set_cons_succ]))
    refine wpPlan_end ?_
    simp only [wpSegs, List.drop_succ_cons, List.drop_zero]
    have fwd : Fr Non w w2.drew := fw2.drew
    have bCd : w2.drew.heap[C]? = some (.cells #[.int .i64 5, .int .u64 key, .int .u64 high, .slice ca bs.length cc] 39 (0, 0)) := bC2
    have bRd : w2.drew.heap[C + 1]? = some (.cells (#[.int .i64 0, .int .u64 0, .slice none 0 0, .slice none 0 0, .int .i64 0, .int .i64 0, .int .u64 0, .int .i64 0, .int .u64 0, .int .i64 0, .int .i64 0, .int .u64 0, .int .i64 0, .int .u64 0, .bool false] : Array Value) 52 (0, 0)) := bR2
    clear qC zC bC2 bR2 fw2 
    generalize w2.drew = wd at fwd bCd bRd ⊢
    obtain ⟨qC, zC⟩ := box_facts bCd
    obtain ⟨qR, zR⟩ := box_facts bRd
    go_wp2_with fail
    clear qC zC qR zR
    obtain ⟨A, hA⟩ : ∃ A, (if cap = l.length then (some ⟨g0, 0, none⟩ : Option Addr) else some ⟨g0, l.length * 2, none⟩) = some A := by split <;> exact ⟨_, rfl⟩
    have W3 := Lib.hid hA
    have e3 : (l.length : Int) ≤ (cap : Int) := by omega
    have htl := Lib.hid (tail_sl hB.sl hPle hA)
    clear hA
    refine wp_draw [((fun y => y.heap[C]? = some (.cells #[.int .i64 5, .int .u64 key, .int .u64 high, .slice ca bs.length cc] 39 (0, 0))), [(.free, 0), (.free, 1), (.free, 2), (.free, 3), (.free, 4), (.held, 5), (.kept, 6), (.free, 7)])] 8 (by kernel_rfl) (by kernel_rfl) (fun _ _ _ _ _ h => h) ⟨bCd, ?_⟩
    have fwe := fwd.drew
    have bCe : wd.drew.heap[C]? = some (.cells #[.int .i64 5, .int .u64 key, .int .u64 high, .slice ca bs.length cc] 39 (0, 0)) := bCd
    have bRe : wd.drew.heap[C + 1]? = some (.cells (#[.int .i64 0, .int .u64 0, .slice none 0 0, .slice none 0 0, .int .i64 0, .int .i64 0, .int .u64 0, .int .i64 0, .int .u64 0, .int .i64 0, .int .i64 0, .int .u64 0, .int .i64 0, .int .u64 0, .bool false] : Array Value) 52 (0, 0)) := bRd
    clear fwd bCd bRd
    generalize wd.drew = we at fwe bCe bRe ⊢
    repeat (first
      | (refine' wpPlan_free (v := _) rfl (by rfl) ?_ ?_
         rotate_left
         · (intro w'; have w3 := W3.out; go_simp; try rfl)
         simp only [List.getElem_toArray, List.getElem_cons_zero, List.getElem_cons_succ, Act.put, List.setIfInBounds_toArray, List.set_cons_zero, List.set_cons_succ])
      | (refine' wpPlan_held (v := _) rfl (by rfl) ?_ ?_
         rotate_left
         · (intro w' hS; have w3 := W3.out; obtain ⟨q1, _⟩ := box_facts hS; clear hS; go_simp; try rfl)
         simp only [List.getElem_toArray, List.getElem_cons_zero, List.getElem_cons_succ, Act.put, List.setIfInBounds_toArray, List.set_cons_zero, List.set_cons_succ])
      | (refine' wpPlan_skip rfl (by rfl) ?_
         simp only [List.getElem_toArray, List.getElem_cons_zero, List.getElem_cons_succ, Act.put, List.setIfInBounds_toArray, List.set_cons_zero, List.set_cons_succ])
      | (refine' wpPlan_skipHeld rfl (by rfl) ?_
         simp only [List.getElem_toArray, List.getElem_cons_zero, List.getElem_cons_succ, Act.put, List.setIfInBounds_toArray, List.set_cons_zero, List.set_cons_succ]))
    refine' wpPlan_kept rfl ?_
    intro K hK
    go_simp
    refine (ranged_at (htl.out.stay fwe) (by omega) hl high).mono ?_
    rintro e w3 ⟨e4, m, a3, c3, a4, c4, rfl, hr0, hu3, hv3, hm3, f3⟩
    go_simp
    refine hK _ _ ⟨f3.heap bCe id, ?_⟩
    clear hK K
    repeat (first
      | (refine' wpPlan_free (v := _) rfl (by rfl) ?_ ?_
         rotate_left
         · (intro w'; go_simp; try rfl)
         simp only [List.getElem_toArray, List.getElem_cons_zero, List.getElem_cons_succ, Act.put, List.setIfInBounds_toArray, List.set_cons_zero, List.set_cons_succ])
      | (refine' wpPlan_held (v := _) rfl (by rfl) ?_ ?_
         rotate_left
         · (intro w' hS; clear hS; go_simp; try rfl)
         simp only [List.getElem_toArray, List.getElem_cons_zero, List.getElem_cons_succ, Act.put, List.setIfInBounds_toArray, List.set_cons_zero, List.set_cons_succ])
      | (refine' wpPlan_skip rfl (by rfl) ?_
         simp only [List.getElem_toArray, List.getElem_cons_zero, List.getElem_cons_succ, Act.put, List.setIfInBounds_toArray, List.set_cons_zero, List.set_cons_succ])
      | (refine' wpPlan_skipHeld rfl (by rfl) ?_
         simp only [List.getElem_toArray, List.getElem_cons_zero, List.getElem_cons_succ, Act.put, List.setIfInBounds_toArray, List.set_cons_zero, List.set_cons_succ]))
    refine wpPlan_end ?_
    simp only [wpSegs, List.drop_succ_cons, List.drop_zero]
    have bR3 := f3.heap bRe id
    obtain ⟨qR, zR⟩ := box_facts bR3
    have fw3 := fwe.trans f3
    have HR := Lib.hid hr0
    clear hr0
    have HD := Lib.hid (show mDone l (5, key, high, bs) = (l, (e4, 0, [], m, r0, r0, false)) by
      have h1 : mDone l (5, key, high, bs) = (l, mAsked l (5, key, high, bs)) := by simp [mDone]
      rw [h1, ← HR.out]
      unfold mAsked mRanged mWhile
      rw [if_pos rfl, mBetween_place hok, show mPlace (5, key, high, bs).2.1 l = l.length from HP.out]
      rfl)
    go_wp2_with fail
    refine bodyPost_ret (v := .tuple #[(.slice (some ⟨g0, 0, none⟩) l.length cap), .agg (resCells (e4, 0, [], m, r0, r0, false) (.slice a3 0 c3) (.slice a4 m.length c4)).toArray]) (by simp [results, Try.results71, go_sem, set15_cell bR3, resCells, refCells, r0]) rfl ⟨(.slice (some ⟨g0, 0, none⟩) l.length cap), _, rfl, ?_, fun b hb => .inl hb, ?_, ?_⟩
    · rw [HD.out]
      exact hBS.keepAt fw3 (set15_fr _ (C + 1) _ _ _ _ _ _ _ _ _ _ _ _ _ _ _) (by have := HCC.out; omega)
    · rw [HD.out]
      have hz := lt_of_block bRe
      have hfr := set15_fr w3 (C + 1) (.int .i64 e4) (.int .u64 0) (.slice a3 0 c3) (.slice a4 m.length c4) (.int .i64 0) (.int .i64 0) (.int .u64 0) (.int .i64 0) (.int .u64 0) (.int .i64 0) (.int .i64 0) (.int .u64 0) (.int .i64 0) (.int .u64 0) (.bool false)
      exact ⟨_, _, rfl, (hu3.frame hfr (fun b _ hb e => by omega)).mono (fun b _ hb => by have := fwe.size; omega), (hv3.frame hfr (fun b _ hb e => by omega)).mono (fun b _ hb => by have := fwe.size; omega), by simp, hm3, by simp⟩
    · exact fw3.trans2 (set15_fr _ (C + 1) _ _ _ _ _ _ _ _ _ _ _ _ _ _ _) (fun b hb e => by have := HCC.out; omega)
  obtain ⟨x, hx⟩ : ∃ x, l[P] = x := ⟨_, rfl⟩
  have hths : (mKey key l).isSome = decide (x.1 = key) := by have := HTh.out; rw [List.getElem?_eq_getElem hlt, hx] at this; exact this
  by_cases hne : x.1 = key
  · have HN := Lib.hid (show (mKey key l).isSome = true by rw [hths, decide_eq_true hne])
    clear hths
    subst hne
    go_enter Try.func71, Try.ntmps71
    go_wp2_with fail
    refine hpl.mono ?_
    clear hpl
    rintro e w2 ⟨rfl, f2⟩
    have bC2 := f2.heap bC id
    have bR2 := f2.heap bR id
    have fw2 : Fr Non w w2 := f0.trans f2
    obtain ⟨g0', u, ea, hcap, hcm, d0, d1, hu, hul, _, _⟩ := build_at (hB.fr fw2) P hlt
    cases ea
    unfold maxLen at hcm
    rw [hx] at d0 hu hul
    have p1 : (P : Int) < (l.length : Int) := by omega
    have p0 : (0 : Int) ≤ (P : Int) := by omega
    have G1 := Lib.hid (decide_eq_true p1)
    have G2 := Lib.hid (show (x.1 == x.1) = true by simp)
    obtain ⟨qC, zC⟩ := box_facts bC2
    go_wp2_with fail
    refine wp_draw [((fun x => x = w2.drew), [(.free, 0), (.free, 1), (.free, 2), (.free, 3), (.free, 4), (.free, 5), (.free, 6), (.free, 7), (.free, 8), (.held, 9), (.free, 10), (.held, 11), (.free, 12), (.free, 13), (.free, 14)])] 15 (by kernel_rfl) (by kernel_rfl) (fun _ _ _ _ _ h => h) ⟨rfl, ?_⟩
    repeat (first
      | (refine' wpPlan_free (v := _) rfl (by rfl) ?_ ?_
         rotate_left
         · (intro w'; have g1 := G1.out; have g2 := G2.out; go_simp; try rfl)
         simp only [List.getElem_toArray, List.getElem_cons_zero, List.getElem_cons_succ, Act.put, List.setIfInBounds_toArray, List.set_cons_zero, List.set_cons_succ])
      | (refine' wpPlan_held (v := _) rfl (by rfl) ?_ ?_
         rotate_left
         · (intro w' hS; have g1 := G1.out; have g2 := G2.out; subst hS; go_simp; try rfl)
         simp only [List.getElem_toArray, List.getElem_cons_zero, List.getElem_cons_succ, Act.put, List.setIfInBounds_toArray, List.set_cons_zero, List.set_cons_succ])
      | (refine' wpPlan_skip rfl (by rfl) ?_
         simp only [List.getElem_toArray, List.getElem_cons_zero, List.getElem_cons_succ, Act.put, List.setIfInBounds_toArray, List.set_cons_zero, List.set_cons_succ])
      | (refine' wpPlan_skipHeld rfl (by rfl) ?_
         simp only [List.getElem_toArray, List.getElem_cons_zero, List.getElem_cons_succ, Act.put, List.setIfInBounds_toArray, List.set_cons_zero, List.set_cons_succ]))
    repeat (first
      | (refine' wpPlan_free (v := _) rfl (by rfl) ?_ ?_
         rotate_left
         · (intro w'; have g1 := G1.out; have g2 := G2.out; go_simp; try rfl)
         simp only [List.getElem_toArray, List.getElem_cons_zero, List.getElem_cons_succ, Act.put, List.setIfInBounds_toArray, List.set_cons_zero, List.set_cons_succ])
      | (refine' wpPlan_held (v := _) rfl (by rfl) ?_ ?_
         rotate_left
         · (intro w' hS; have g1 := G1.out; have g2 := G2.out; go_simp; try rfl)
         simp only [List.getElem_toArray, List.getElem_cons_zero, List.getElem_cons_succ, Act.put, List.setIfInBounds_toArray, List.set_cons_zero, List.set_cons_succ])
      | (refine' wpPlan_skip rfl (by rfl) ?_
         simp only [List.getElem_toArray, List.getElem_cons_zero, List.getElem_cons_succ, Act.put, List.setIfInBounds_toArray, List.set_cons_zero, List.set_cons_succ])
      | (refine' wpPlan_skipHeld rfl (by rfl) ?_
         simp only [List.getElem_toArray, List.getElem_cons_zero, List.getElem_cons_succ, Act.put, List.setIfInBounds_toArray, List.set_cons_zero, List.set_cons_succ]))
    refine wpPlan_end ?_
    simp only [wpSegs, List.drop_succ_cons, List.drop_zero]
    have fwd : Fr Non w w2.drew := fw2.drew
    have bCd : w2.drew.heap[C]? = some (.cells #[.int .i64 5, .int .u64 x.1, .int .u64 high, .slice ca bs.length cc] 39 (0, 0)) := bC2
    have bRd : w2.drew.heap[C + 1]? = some (.cells (#[.int .i64 0, .int .u64 0, .slice none 0 0, .slice none 0 0, .int .i64 0, .int .i64 0, .int .u64 0, .int .i64 0, .int .u64 0, .int .i64 0, .int .i64 0, .int .u64 0, .int .i64 0, .int .u64 0, .bool false] : Array Value) 52 (0, 0)) := bR2
    clear qC zC bC2 bR2 fw2 d0 d1
    generalize w2.drew = wd at fwd bCd bRd ⊢
    obtain ⟨qC, zC⟩ := box_facts bCd
    obtain ⟨qR, zR⟩ := box_facts bRd
    go_wp2_with fail
    clear qC zC qR zR
    obtain ⟨A, hA⟩ : ∃ A, (if cap = P then (some ⟨g0, 0, none⟩ : Option Addr) else some ⟨g0, P * 2, none⟩) = some A := by split <;> exact ⟨_, rfl⟩
    have W3 := Lib.hid hA
    have e3 : (P : Int) ≤ (cap : Int) := by omega
    have htl := Lib.hid (tail_sl hB.sl hPle hA)
    clear hA
    refine wp_draw [((fun y => y.heap[C]? = some (.cells #[.int .i64 5, .int .u64 x.1, .int .u64 high, .slice ca bs.length cc] 39 (0, 0))), [(.free, 0), (.free, 1), (.free, 2), (.free, 3), (.free, 4), (.held, 5), (.kept, 6), (.free, 7)])] 8 (by kernel_rfl) (by kernel_rfl) (fun _ _ _ _ _ h => h) ⟨bCd, ?_⟩
    have fwe := fwd.drew
    have bCe : wd.drew.heap[C]? = some (.cells #[.int .i64 5, .int .u64 x.1, .int .u64 high, .slice ca bs.length cc] 39 (0, 0)) := bCd
    have bRe : wd.drew.heap[C + 1]? = some (.cells (#[.int .i64 0, .int .u64 0, .slice none 0 0, .slice none 0 0, .int .i64 0, .int .i64 0, .int .u64 0, .int .i64 0, .int .u64 0, .int .i64 0, .int .i64 0, .int .u64 0, .int .i64 0, .int .u64 0, .bool false] : Array Value) 52 (0, 0)) := bRd
    clear fwd bCd bRd
    generalize wd.drew = we at fwe bCe bRe ⊢
    repeat (first
      | (refine' wpPlan_free (v := _) rfl (by rfl) ?_ ?_
         rotate_left
         · (intro w'; have w3 := W3.out; go_simp; try rfl)
         simp only [List.getElem_toArray, List.getElem_cons_zero, List.getElem_cons_succ, Act.put, List.setIfInBounds_toArray, List.set_cons_zero, List.set_cons_succ])
      | (refine' wpPlan_held (v := _) rfl (by rfl) ?_ ?_
         rotate_left
         · (intro w' hS; have w3 := W3.out; obtain ⟨q1, _⟩ := box_facts hS; clear hS; go_simp; try rfl)
         simp only [List.getElem_toArray, List.getElem_cons_zero, List.getElem_cons_succ, Act.put, List.setIfInBounds_toArray, List.set_cons_zero, List.set_cons_succ])
      | (refine' wpPlan_skip rfl (by rfl) ?_
         simp only [List.getElem_toArray, List.getElem_cons_zero, List.getElem_cons_succ, Act.put, List.setIfInBounds_toArray, List.set_cons_zero, List.set_cons_succ])
      | (refine' wpPlan_skipHeld rfl (by rfl) ?_
         simp only [List.getElem_toArray, List.getElem_cons_zero, List.getElem_cons_succ, Act.put, List.setIfInBounds_toArray, List.set_cons_zero, List.set_cons_succ]))
    refine' wpPlan_kept rfl ?_
    intro K hK
    go_simp
    refine (ranged_at (htl.out.stay fwe) (by omega) hl high).mono ?_
    rintro e w3 ⟨e4, m, a3, c3, a4, c4, rfl, hr0, hu3, hv3, hm3, f3⟩
    go_simp
    refine hK _ _ ⟨f3.heap bCe id, ?_⟩
    clear hK K
    repeat (first
      | (refine' wpPlan_free (v := _) rfl (by rfl) ?_ ?_
         rotate_left
         · (intro w'; go_simp; try rfl)
         simp only [List.getElem_toArray, List.getElem_cons_zero, List.getElem_cons_succ, Act.put, List.setIfInBounds_toArray, List.set_cons_zero, List.set_cons_succ])
      | (refine' wpPlan_held (v := _) rfl (by rfl) ?_ ?_
         rotate_left
         · (intro w' hS; clear hS; go_simp; try rfl)
         simp only [List.getElem_toArray, List.getElem_cons_zero, List.getElem_cons_succ, Act.put, List.setIfInBounds_toArray, List.set_cons_zero, List.set_cons_succ])
      | (refine' wpPlan_skip rfl (by rfl) ?_
         simp only [List.getElem_toArray, List.getElem_cons_zero, List.getElem_cons_succ, Act.put, List.setIfInBounds_toArray, List.set_cons_zero, List.set_cons_succ])
      | (refine' wpPlan_skipHeld rfl (by rfl) ?_
         simp only [List.getElem_toArray, List.getElem_cons_zero, List.getElem_cons_succ, Act.put, List.setIfInBounds_toArray, List.set_cons_zero, List.set_cons_succ]))
    refine wpPlan_end ?_
    simp only [wpSegs, List.drop_succ_cons, List.drop_zero]
    have bR3 := f3.heap bRe id
    obtain ⟨qR, zR⟩ := box_facts bR3
    have fw3 := fwe.trans f3
    have HR := Lib.hid hr0
    clear hr0
    have HD := Lib.hid (show mDone l (5, x.1, high, bs) = (l, (e4, 0, [], m, r0, r0, false)) by
      have h1 : mDone l (5, x.1, high, bs) = (l, mAsked l (5, x.1, high, bs)) := by simp [mDone]
      rw [h1, ← HR.out]
      unfold mAsked mRanged mWhile
      rw [if_pos rfl, mBetween_place hok, show mPlace (5, x.1, high, bs).2.1 l = P from HP.out]
      rfl)
    go_wp2_with fail
    refine bodyPost_ret (v := .tuple #[(.slice (some ⟨g0, 0, none⟩) l.length cap), .agg (resCells (e4, 0, [], m, r0, r0, false) (.slice a3 0 c3) (.slice a4 m.length c4)).toArray]) (by simp [results, Try.results71, go_sem, set15_cell bR3, resCells, refCells, r0]) rfl ⟨(.slice (some ⟨g0, 0, none⟩) l.length cap), _, rfl, ?_, fun b hb => .inl hb, ?_, ?_⟩
    · rw [HD.out]
      exact hBS.keepAt fw3 (set15_fr _ (C + 1) _ _ _ _ _ _ _ _ _ _ _ _ _ _ _) (by have := HCC.out; omega)
    · rw [HD.out]
      have hz := lt_of_block bRe
      have hfr := set15_fr w3 (C + 1) (.int .i64 e4) (.int .u64 0) (.slice a3 0 c3) (.slice a4 m.length c4) (.int .i64 0) (.int .i64 0) (.int .u64 0) (.int .i64 0) (.int .u64 0) (.int .i64 0) (.int .i64 0) (.int .u64 0) (.int .i64 0) (.int .u64 0) (.bool false)
      exact ⟨_, _, rfl, (hu3.frame hfr (fun b _ hb e => by omega)).mono (fun b _ hb => by have := fwe.size; omega), (hv3.frame hfr (fun b _ hb e => by omega)).mono (fun b _ hb => by have := fwe.size; omega), by simp, hm3, by simp⟩
    · exact fw3.trans2 (set15_fr _ (C + 1) _ _ _ _ _ _ _ _ _ _ _ _ _ _ _) (fun b hb e => by have := HCC.out; omega)
  · have HN := Lib.hid (show (mKey key l).isSome = false by rw [hths, decide_eq_false hne])
    clear hths
    go_enter Try.func71, Try.ntmps71
    go_wp2_with fail
    refine hpl.mono ?_
    clear hpl
    rintro e w2 ⟨rfl, f2⟩
    have bC2 := f2.heap bC id
    have bR2 := f2.heap bR id
    have fw2 : Fr Non w w2 := f0.trans f2
    obtain ⟨g0', u, ea, hcap, hcm, d0, d1, hu, hul, _, _⟩ := build_at (hB.fr fw2) P hlt
    cases ea
    unfold maxLen at hcm
    rw [hx] at d0 hu hul
    have p1 : (P : Int) < (l.length : Int) := by omega
    have p0 : (0 : Int) ≤ (P : Int) := by omega
    have G1 := Lib.hid (decide_eq_true p1)
    have G2 := Lib.hid (show (x.1 == key) = false by simpa using hne)
    obtain ⟨qC, zC⟩ := box_facts bC2
    go_wp2_with fail
    refine wp_draw [((fun x => x = w2.drew), [(.free, 0), (.free, 1), (.free, 2), (.free, 3), (.free, 4), (.free, 5), (.free, 6), (.free, 7), (.free, 8), (.held, 9), (.free, 10), (.held, 11), (.free, 12), (.free, 13), (.free, 14)])] 15 (by kernel_rfl) (by kernel_rfl) (fun _ _ _ _ _ h => h) ⟨rfl, ?_⟩
    repeat (first
      | (refine' wpPlan_free (v := _) rfl (by rfl) ?_ ?_
         rotate_left
         · (intro w'; have g1 := G1.out; have g2 := G2.out; go_simp; try rfl)
         simp only [List.getElem_toArray, List.getElem_cons_zero, List.getElem_cons_succ, Act.put, List.setIfInBounds_toArray, List.set_cons_zero, List.set_cons_succ])
      | (refine' wpPlan_held (v := _) rfl (by rfl) ?_ ?_
         rotate_left
         · (intro w' hS; have g1 := G1.out; have g2 := G2.out; subst hS; go_simp; try rfl)
         simp only [List.getElem_toArray, List.getElem_cons_zero, List.getElem_cons_succ, Act.put, List.setIfInBounds_toArray, List.set_cons_zero, List.set_cons_succ])
      | (refine' wpPlan_skip rfl (by rfl) ?_
         simp only [List.getElem_toArray, List.getElem_cons_zero, List.getElem_cons_succ, Act.put, List.setIfInBounds_toArray, List.set_cons_zero, List.set_cons_succ])
      | (refine' wpPlan_skipHeld rfl (by rfl) ?_
         simp only [List.getElem_toArray, List.getElem_cons_zero, List.getElem_cons_succ, Act.put, List.setIfInBounds_toArray, List.set_cons_zero, List.set_cons_succ]))
    repeat (first
      | (refine' wpPlan_free (v := _) rfl (by rfl) ?_ ?_
         rotate_left
         · (intro w'; have g1 := G1.out; have g2 := G2.out; go_simp; try rfl)
         simp only [List.getElem_toArray, List.getElem_cons_zero, List.getElem_cons_succ, Act.put, List.setIfInBounds_toArray, List.set_cons_zero, List.set_cons_succ])
      | (refine' wpPlan_held (v := _) rfl (by rfl) ?_ ?_
         rotate_left
         · (intro w' hS; have g1 := G1.out; have g2 := G2.out; go_simp; try rfl)
         simp only [List.getElem_toArray, List.getElem_cons_zero, List.getElem_cons_succ, Act.put, List.setIfInBounds_toArray, List.set_cons_zero, List.set_cons_succ])
      | (refine' wpPlan_skip rfl (by rfl) ?_
         simp only [List.getElem_toArray, List.getElem_cons_zero, List.getElem_cons_succ, Act.put, List.setIfInBounds_toArray, List.set_cons_zero, List.set_cons_succ])
      | (refine' wpPlan_skipHeld rfl (by rfl) ?_
         simp only [List.getElem_toArray, List.getElem_cons_zero, List.getElem_cons_succ, Act.put, List.setIfInBounds_toArray, List.set_cons_zero, List.set_cons_succ]))
    refine wpPlan_end ?_
    simp only [wpSegs, List.drop_succ_cons, List.drop_zero]
    have fwd : Fr Non w w2.drew := fw2.drew
    have bCd : w2.drew.heap[C]? = some (.cells #[.int .i64 5, .int .u64 key, .int .u64 high, .slice ca bs.length cc] 39 (0, 0)) := bC2
    have bRd : w2.drew.heap[C + 1]? = some (.cells (#[.int .i64 0, .int .u64 0, .slice none 0 0, .slice none 0 0, .int .i64 0, .int .i64 0, .int .u64 0, .int .i64 0, .int .u64 0, .int .i64 0, .int .i64 0, .int .u64 0, .int .i64 0, .int .u64 0, .bool false] : Array Value) 52 (0, 0)) := bR2
    clear qC zC bC2 bR2 fw2 d0 d1
    generalize w2.drew = wd at fwd bCd bRd ⊢
    obtain ⟨qC, zC⟩ := box_facts bCd
    obtain ⟨qR, zR⟩ := box_facts bRd
    go_wp2_with fail
    clear qC zC qR zR
    obtain ⟨A, hA⟩ : ∃ A, (if cap = P then (some ⟨g0, 0, none⟩ : Option Addr) else some ⟨g0, P * 2, none⟩) = some A := by split <;> exact ⟨_, rfl⟩
    have W3 := Lib.hid hA
    have e3 : (P : Int) ≤ (cap : Int) := by omega
    have htl := Lib.hid (tail_sl hB.sl hPle hA)
    clear hA
    refine wp_draw [((fun y => y.heap[C]? = some (.cells #[.int .i64 5, .int .u64 key, .int .u64 high, .slice ca bs.length cc] 39 (0, 0))), [(.free, 0), (.free, 1), (.free, 2), (.free, 3), (.free, 4), (.held, 5), (.kept, 6), (.free, 7)])] 8 (by kernel_rfl) (by kernel_rfl) (fun _ _ _ _ _ h => h) ⟨bCd, ?_⟩
    have fwe := fwd.drew
    have bCe : wd.drew.heap[C]? = some (.cells #[.int .i64 5, .int .u64 key, .int .u64 high, .slice ca bs.length cc] 39 (0, 0)) := bCd
    have bRe : wd.drew.heap[C + 1]? = some (.cells (#[.int .i64 0, .int .u64 0, .slice none 0 0, .slice none 0 0, .int .i64 0, .int .i64 0, .int .u64 0, .int .i64 0, .int .u64 0, .int .i64 0, .int .i64 0, .int .u64 0, .int .i64 0, .int .u64 0, .bool false] : Array Value) 52 (0, 0)) := bRd
    clear fwd bCd bRd
    generalize wd.drew = we at fwe bCe bRe ⊢
    repeat (first
      | (refine' wpPlan_free (v := _) rfl (by rfl) ?_ ?_
         rotate_left
         · (intro w'; have w3 := W3.out; go_simp; try rfl)
         simp only [List.getElem_toArray, List.getElem_cons_zero, List.getElem_cons_succ, Act.put, List.setIfInBounds_toArray, List.set_cons_zero, List.set_cons_succ])
      | (refine' wpPlan_held (v := _) rfl (by rfl) ?_ ?_
         rotate_left
         · (intro w' hS; have w3 := W3.out; obtain ⟨q1, _⟩ := box_facts hS; clear hS; go_simp; try rfl)
         simp only [List.getElem_toArray, List.getElem_cons_zero, List.getElem_cons_succ, Act.put, List.setIfInBounds_toArray, List.set_cons_zero, List.set_cons_succ])
      | (refine' wpPlan_skip rfl (by rfl) ?_
         simp only [List.getElem_toArray, List.getElem_cons_zero, List.getElem_cons_succ, Act.put, List.setIfInBounds_toArray, List.set_cons_zero, List.set_cons_succ])
      | (refine' wpPlan_skipHeld rfl (by rfl) ?_
         simp only [List.getElem_toArray, List.getElem_cons_zero, List.getElem_cons_succ, Act.put, List.setIfInBounds_toArray, List.set_cons_zero, List.set_cons_succ]))
    refine' wpPlan_kept rfl ?_
    intro K hK
    go_simp
    refine (ranged_at (htl.out.stay fwe) (by omega) hl high).mono ?_
    rintro e w3 ⟨e4, m, a3, c3, a4, c4, rfl, hr0, hu3, hv3, hm3, f3⟩
    go_simp
    refine hK _ _ ⟨f3.heap bCe id, ?_⟩
    clear hK K
    repeat (first
      | (refine' wpPlan_free (v := _) rfl (by rfl) ?_ ?_
         rotate_left
         · (intro w'; go_simp; try rfl)
         simp only [List.getElem_toArray, List.getElem_cons_zero, List.getElem_cons_succ, Act.put, List.setIfInBounds_toArray, List.set_cons_zero, List.set_cons_succ])
      | (refine' wpPlan_held (v := _) rfl (by rfl) ?_ ?_
         rotate_left
         · (intro w' hS; clear hS; go_simp; try rfl)
         simp only [List.getElem_toArray, List.getElem_cons_zero, List.getElem_cons_succ, Act.put, List.setIfInBounds_toArray, List.set_cons_zero, List.set_cons_succ])
      | (refine' wpPlan_skip rfl (by rfl) ?_
         simp only [List.getElem_toArray, List.getElem_cons_zero, List.getElem_cons_succ, Act.put, List.setIfInBounds_toArray, List.set_cons_zero, List.set_cons_succ])
      | (refine' wpPlan_skipHeld rfl (by rfl) ?_
         simp only [List.getElem_toArray, List.getElem_cons_zero, List.getElem_cons_succ, Act.put, List.setIfInBounds_toArray, List.set_cons_zero, List.set_cons_succ]))
    refine wpPlan_end ?_
    simp only [wpSegs, List.drop_succ_cons, List.drop_zero]
    have bR3 := f3.heap bRe id
    obtain ⟨qR, zR⟩ := box_facts bR3
    have fw3 := fwe.trans f3
    have HR := Lib.hid hr0
    clear hr0
    have HD := Lib.hid (show mDone l (5, key, high, bs) = (l, (e4, 0, [], m, r0, r0, false)) by
      have h1 : mDone l (5, key, high, bs) = (l, mAsked l (5, key, high, bs)) := by simp [mDone]
      rw [h1, ← HR.out]
      unfold mAsked mRanged mWhile
      rw [if_pos rfl, mBetween_place hok, show mPlace (5, key, high, bs).2.1 l = P from HP.out]
      rfl)
    go_wp2_with fail
    refine bodyPost_ret (v := .tuple #[(.slice (some ⟨g0, 0, none⟩) l.length cap), .agg (resCells (e4, 0, [], m, r0, r0, false) (.slice a3 0 c3) (.slice a4 m.length c4)).toArray]) (by simp [results, Try.results71, go_sem, set15_cell bR3, resCells, refCells, r0]) rfl ⟨(.slice (some ⟨g0, 0, none⟩) l.length cap), _, rfl, ?_, fun b hb => .inl hb, ?_, ?_⟩
    · rw [HD.out]
      exact hBS.keepAt fw3 (set15_fr _ (C + 1) _ _ _ _ _ _ _ _ _ _ _ _ _ _ _) (by have := HCC.out; omega)
    · rw [HD.out]
      have hz := lt_of_block bRe
      have hfr := set15_fr w3 (C + 1) (.int .i64 e4) (.int .u64 0) (.slice a3 0 c3) (.slice a4 m.length c4) (.int .i64 0) (.int .i64 0) (.int .u64 0) (.int .i64 0) (.int .u64 0) (.int .i64 0) (.int .i64 0) (.int .u64 0) (.int .i64 0) (.int .u64 0) (.bool false)
      exact ⟨_, _, rfl, (hu3.frame hfr (fun b _ hb e => by omega)).mono (fun b _ hb => by have := fwe.size; omega), (hv3.frame hfr (fun b _ hb e => by omega)).mono (fun b _ hb => by have := fwe.size; omega), by simp, hm3, by simp⟩
    · exact fw3.trans2 (set15_fr _ (C + 1) _ _ _ _ _ _ _ _ _ _ _ _ _ _ _) (fun b hb e => by have := HCC.out; omega)
end Go.Proofs.Ytplhcfaonhkegaa
