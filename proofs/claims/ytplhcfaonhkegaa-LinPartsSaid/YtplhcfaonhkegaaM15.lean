/-
  Model: done: the value of a key.
-/
import Derived.Test.YtplhcfaonhkegaaM12
namespace Go.Proofs.Ytplhcfaonhkegaa
open Go.RowKit Go.Maps

set_option maxRecDepth 100000 in
set_option maxHeartbeats 1500000 in
theorem done3 {S : Nat → Prop} {w : World} {a : Option Addr} {cap : Nat} {l : List MItem} (hBS : BuildS S kItem 60 w (.slice a l.length cap) l) (hok : mOk none l = true) (hl : l.length ≤ 90000) (key high : Int) {ca : Option Addr} {cc : Nat} {bs : List UInt8}
    (hv : Sl kByte All w (.slice ca bs.length cc) bs) (hc : mCallOk (3, key, high, bs) = true) (hk : 0 ≤ key ∧ key ≤ 18446744073709551615) :
    Calls Try.prog 71 #[.slice a l.length cap, .agg #[.int .i64 3, .int .u64 key, .int .u64 high, .slice ca bs.length cc]] w fun e w' =>
      ∃ v' x, e = .returned (.tuple #[v', x]) ∧ BuildS (fun b => S b ∨ w.heap.size ≤ b) kItem 60 w' v' (mDone l (3, key, high, bs)).1 ∧ (∀ b, v'.ownBlock = some b → (Value.slice a l.length cap).ownBlock = some b ∨ w.heap.size ≤ b) ∧ ResS (fun b => w.heap.size ≤ b) w' x (mDone l (3, key, high, bs)).2 ∧ Fr Non w w' := by
  have hB := hBS.build
  have f0 : Fr Non w ((w.alloc (.cells #[.int .i64 3, .int .u64 key, .int .u64 high, .slice ca bs.length cc] 39)).alloc (.cells #[.int .i64 0, .int .u64 0, .slice none 0 0, .slice none 0 0, .int .i64 0, .int .i64 0, .int .u64 0, .int .i64 0, .int .u64 0, .int .i64 0, .int .i64 0, .int .u64 0, .int .i64 0, .int .u64 0, .bool false] 52)) := ((Fr.refl _ _).alloc _).alloc _
  have bC := alloc_at2 w (.cells #[.int .i64 3, .int .u64 key, .int .u64 high, .slice ca bs.length cc] 39) (.cells #[.int .i64 0, .int .u64 0, .slice none 0 0, .slice none 0 0, .int .i64 0, .int .i64 0, .int .u64 0, .int .i64 0, .int .u64 0, .int .i64 0, .int .i64 0, .int .u64 0, .int .i64 0, .int .u64 0, .bool false] 52)
  have bR := alloc_at2' w (.cells #[.int .i64 3, .int .u64 key, .int .u64 high, .slice ca bs.length cc] 39) (.cells #[.int .i64 0, .int .u64 0, .slice none 0 0, .slice none 0 0, .int .i64 0, .int .i64 0, .int .u64 0, .int .i64 0, .int .u64 0, .int .i64 0, .int .i64 0, .int .u64 0, .int .i64 0, .int .u64 0, .bool false] 52)
  have hpl := place_any (hB.sl.stay f0) hok (by omega) key
  have hPle := mPlace_le key l
  have hth := mKey_there (k := key) hok
  have hplace := mPlace_cut key hok
  obtain ⟨P, hP⟩ : ∃ P, mPlace key l = P := ⟨_, rfl⟩
  unfold mThere at hth
  rw [hP] at hpl hPle hth hplace
  have HP := Lib.hid hP
  have HTh := Lib.hid hth
  have HPl := Lib.hid hplace
  obtain ⟨C, hC⟩ : ∃ C, w.heap.size = C := ⟨_, rfl⟩
  have HCC := Lib.hid hC
  have hBlt := hB.lt
  have HV := Lib.hid hv
  clear hP hth hplace hv
  rw [hC] at bC bR
  by_cases hlt : P < l.length
  rotate_left
  · obtain rfl : P = l.length := by omega
    have hnone : (mKey key l).isSome = false := by have := HTh.out; rw [List.getElem?_eq_none (by omega)] at this; exact this
    have HN := Lib.hid hnone
    clear hnone
    go_enter Try.func71, Try.ntmps71
    go_wp2_with fail
    refine hpl.mono ?_
    clear hpl
    rintro e w2 ⟨rfl, f2⟩
    have bC2 := f2.heap bC id
    have bR2 := f2.heap bR id
    have fw2 : Fr Non w w2 := f0.trans f2
    obtain ⟨hcap, hcm⟩ : l.length ≤ cap ∧ cap ≤ 2 ^ 63 - 1 := by
      obtain ⟨_, _, e, h1, h2, _⟩ := hB.sl.frm
      unfold maxLen at h2
      cases e
      exact ⟨h1, h2⟩
    have hcap2 : (l.length : Int) ≤ (cap : Int) := by omega
    have p1 : ¬ (l.length : Int) < (l.length : Int) := by omega
    have G1 := Lib.hid (decide_eq_false p1)
    obtain ⟨qC, zC⟩ := box_facts bC2
    go_wp2_with fail
    refine wp_draw [((fun x => x = w2.drew), [(.free, 0), (.free, 1), (.free, 2), (.free, 3), (.free, 4), (.free, 5), (.free, 6), (.free, 7), (.free, 8), (.held, 9), (.free, 10), (.held, 11), (.free, 12), (.free, 13), (.free, 14)])] 15 (by kernel_rfl) (by kernel_rfl) (fun _ _ _ _ _ h => h) ⟨rfl, ?_⟩
    repeat (first
      | (refine' wpPlan_free (v := _) rfl (by rfl) ?_ ?_
         rotate_left
         · (intro w'; have g1 := G1.out; go_simp; try rfl)
         simp only [List.getElem_toArray, List.getElem_cons_zero, List.getElem_cons_succ, Act.put, List.setIfInBounds_toArray, List.set_cons_zero, List.set_cons_succ])
      | (refine' wpPlan_held (v := _) rfl (by rfl) ?_ ?_
         rotate_left
         · (intro w' hS; have g1 := G1.out; subst hS; go_simp; try rfl)
         simp only [List.getElem_toArray, List.getElem_cons_zero, List.getElem_cons_succ, Act.put, List.setIfInBounds_toArray, List.set_cons_zero, List.set_cons_succ])
      | (refine' wpPlan_skip rfl (by rfl) ?_
         simp only [List.getElem_toArray, List.getElem_cons_zero, List.getElem_cons_succ, Act.put, List.setIfInBounds_toArray, List.set_cons_zero, List.set_cons_succ])
      | (refine' wpPlan_skipHeld rfl (by rfl) ?_
         simp only [List.getElem_toArray, List.getElem_cons_zero, List.getElem_cons_succ, Act.put, List.setIfInBounds_toArray, List.set_cons_zero, List.set_cons_succ]))
    repeat (first
      | (refine' wpPlan_free (v := _) rfl (by rfl) ?_ ?_
         rotate_left
         · (intro w'; have g1 := G1.out; go_simp; try rfl)
         simp only [List.getElem_toArray, List.getElem_cons_zero, List.getElem_cons_succ, Act.put, List.setIfInBounds_toArray, List.set_cons_zero, List.set_cons_succ])
      | (refine' wpPlan_held (v := _) rfl (by rfl) ?_ ?_
         rotate_left
         · (intro w' hS; have g1 := G1.out; go_simp; try rfl)
         simp only [List.getElem_toArray, List.getElem_cons_zero, List.getElem_cons_succ, Act.put, List.setIfInBounds_toArray, List.set_cons_zero, List.set_cons_succ])
      | (refine' wpPlan_skip rfl (by rfl) ?_
         simp only [List.getElem_toArray, List.getElem_cons_zero, List.getElem_cons_succ, Act.put, List.setIfInBounds_toArray, List.set_cons_zero, List.set_cons_succ])
      | (refine' wpPlan_skipHeld rfl (by rfl) ?_
         simp only [List.getElem_toArray, List.getElem_cons_zero, List.getElem_cons_succ, Act.put, List.setIfInBounds_toArray, List.set_cons_zero, List.set_cons_succ]))
    refine wpPlan_end ?_
    simp only [wpSegs, List.drop_succ_cons, List.drop_zero]
    have fwd : Fr Non w w2.drew := fw2.drew
    have bCd : w2.drew.heap[C]? = some (.cells #[.int .i64 3, .int .u64 key, .int .u64 high, .slice ca bs.length cc] 39 (0, 0)) := bC2
    have bRd : w2.drew.heap[C + 1]? = some (.cells (#[.int .i64 0, .int .u64 0, .slice none 0 0, .slice none 0 0, .int .i64 0, .int .i64 0, .int .u64 0, .int .i64 0, .int .u64 0, .int .i64 0, .int .i64 0, .int .u64 0, .int .i64 0, .int .u64 0, .bool false] : Array Value) 52 (0, 0)) := bR2
    clear qC zC bC2 bR2 fw2 
    generalize w2.drew = wd at fwd bCd bRd ⊢
    obtain ⟨qC, zC⟩ := box_facts bCd
    obtain ⟨qR, zR⟩ := box_facts bRd
    go_wp2_with fail
    refine bodyPost_ret (v := .tuple #[(.slice a l.length cap), .agg (resCells (mErr 101) (.slice none 0 0) (.slice none 0 0)).toArray]) (by simp [results, Try.results71, go_sem, set15_cell bRd, resCells, refCells, mErr, r0]) rfl ⟨(.slice a l.length cap), _, rfl, ?_, fun b hb => .inl hb, ?_, ?_⟩
    · rw [show mDone l (3, key, high, bs) = (l, mErr 101) by
        have h1 : mDone l (3, key, high, bs) = (l, mAsked l (3, key, high, bs)) := by simp [mDone]
        rw [h1]
        unfold mAsked
        rw [if_neg (by simp), mBetween_place hok, show mPlace (3, key, high, bs).2.1 l = l.length from HP.out, List.drop_length]
        rfl]
      exact hBS.keepAt fwd (set15_fr _ (C + 1) _ _ _ _ _ _ _ _ _ _ _ _ _ _ _) (by have := HCC.out; omega)
    · rw [show mDone l (3, key, high, bs) = (l, mErr 101) by
        have h1 : mDone l (3, key, high, bs) = (l, mAsked l (3, key, high, bs)) := by simp [mDone]
        rw [h1]
        unfold mAsked
        rw [if_neg (by simp), mBetween_place hok, show mPlace (3, key, high, bs).2.1 l = l.length from HP.out, List.drop_length]
        rfl]
      exact ResS.err 101
    · exact fwd.trans2 (set15_fr _ (C + 1) _ _ _ _ _ _ _ _ _ _ _ _ _ _ _) (fun b hb e => by have := HCC.out; omega)
  obtain ⟨x, hx⟩ : ∃ x, l[P] = x := ⟨_, rfl⟩
  have hths : (mKey key l).isSome = decide (x.1 = key) := by have := HTh.out; rw [List.getElem?_eq_getElem hlt, hx] at this; exact this
  by_cases hne : x.1 = key
  · have HN := Lib.hid (show (mKey key l).isSome = true by rw [hths, decide_eq_true hne])
    clear hths
    subst hne
    go_enter Try.func71, Try.ntmps71
    go_wp2_with fail
    refine hpl.mono ?_
    clear hpl
    rintro e w2 ⟨rfl, f2⟩
    have bC2 := f2.heap bC id
    have bR2 := f2.heap bR id
    have fw2 : Fr Non w w2 := f0.trans f2
    obtain ⟨g0, u, ea, hcap, hcm, d0, d1, hu, hul, _, _⟩ := build_at (hB.fr fw2) P hlt
    cases ea
    unfold maxLen at hcm
    rw [hx] at d0 hu hul
    have p1 : (P : Int) < (l.length : Int) := by omega
    have p0 : (0 : Int) ≤ (P : Int) := by omega
    have G1 := Lib.hid (decide_eq_true p1)
    have G2 := Lib.hid (show (x.1 == x.1) = true by simp)
    obtain ⟨qC, zC⟩ := box_facts bC2
    go_wp2_with fail
    refine wp_draw [((fun x => x = w2.drew), [(.free, 0), (.free, 1), (.free, 2), (.free, 3), (.free, 4), (.free, 5), (.free, 6), (.free, 7), (.free, 8), (.held, 9), (.free, 10), (.held, 11), (.free, 12), (.free, 13), (.free, 14)])] 15 (by kernel_rfl) (by kernel_rfl) (fun _ _ _ _ _ h => h) ⟨rfl, ?_⟩
    repeat (first
      | (refine' wpPlan_free (v := _) rfl (by rfl) ?_ ?_
         rotate_left
         · (intro w'; have g1 := G1.out; have g2 := G2.out; go_simp; try rfl)
         simp only [List.getElem_toArray, List.getElem_cons_zero, List.getElem_cons_succ, Act.put, List.setIfInBounds_toArray, List.set_cons_zero, List.set_cons_succ])
      | (refine' wpPlan_held (v := _) rfl (by rfl) ?_ ?_
         rotate_left
         · (intro w' hS; have g1 := G1.out; have g2 := G2.out; subst hS; go_simp; try rfl)
         simp only [List.getElem_toArray, List.getElem_cons_zero, List.getElem_cons_succ, Act.put, List.setIfInBounds_toArray, List.set_cons_zero, List.set_cons_succ])
      | (refine' wpPlan_skip rfl (by rfl) ?_
         simp only [List.getElem_toArray, List.getElem_cons_zero, List.getElem_cons_succ, Act.put, List.setIfInBounds_toArray, List.set_cons_zero, List.set_cons_succ])
      | (refine' wpPlan_skipHeld rfl (by rfl) ?_
         simp only [List.getElem_toArray, List.getElem_cons_zero, List.getElem_cons_succ, Act.put, List.setIfInBounds_toArray, List.set_cons_zero, List.set_cons_succ]))
    repeat (first
      | (refine' wpPlan_free (v := _) rfl (by rfl) ?_ ?_
         rotate_left
         · (intro w'; have g1 := G1.out; have g2 := G2.out; go_simp; try rfl)
         simp only [List.getElem_toArray, List.getElem_cons_zero, List.getElem_cons_succ, Act.put, List.setIfInBounds_toArray, List.set_cons_zero, List.set_cons_succ])
      | (refine' wpPlan_held (v := _) rfl (by rfl) ?_ ?_
         rotate_left
         · (intro w' hS; have g1 := G1.out; have g2 := G2.out; go_simp; try rfl)
         simp only [List.getElem_toArray, List.getElem_cons_zero, List.getElem_cons_succ, Act.put, List.setIfInBounds_toArray, List.set_cons_zero, List.set_cons_succ])
      | (refine' wpPlan_skip rfl (by rfl) ?_
         simp only [List.getElem_toArray, List.getElem_cons_zero, List.getElem_cons_succ, Act.put, List.setIfInBounds_toArray, List.set_cons_zero, List.set_cons_succ])
      | (refine' wpPlan_skipHeld rfl (by rfl) ?_
         simp only [List.getElem_toArray, List.getElem_cons_zero, List.getElem_cons_succ, Act.put, List.setIfInBounds_toArray, List.set_cons_zero, List.set_cons_succ]))
    refine wpPlan_end ?_
    simp only [wpSegs, List.drop_succ_cons, List.drop_zero]
    have fwd : Fr Non w w2.drew := fw2.drew
    have bCd : w2.drew.heap[C]? = some (.cells #[.int .i64 3, .int .u64 x.1, .int .u64 high, .slice ca bs.length cc] 39 (0, 0)) := bC2
    have bRd : w2.drew.heap[C + 1]? = some (.cells (#[.int .i64 0, .int .u64 0, .slice none 0 0, .slice none 0 0, .int .i64 0, .int .i64 0, .int .u64 0, .int .i64 0, .int .u64 0, .int .i64 0, .int .i64 0, .int .u64 0, .int .i64 0, .int .u64 0, .bool false] : Array Value) 52 (0, 0)) := bR2
    clear qC zC bC2 bR2 fw2 d0 d1
    generalize w2.drew = wd at fwd bCd bRd ⊢
    obtain ⟨qC, zC⟩ := box_facts bCd
    obtain ⟨qR, zR⟩ := box_facts bRd
    obtain ⟨g1, u1, ea, _, _, d0, d1, hu1, hul1, k0, k1⟩ := build_at (hB.fr fwd) P hlt
    cases ea
    rw [hx] at d0 hu1 hul1 k0 k1
    obtain ⟨va, vc, rfl, _⟩ := hu1.frm
    have HU1 := Lib.hid hu1
    have HDD := Lib.hid (And.intro d0 d1)
    have HKK := Lib.hid (And.intro k0 k1)
    clear hu1 d0 d1 k0 k1
    go_wp2_with fail
    clear qC zC qR zR
    refine wp_draw [((fun y => y.cell? ⟨g0, P * 2, none⟩ = some (.int .u64 x.1) ∧ y.cell? ⟨g0, P * 2 + 1, none⟩ = some (.slice va x.2.length vc)), [(.free, 0), (.free, 1), (.free, 2), (.free, 3), (.free, 4), (.held, 5), (.free, 6), (.free, 7), (.free, 8), (.free, 9), (.held, 10), (.kept, 11), (.free, 12), (.free, 13)])] 14 (by kernel_rfl) (by kernel_rfl) (fun _ _ _ _ _ h => h) ⟨HDD.out, ?_⟩
    have fwe := fwd.drew
    have HDe := Lib.hid (show wd.drew.cell? ⟨g0, P * 2, none⟩ = some (.int .u64 x.1) ∧ wd.drew.cell? ⟨g0, P * 2 + 1, none⟩ = some (.slice va x.2.length vc) from HDD.out)
    have HUe := Lib.hid (HU1.out.stay ((Fr.refl Non wd).drew))
    have bRe : wd.drew.heap[C + 1]? = some (.cells (#[.int .i64 0, .int .u64 0, .slice none 0 0, .slice none 0 0, .int .i64 0, .int .i64 0, .int .u64 0, .int .i64 0, .int .u64 0, .int .i64 0, .int .i64 0, .int .u64 0, .int .i64 0, .int .u64 0, .bool false] : Array Value) 52 (0, 0)) := bRd
    clear fwd bCd bRd HU1 HDD
    generalize wd.drew = we at fwe bRe HDe HUe ⊢
    repeat (first
      | (refine' wpPlan_free (v := _) rfl (by rfl) ?_ ?_
         rotate_left
         · (intro w'; go_simp; try rfl)
         simp only [List.getElem_toArray, List.getElem_cons_zero, List.getElem_cons_succ, Act.put, List.setIfInBounds_toArray, List.set_cons_zero, List.set_cons_succ])
      | (refine' wpPlan_held (v := _) rfl (by rfl) ?_ ?_
         rotate_left
         · (intro w' hS; obtain ⟨q0, q1⟩ := hS; go_simp; try rfl)
         simp only [List.getElem_toArray, List.getElem_cons_zero, List.getElem_cons_succ, Act.put, List.setIfInBounds_toArray, List.set_cons_zero, List.set_cons_succ])
      | (refine' wpPlan_skip rfl (by rfl) ?_
         simp only [List.getElem_toArray, List.getElem_cons_zero, List.getElem_cons_succ, Act.put, List.setIfInBounds_toArray, List.set_cons_zero, List.set_cons_succ])
      | (refine' wpPlan_skipHeld rfl (by rfl) ?_
         simp only [List.getElem_toArray, List.getElem_cons_zero, List.getElem_cons_succ, Act.put, List.setIfInBounds_toArray, List.set_cons_zero, List.set_cons_succ]))
    refine' wpPlan_kept rfl ?_
    intro K hK
    go_simp
    refine (clone_bytes HUe.out hul1).mono ?_
    rintro e w3 ⟨ba, bc, rfl, hq, f3⟩
    go_simp
    refine hK _ _ ⟨⟨f3.cell HDe.out.1 id, f3.cell HDe.out.2 id⟩, ?_⟩
    clear hK K
    repeat (first
      | (refine' wpPlan_free (v := _) rfl (by rfl) ?_ ?_
         rotate_left
         · (intro w'; go_simp; try rfl)
         simp only [List.getElem_toArray, List.getElem_cons_zero, List.getElem_cons_succ, Act.put, List.setIfInBounds_toArray, List.set_cons_zero, List.set_cons_succ])
      | (refine' wpPlan_held (v := _) rfl (by rfl) ?_ ?_
         rotate_left
         · (intro w' hS; obtain ⟨q0, q1⟩ := hS; go_simp; try rfl)
         simp only [List.getElem_toArray, List.getElem_cons_zero, List.getElem_cons_succ, Act.put, List.setIfInBounds_toArray, List.set_cons_zero, List.set_cons_succ])
      | (refine' wpPlan_skip rfl (by rfl) ?_
         simp only [List.getElem_toArray, List.getElem_cons_zero, List.getElem_cons_succ, Act.put, List.setIfInBounds_toArray, List.set_cons_zero, List.set_cons_succ])
      | (refine' wpPlan_skipHeld rfl (by rfl) ?_
         simp only [List.getElem_toArray, List.getElem_cons_zero, List.getElem_cons_succ, Act.put, List.setIfInBounds_toArray, List.set_cons_zero, List.set_cons_succ]))
    refine wpPlan_end ?_
    simp only [wpSegs, List.drop_succ_cons, List.drop_zero]
    have bR3 := f3.heap bRe id
    obtain ⟨qR, zR⟩ := box_facts bR3
    have fw3 := fwe.trans f3
    have HD := Lib.hid (show mDone l (3, x.1, high, bs) = (l, (0, x.1, x.2, [], r0, r0, true)) by
      have h1 : mDone l (3, x.1, high, bs) = (l, mAsked l (3, x.1, high, bs)) := by simp [mDone]
      rw [h1]
      unfold mAsked
      rw [if_neg (by simp)]
      have h2 : mBetween (3, x.1, high, bs).2.1 (mHigh (3, x.1, high, bs)) l = x :: (l.drop (P + 1)).takeWhile (fun y => decide (y.1 ≤ mHigh (3, x.1, high, bs))) := by
        rw [mBetween_place hok, show mPlace (3, x.1, high, bs).2.1 l = P from HP.out, drop_at hlt, hx, List.takeWhile_cons, decide_eq_true (show x.1 ≤ mHigh (3, x.1, high, bs) from Int.le_refl _)]
        rfl
      rw [h2])
    go_wp2_with fail
    refine bodyPost_ret (v := .tuple #[(.slice (some ⟨g0, 0, none⟩) l.length cap), .agg (resCells (0, x.1, x.2, [], r0, r0, true) (.slice ba x.2.length bc) (.slice none 0 0)).toArray]) (by simp [results, Try.results71, go_sem, set15_cell bR3, resCells, refCells, r0]) rfl ⟨(.slice (some ⟨g0, 0, none⟩) l.length cap), _, rfl, ?_, fun b hb => .inl hb, ?_, ?_⟩
    · rw [HD.out]
      exact hBS.keepAt fw3 (set15_fr _ (C + 1) _ _ _ _ _ _ _ _ _ _ _ _ _ _ _) (by have := HCC.out; omega)
    · rw [HD.out]
      have hz := lt_of_block bRe
      have hfr := set15_fr w3 (C + 1) (.int .i64 0) (.int .u64 x.1) (.slice ba x.2.length bc) (.slice none 0 0) (.int .i64 0) (.int .i64 0) (.int .u64 0) (.int .i64 0) (.int .u64 0) (.int .i64 0) (.int .i64 0) (.int .u64 0) (.int .i64 0) (.int .u64 0) (.bool true)
      exact ⟨_, _, rfl, (hq.frame hfr (fun b _ hb e => by omega)).mono (fun b _ hb => by have := fwe.size; omega), .inl ⟨rfl, rfl⟩, hul1, by simp, HKK.out⟩
    · exact fw3.trans2 (set15_fr _ (C + 1) _ _ _ _ _ _ _ _ _ _ _ _ _ _ _) (fun b hb e => by have := HCC.out; omega)
  · have HN := Lib.hid (show (mKey key l).isSome = false by rw [hths, decide_eq_false hne])
    clear hths
    go_enter Try.func71, Try.ntmps71
    go_wp2_with fail
    refine hpl.mono ?_
    clear hpl
    rintro e w2 ⟨rfl, f2⟩
    have bC2 := f2.heap bC id
    have bR2 := f2.heap bR id
    have fw2 : Fr Non w w2 := f0.trans f2
    obtain ⟨g0, u, ea, hcap, hcm, d0, d1, hu, hul, _, _⟩ := build_at (hB.fr fw2) P hlt
    cases ea
    unfold maxLen at hcm
    rw [hx] at d0 hu hul
    have p1 : (P : Int) < (l.length : Int) := by omega
    have p0 : (0 : Int) ≤ (P : Int) := by omega
    have G1 := Lib.hid (decide_eq_true p1)
    have G2 := Lib.hid (show (x.1 == key) = false by simpa using hne)
    obtain ⟨qC, zC⟩ := box_facts bC2
    go_wp2_with fail
    refine wp_draw [((fun x => x = w2.drew), [(.free, 0), (.free, 1), (.free, 2), (.free, 3), (.free, 4), (.free, 5), (.free, 6), (.free, 7), (.free, 8), (.held, 9), (.free, 10), (.held, 11), (.free, 12), (.free, 13), (.free, 14)])] 15 (by kernel_rfl) (by kernel_rfl) (fun _ _ _ _ _ h => h) ⟨rfl, ?_⟩
    repeat (first
      | (refine' wpPlan_free (v := _) rfl (by rfl) ?_ ?_
         rotate_left
         · (intro w'; have g1 := G1.out; have g2 := G2.out; go_simp; try rfl)
         simp only [List.getElem_toArray, List.getElem_cons_zero, List.getElem_cons_succ, Act.put, List.setIfInBounds_toArray, List.set_cons_zero, List.set_cons_succ])
      | (refine' wpPlan_held (v := _) rfl (by rfl) ?_ ?_
         rotate_left
         · (intro w' hS; have g1 := G1.out; have g2 := G2.out; subst hS; go_simp; try rfl)
         simp only [List.getElem_toArray, List.getElem_cons_zero, List.getElem_cons_succ, Act.put, List.setIfInBounds_toArray, List.set_cons_zero, List.set_cons_succ])
      | (refine' wpPlan_skip rfl (by rfl) ?_
         simp only [List.getElem_toArray, List.getElem_cons_zero, List.getElem_cons_succ, Act.put, List.setIfInBounds_toArray, List.set_cons_zero, List.set_cons_succ])
      | (refine' wpPlan_skipHeld rfl (by rfl) ?_
         simp only [List.getElem_toArray, List.getElem_cons_zero, List.getElem_cons_succ, Act.put, List.setIfInBounds_toArray, List.set_cons_zero, List.set_cons_succ]))
    repeat (first
      | (refine' wpPlan_free (v := _) rfl (by rfl) ?_ ?_
         rotate_left
         · (intro w'; have g1 := G1.out; have g2 := G2.out; go_simp; try rfl)
         simp only [List.getElem_toArray, List.getElem_cons_zero, List.getElem_cons_succ, Act.put, List.setIfInBounds_toArray, List.set_cons_zero, List.set_cons_succ])
      | (refine' wpPlan_held (v := _) rfl (by rfl) ?_ ?_
         rotate_left
         · (intro w' hS; have g1 := G1.out; have g2 := G2.out; go_simp; try rfl)
         simp only [List.getElem_toArray, List.getElem_cons_zero, List.getElem_cons_succ, Act.put, List.setIfInBounds_toArray, List.set_cons_zero, List.set_cons_succ])
      | (refine' wpPlan_skip rfl (by rfl) ?_
         simp only [List.getElem_toArray, List.getElem_cons_zero, List.getElem_cons_succ, Act.put, List.setIfInBounds_toArray, List.set_cons_zero, List.set_cons_succ])
      | (refine' wpPlan_skipHeld rfl (by rfl) ?_
         simp only [List.getElem_toArray, List.getElem_cons_zero, List.getElem_cons_succ, Act.put, List.setIfInBounds_toArray, List.set_cons_zero, List.set_cons_succ]))
    refine wpPlan_end ?_
    simp only [wpSegs, List.drop_succ_cons, List.drop_zero]
    have fwd : Fr Non w w2.drew := fw2.drew
    have bCd : w2.drew.heap[C]? = some (.cells #[.int .i64 3, .int .u64 key, .int .u64 high, .slice ca bs.length cc] 39 (0, 0)) := bC2
    have bRd : w2.drew.heap[C + 1]? = some (.cells (#[.int .i64 0, .int .u64 0, .slice none 0 0, .slice none 0 0, .int .i64 0, .int .i64 0, .int .u64 0, .int .i64 0, .int .u64 0, .int .i64 0, .int .i64 0, .int .u64 0, .int .i64 0, .int .u64 0, .bool false] : Array Value) 52 (0, 0)) := bR2
    clear qC zC bC2 bR2 fw2 d0 d1
    generalize w2.drew = wd at fwd bCd bRd ⊢
    obtain ⟨qC, zC⟩ := box_facts bCd
    obtain ⟨qR, zR⟩ := box_facts bRd
    go_wp2_with fail
    refine bodyPost_ret (v := .tuple #[(.slice (some ⟨g0, 0, none⟩) l.length cap), .agg (resCells (mErr 101) (.slice none 0 0) (.slice none 0 0)).toArray]) (by simp [results, Try.results71, go_sem, set15_cell bRd, resCells, refCells, mErr, r0]) rfl ⟨(.slice (some ⟨g0, 0, none⟩) l.length cap), _, rfl, ?_, fun b hb => .inl hb, ?_, ?_⟩
    · rw [show mDone l (3, key, high, bs) = (l, mErr 101) by
        have h1 : mDone l (3, key, high, bs) = (l, mAsked l (3, key, high, bs)) := by simp [mDone]
        rw [h1]
        unfold mAsked
        rw [if_neg (by simp), mBetween_place hok, show mPlace (3, key, high, bs).2.1 l = P from HP.out, drop_at hlt, hx, List.takeWhile_cons, decide_eq_false (show ¬ x.1 ≤ mHigh (3, key, high, bs) from fun e => by
          have h1 := HPl.out.2 x (by rw [drop_at hlt, hx]; exact List.mem_cons_self ..)
          have h2 : x.1 ≤ key := e
          omega)]
        rfl]
      exact hBS.keepAt fwd (set15_fr _ (C + 1) _ _ _ _ _ _ _ _ _ _ _ _ _ _ _) (by have := HCC.out; omega)
    · rw [show mDone l (3, key, high, bs) = (l, mErr 101) by
        have h1 : mDone l (3, key, high, bs) = (l, mAsked l (3, key, high, bs)) := by simp [mDone]
        rw [h1]
        unfold mAsked
        rw [if_neg (by simp), mBetween_place hok, show mPlace (3, key, high, bs).2.1 l = P from HP.out, drop_at hlt, hx, List.takeWhile_cons, decide_eq_false (show ¬ x.1 ≤ mHigh (3, key, high, bs) from fun e => by
          have h1 := HPl.out.2 x (by rw [drop_at hlt, hx]; exact List.mem_cons_self ..)
          have h2 : x.1 ≤ key := e
          omega)]
        rfl]
      exact ResS.err 101
    · exact fwd.trans2 (set15_fr _ (C + 1) _ _ _ _ _ _ _ _ _ _ _ _ _ _ _) (fun b hb e => by have := HCC.out; omega)
end Go.Proofs.Ytplhcfaonhkegaa
