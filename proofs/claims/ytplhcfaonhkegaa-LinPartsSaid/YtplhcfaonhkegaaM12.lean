/-
  Model: done, call by call.
-/
import Derived.Test.YtplhcfaonhkegaaM11
namespace Go.Proofs.Ytplhcfaonhkegaa
open Go.RowKit Go.Maps

theorem build_at {w : World} {a : Option Addr} {c : Nat} {l : List MItem} (h : Build kItem 60 w (.slice a l.length c) l) (i : Nat) (hi : i < l.length) :
    ∃ g u, a = some ⟨g, 0, none⟩ ∧ l.length ≤ c ∧ c ≤ maxLen ∧ w.cell? ⟨g, i * 2, none⟩ = some (.int .u64 l[i].1) ∧ w.cell? ⟨g, i * 2 + 1, none⟩ = some u ∧ Sl kByte All w u l[i].2 ∧ l[i].2.length ≤ reachBytes ∧
      0 ≤ l[i].1 ∧ l[i].1 ≤ 18446744073709551615 := by
  obtain ⟨b, o, u, ea, h1, h2, c0, c1, h3⟩ := item_at h.sl i hi
  obtain ⟨cs, g, _⟩ := h
  rcases g.2 with ⟨he, h0⟩ | ⟨G, cap, cur, he, _⟩
  · omega
  · rw [ea] at he
    cases he
    refine ⟨_, u, ea, h1, h2, ?_, ?_, h3⟩
    · simpa using c0
    · simpa using c1
/-- A built slice stands where only new blocks turn. -/
theorem BuildS.keepAt {S T : Nat → Prop} {w w1 w2 : World} {v : Value} {l : List MItem} (h : BuildS S kItem 60 w v l) (f : Fr Non w w1) (f2 : Fr T w1 w2) (hT : ∀ b, T b → w.heap.size ≤ b) : BuildS (fun b => S b ∨ w.heap.size ≤ b) kItem 60 w2 v l := by
  have f3 : Fr Non w w2 := f.trans2 f2 (fun b hb ht => by have := hT b ht; omega)
  exact (h.fr f3).mono fun b _ hb => .inl hb
theorem BuildS.old {S : Nat → Prop} {w : World} {v : Value} {l : List MItem} (h : BuildS S kItem 60 w v l) : BuildS (fun b => S b ∧ b < w.heap.size) kItem 60 w v l := h.mono fun _ hb h => ⟨h, hb⟩
/-- A shorter one. -/
theorem BuildS.cut {S : Nat → Prop} {w : World} {g n cap : Nat} {l : List MItem} (h : BuildS S kItem 60 w (.slice (some ⟨g, 0, none⟩) n cap) l) (hn : n = l.length) (m c : Nat) (hm : m ≤ l.length) (hc : m ≤ c) (hcc : c ≤ cap) : BuildS S kItem 60 w (.slice (some ⟨g, 0, none⟩) m c) (l.take m) := by
  subst hn
  obtain ⟨cs, g, hr⟩ := h
  have hl : (l.take m).length = m := by rw [List.length_take]; omega
  have hsz : kItem.sz = 2 := rfl
  rcases id g.2 with ⟨he, _⟩ | ⟨G, cap', cur, he, h0, h1, h2, h3, h4⟩
  · cases he
  · cases he
    have hg := g.1
    rw [hsz] at h3 h4 hg
    refine ⟨cs.take (m * 2), ⟨by rw [hl, List.length_take, hsz]; omega, .inr ⟨_, c, cur, by rw [hl], h0, by omega, by omega, by rw [hsz]; omega, ?_⟩⟩, ?_⟩
    · rw [hl, hsz, ← h4, List.take_take, Nat.min_eq_left (by omega)]
    · exact hr.take m
theorem BuildS.clip {S : Nat → Prop} {w : World} {a : Option Addr} {cap : Nat} {l : List MItem} (h : BuildS S kItem 60 w (.slice a l.length cap) l) : BuildS S kItem 60 w (.slice a l.length l.length) l := by
  cases a with
  | none =>
    obtain ⟨cs, g, hr⟩ := h
    rcases id g.2 with ⟨he, h0⟩ | ⟨G, cap', cur, he, _⟩
    · rw [h0]
      have : l = [] := List.eq_nil_of_length_eq_zero h0
      subst this
      exact ⟨[], GRow.nil _ _ _, rfl⟩
    · cases he
  | some ad =>
    obtain ⟨G, rfl⟩ : ∃ G, ad = ⟨G, 0, none⟩ := by
      obtain ⟨cs, g, _⟩ := h
      rcases g.2 with ⟨he, _⟩ | ⟨G, cap, cur, he, _⟩
      · cases he
      · cases he; exact ⟨G, rfl⟩
    have hcap : l.length ≤ cap := by
      obtain ⟨cs, g, _⟩ := h
      rcases g.2 with ⟨he, _⟩ | ⟨G, cap, cur, he, _, h1, _⟩
      · cases he
      · cases he; exact h1
    have := h.cut rfl l.length l.length (Nat.le_refl _) (Nat.le_refl _) hcap
    rwa [List.take_length] at this

set_option maxRecDepth 100000 in
set_option maxHeartbeats 1500000 in
theorem done1 {S : Nat → Prop} {w : World} {a : Option Addr} {cap : Nat} {l : List MItem} (hBS : BuildS S kItem 60 w (.slice a l.length cap) l) (hok : mOk none l = true) (hl : l.length ≤ 90000) (key high : Int) {ca : Option Addr} {cc : Nat} {bs : List UInt8}
    (hv : Sl kByte All w (.slice ca bs.length cc) bs) (hc : mCallOk (1, key, high, bs) = true) (hk : 0 ≤ key ∧ key ≤ 18446744073709551615) :
    Calls Try.prog 71 #[.slice a l.length cap, .agg #[.int .i64 1, .int .u64 key, .int .u64 high, .slice ca bs.length cc]] w fun e w' =>
      ∃ v' x, e = .returned (.tuple #[v', x]) ∧ BuildS (fun b => S b ∨ w.heap.size ≤ b) kItem 60 w' v' (mDone l (1, key, high, bs)).1 ∧ (∀ b, v'.ownBlock = some b → (Value.slice a l.length cap).ownBlock = some b ∨ w.heap.size ≤ b) ∧ ResS (fun b => w.heap.size ≤ b) w' x (mDone l (1, key, high, bs)).2 ∧ Fr Non w w' := by
  have hB := hBS.build
  have f0 : Fr Non w ((w.alloc (.cells #[.int .i64 1, .int .u64 key, .int .u64 high, .slice ca bs.length cc] 39)).alloc (.cells #[.int .i64 0, .int .u64 0, .slice none 0 0, .slice none 0 0, .int .i64 0, .int .i64 0, .int .u64 0, .int .i64 0, .int .u64 0, .int .i64 0, .int .i64 0, .int .u64 0, .int .i64 0, .int .u64 0, .bool false] 52)) := ((Fr.refl _ _).alloc _).alloc _
  have bC := alloc_at2 w (.cells #[.int .i64 1, .int .u64 key, .int .u64 high, .slice ca bs.length cc] 39) (.cells #[.int .i64 0, .int .u64 0, .slice none 0 0, .slice none 0 0, .int .i64 0, .int .i64 0, .int .u64 0, .int .i64 0, .int .u64 0, .int .i64 0, .int .i64 0, .int .u64 0, .int .i64 0, .int .u64 0, .bool false] 52)
  have bR := alloc_at2' w (.cells #[.int .i64 1, .int .u64 key, .int .u64 high, .slice ca bs.length cc] 39) (.cells #[.int .i64 0, .int .u64 0, .slice none 0 0, .slice none 0 0, .int .i64 0, .int .i64 0, .int .u64 0, .int .i64 0, .int .u64 0, .int .i64 0, .int .i64 0, .int .u64 0, .int .i64 0, .int .u64 0, .bool false] 52)
  have hpl := place_any (hB.sl.stay f0) hok (by omega) key
  have hPle := mPlace_le key l
  have hth := mKey_there (k := key) hok
  have hplace := mPlace_cut key hok
  obtain ⟨P, hP⟩ : ∃ P, mPlace key l = P := ⟨_, rfl⟩
  unfold mThere at hth
  rw [hP] at hpl hPle hth hplace
  have HP := Lib.hid hP
  have HTh := Lib.hid hth
  have HPl := Lib.hid hplace
  obtain ⟨C, hC⟩ : ∃ C, w.heap.size = C := ⟨_, rfl⟩
  have HCC := Lib.hid hC
  have hBlt := hB.lt
  have HV := Lib.hid hv
  clear hP hth hplace hv
  rw [hC] at bC bR
  by_cases hlt : P < l.length
  rotate_left
  · obtain rfl : P = l.length := by omega
    have hnone : (mKey key l).isSome = false := by have := HTh.out; rw [List.getElem?_eq_none (by omega)] at this; exact this
    have HN := Lib.hid hnone
    clear hnone
    go_enter Try.func71, Try.ntmps71
    go_wp2_with fail
    refine hpl.mono ?_
    clear hpl
    rintro e w2 ⟨rfl, f2⟩
    have bC2 := f2.heap bC id
    have bR2 := f2.heap bR id
    have fw2 : Fr Non w w2 := f0.trans f2
    obtain ⟨hcap, hcm⟩ : l.length ≤ cap ∧ cap ≤ 2 ^ 63 - 1 := by
      obtain ⟨_, _, e, h1, h2, _⟩ := hB.sl.frm
      unfold maxLen at h2
      cases e
      exact ⟨h1, h2⟩
    have hcap2 : (l.length : Int) ≤ (cap : Int) := by omega
    have p1 : ¬ (l.length : Int) < (l.length : Int) := by omega
    have G1 := Lib.hid (decide_eq_false p1)
    obtain ⟨qC, zC⟩ := box_facts bC2
    go_wp2_with fail
    refine wp_draw [((fun x => x = w2.drew), [(.free, 0), (.free, 1), (.free, 2), (.free, 3), (.free, 4), (.free, 5), (.free, 6), (.free, 7), (.free, 8), (.held, 9), (.free, 10), (.held, 11), (.free, 12), (.free, 13), (.free, 14)])] 15 (by kernel_rfl) (by kernel_rfl) (fun _ _ _ _ _ h => h) ⟨rfl, ?_⟩
    repeat (first
      | (refine' wpPlan_free (v := _) rfl (by rfl) ?_ ?_
         rotate_left
         · (intro w'; have g1 := G1.out; go_simp; try rfl)
         simp only [List.getElem_toArray, List.getElem_cons_zero, List.getElem_cons_succ, Act.put, List.setIfInBounds_toArray, List.set_cons_zero, List.set_cons_succ])
      | (refine' wpPlan_held (v := _) rfl (by rfl) ?_ ?_
         rotate_left
         · (intro w' hS; have g1 := G1.out; subst hS; go_simp; try rfl)
         simp only [List.getElem_toArray, List.getElem_cons_zero, List.getElem_cons_succ, Act.put, List.setIfInBounds_toArray, List.set_cons_zero, List.set_cons_succ])
      | (refine' wpPlan_skip rfl (by rfl) ?_
         simp only [List.getElem_toArray, List.getElem_cons_zero, List.getElem_cons_succ, Act.put, List.setIfInBounds_toArray, List.set_cons_zero, List.set_cons_succ])
      | (refine' wpPlan_skipHeld rfl (by rfl) ?_
         simp only [List.getElem_toArray, List.getElem_cons_zero, List.getElem_cons_succ, Act.put, List.setIfInBounds_toArray, List.set_cons_zero, List.set_cons_succ]))
    repeat (first
      | (refine' wpPlan_free (v := _) rfl (by rfl) ?_ ?_
         rotate_left
         · (intro w'; have g1 := G1.out; go_simp; try rfl)
         simp only [List.getElem_toArray, List.getElem_cons_zero, List.getElem_cons_succ, Act.put, List.setIfInBounds_toArray, List.set_cons_zero, List.set_cons_succ])
      | (refine' wpPlan_held (v := _) rfl (by rfl) ?_ ?_
         rotate_left
         · (intro w' hS; have g1 := G1.out; go_simp; try rfl)
         simp only [List.getElem_toArray, List.getElem_cons_zero, List.getElem_cons_succ, Act.put, List.setIfInBounds_toArray, List.set_cons_zero, List.set_cons_succ])
      | (refine' wpPlan_skip rfl (by rfl) ?_
         simp only [List.getElem_toArray, List.getElem_cons_zero, List.getElem_cons_succ, Act.put, List.setIfInBounds_toArray, List.set_cons_zero, List.set_cons_succ])
      | (refine' wpPlan_skipHeld rfl (by rfl) ?_
         simp only [List.getElem_toArray, List.getElem_cons_zero, List.getElem_cons_succ, Act.put, List.setIfInBounds_toArray, List.set_cons_zero, List.set_cons_succ]))
    refine wpPlan_end ?_
    simp only [wpSegs, List.drop_succ_cons, List.drop_zero]
    have fwd : Fr Non w w2.drew := fw2.drew
    have bCd : w2.drew.heap[C]? = some (.cells #[.int .i64 1, .int .u64 key, .int .u64 high, .slice ca bs.length cc] 39 (0, 0)) := bC2
    have bRd : w2.drew.heap[C + 1]? = some (.cells (#[.int .i64 0, .int .u64 0, .slice none 0 0, .slice none 0 0, .int .i64 0, .int .i64 0, .int .u64 0, .int .i64 0, .int .u64 0, .int .i64 0, .int .i64 0, .int .u64 0, .int .i64 0, .int .u64 0, .bool false] : Array Value) 52 (0, 0)) := bR2
    clear qC zC bC2 bR2 fw2 
    generalize w2.drew = wd at fwd bCd bRd ⊢
    obtain ⟨qC, zC⟩ := box_facts bCd
    obtain ⟨qR, zR⟩ := box_facts bRd
    go_wp2_with fail
    have hbl : bs.length ≤ reachBytes := by
      have h1 : bs.length ≤ 1024 := by
        simp [mCallOk] at hc
        exact hc.1
      exact Nat.le_trans h1 (by decide)
    have HBL := Lib.hid hbl
    clear hbl
    clear qC zC qR zR
    refine wp_draw [((fun y => y.heap[C]? = some (.cells #[.int .i64 1, .int .u64 key, .int .u64 high, .slice ca bs.length cc] 39 (0, 0))), [(.free, 0), (.free, 1), (.free, 2), (.free, 3), (.free, 4), (.free, 5), (.free, 6), (.free, 7), (.held, 8), (.free, 9), (.held, 10), (.free, 15), (.kept, 11), (.free, 12), (.kept, 13), (.kept, 14), (.free, 16)])] 17 (by kernel_rfl) (by kernel_rfl) (fun _ _ _ _ _ h => h) ⟨bCd, ?_⟩
    have fwe := fwd.drew
    have bCe : wd.drew.heap[C]? = some (.cells #[.int .i64 1, .int .u64 key, .int .u64 high, .slice ca bs.length cc] 39 (0, 0)) := bCd
    have bRe : wd.drew.heap[C + 1]? = some (.cells (#[.int .i64 0, .int .u64 0, .slice none 0 0, .slice none 0 0, .int .i64 0, .int .i64 0, .int .u64 0, .int .i64 0, .int .u64 0, .int .i64 0, .int .i64 0, .int .u64 0, .int .i64 0, .int .u64 0, .bool false] : Array Value) 52 (0, 0)) := bRd
    clear fwd bCd bRd
    generalize wd.drew = we at fwe bCe bRe ⊢
    repeat (first
      | (refine' wpPlan_free (v := _) rfl (by rfl) ?_ ?_
         rotate_left
         · (intro w'; go_simp; try rfl)
         simp only [List.getElem_toArray, List.getElem_cons_zero, List.getElem_cons_succ, Act.put, List.setIfInBounds_toArray, List.set_cons_zero, List.set_cons_succ])
      | (refine' wpPlan_held (v := _) rfl (by rfl) ?_ ?_
         rotate_left
         · (intro w' hS; obtain ⟨q1, _⟩ := box_facts hS; clear hS; go_simp; try rfl)
         simp only [List.getElem_toArray, List.getElem_cons_zero, List.getElem_cons_succ, Act.put, List.setIfInBounds_toArray, List.set_cons_zero, List.set_cons_succ])
      | (refine' wpPlan_skip rfl (by rfl) ?_
         simp only [List.getElem_toArray, List.getElem_cons_zero, List.getElem_cons_succ, Act.put, List.setIfInBounds_toArray, List.set_cons_zero, List.set_cons_succ])
      | (refine' wpPlan_skipHeld rfl (by rfl) ?_
         simp only [List.getElem_toArray, List.getElem_cons_zero, List.getElem_cons_succ, Act.put, List.setIfInBounds_toArray, List.set_cons_zero, List.set_cons_succ]))
    refine' wpPlan_kept rfl ?_
    intro K hK
    go_simp
    refine (clone_bytes (HV.out.stay fwe) HBL.out).mono ?_
    rintro e w3 ⟨ba, bc, rfl, hq, f3⟩
    go_simp
    have bC3 := f3.heap bCe id
    refine hK _ _ ⟨bC3, ?_⟩
    clear hK K
    repeat (first
      | (refine' wpPlan_free (v := _) rfl (by rfl) ?_ ?_
         rotate_left
         · (intro w'; go_simp; try rfl)
         simp only [List.getElem_toArray, List.getElem_cons_zero, List.getElem_cons_succ, Act.put, List.setIfInBounds_toArray, List.set_cons_zero, List.set_cons_succ])
      | (refine' wpPlan_held (v := _) rfl (by rfl) ?_ ?_
         rotate_left
         · (intro w' hS; obtain ⟨q1, _⟩ := box_facts hS; clear hS; go_simp; try rfl)
         simp only [List.getElem_toArray, List.getElem_cons_zero, List.getElem_cons_succ, Act.put, List.setIfInBounds_toArray, List.set_cons_zero, List.set_cons_succ])
      | (refine' wpPlan_skip rfl (by rfl) ?_
         simp only [List.getElem_toArray, List.getElem_cons_zero, List.getElem_cons_succ, Act.put, List.setIfInBounds_toArray, List.set_cons_zero, List.set_cons_succ])
      | (refine' wpPlan_skipHeld rfl (by rfl) ?_
         simp only [List.getElem_toArray, List.getElem_cons_zero, List.getElem_cons_succ, Act.put, List.setIfInBounds_toArray, List.set_cons_zero, List.set_cons_succ]))
    refine' wpPlan_kept rfl ?_
    intro K hK
    go_simp
    have f4 : Fr Non w3 (w3.alloc (.cells #[.int .u64 key, .slice ba bs.length bc] 60)) := (Fr.refl _ _).alloc _
    refine hK _ _ ⟨f4.heap bC3 id, ?_⟩
    clear hK K
    repeat (first
      | (refine' wpPlan_free (v := _) rfl (by rfl) ?_ ?_
         rotate_left
         · (intro w'; go_simp; try rfl)
         simp only [List.getElem_toArray, List.getElem_cons_zero, List.getElem_cons_succ, Act.put, List.setIfInBounds_toArray, List.set_cons_zero, List.set_cons_succ])
      | (refine' wpPlan_held (v := _) rfl (by rfl) ?_ ?_
         rotate_left
         · (intro w' hS; obtain ⟨q1, _⟩ := box_facts hS; clear hS; go_simp; try rfl)
         simp only [List.getElem_toArray, List.getElem_cons_zero, List.getElem_cons_succ, Act.put, List.setIfInBounds_toArray, List.set_cons_zero, List.set_cons_succ])
      | (refine' wpPlan_skip rfl (by rfl) ?_
         simp only [List.getElem_toArray, List.getElem_cons_zero, List.getElem_cons_succ, Act.put, List.setIfInBounds_toArray, List.set_cons_zero, List.set_cons_succ])
      | (refine' wpPlan_skipHeld rfl (by rfl) ?_
         simp only [List.getElem_toArray, List.getElem_cons_zero, List.getElem_cons_succ, Act.put, List.setIfInBounds_toArray, List.set_cons_zero, List.set_cons_succ]))
    refine' wpPlan_kept rfl ?_
    intro K hK
    go_simp
    have fw4 := (fwe.trans f3).trans f4
    have hz4 : C + 2 ≤ we.heap.size := lt_of_block bRe
    refine (sinsert_any (S := fun b => (S b ∨ w.heap.size ≤ b) ∧ b ≠ C + 1) ((hBS.clip.old.fr fw4).mono fun b _ hb => ⟨.inl hb.1, by have := HCC.out; have := hb.2; omega⟩) (by omega) l.length hPle (q := w3.heap.size) (x := (key, bs)) (alloc_at w3 _) ((hq.stay f4).mono fun b _ hb => ⟨.inr (by have := fwe.size; omega), by omega⟩) HBL.out hk).mono ?_
    rintro e w5 ⟨a5, c5, rfl, hB5, f5, hn5⟩
    go_simp
    refine hK _ _ ⟨(f4.trans f5).heap bC3 id, ?_⟩
    clear hK K
    repeat (first
      | (refine' wpPlan_free (v := _) rfl (by rfl) ?_ ?_
         rotate_left
         · (intro w'; go_simp; try rfl)
         simp only [List.getElem_toArray, List.getElem_cons_zero, List.getElem_cons_succ, Act.put, List.setIfInBounds_toArray, List.set_cons_zero, List.set_cons_succ])
      | (refine' wpPlan_held (v := _) rfl (by rfl) ?_ ?_
         rotate_left
         · (intro w' hS; obtain ⟨q1, _⟩ := box_facts hS; clear hS; go_simp; try rfl)
         simp only [List.getElem_toArray, List.getElem_cons_zero, List.getElem_cons_succ, Act.put, List.setIfInBounds_toArray, List.set_cons_zero, List.set_cons_succ])
      | (refine' wpPlan_skip rfl (by rfl) ?_
         simp only [List.getElem_toArray, List.getElem_cons_zero, List.getElem_cons_succ, Act.put, List.setIfInBounds_toArray, List.set_cons_zero, List.set_cons_succ])
      | (refine' wpPlan_skipHeld rfl (by rfl) ?_
         simp only [List.getElem_toArray, List.getElem_cons_zero, List.getElem_cons_succ, Act.put, List.setIfInBounds_toArray, List.set_cons_zero, List.set_cons_succ]))
    refine wpPlan_end ?_
    simp only [wpSegs, List.drop_succ_cons, List.drop_zero]
    have fw5 := fw4.trans f5
    have bR5 := (f3.trans (f4.trans f5)).heap bRe id
    obtain ⟨qR, zR⟩ := box_facts bR5
    have HD := Lib.hid (show mDone l (1, key, high, bs) = (l.take l.length ++ (key, bs) :: l.drop l.length, mErr 0) by
      have h1 : mDone l (1, key, high, bs) = (mIns (key, bs) false l, mErr 0) := by simp [mDone, HN.out]
      rw [h1, mIns_place (x := (key, bs)) hok (by rw [← mKey_there hok]; exact HN.out)]
      rw [show mPlace (key, bs).1 l = l.length from HP.out])
    go_wp2_with fail
    refine bodyPost_ret (v := .tuple #[(.slice a5 (l.length + 1) c5), .agg (resCells (mErr 0) (.slice none 0 0) (.slice none 0 0)).toArray]) (by simp [results, Try.results71, go_sem, set15_cell bR5, resCells, refCells, mErr, r0]) rfl ⟨(.slice a5 (l.length + 1) c5), _, rfl, ?_, fun b hb => .inr (by have h9 := hn5 b hb; have := fw4.size; omega), ?_, ?_⟩
    · rw [HD.out]
      have h3 := f3.size
      exact (hB5.apart (set15_fr _ (C + 1) _ _ _ _ _ _ _ _ _ _ _ _ _ _ _) (fun b hb e => by have := hn5 b hb; simp only [World.size_alloc] at this; omega) (fun b hb e => hb.2 e)).mono fun b _ hb => hb.1
    · rw [HD.out]
      exact ResS.err 0
    · exact fw5.trans2 (set15_fr _ (C + 1) _ _ _ _ _ _ _ _ _ _ _ _ _ _ _) (fun b hb e => by have := HCC.out; omega)
  obtain ⟨x, hx⟩ : ∃ x, l[P] = x := ⟨_, rfl⟩
  have hths : (mKey key l).isSome = decide (x.1 = key) := by have := HTh.out; rw [List.getElem?_eq_getElem hlt, hx] at this; exact this
  by_cases hne : x.1 = key
  · have HN := Lib.hid (show (mKey key l).isSome = true by rw [hths, decide_eq_true hne])
    clear hths
    subst hne
    go_enter Try.func71, Try.ntmps71
    go_wp2_with fail
    refine hpl.mono ?_
    clear hpl
    rintro e w2 ⟨rfl, f2⟩
    have bC2 := f2.heap bC id
    have bR2 := f2.heap bR id
    have fw2 : Fr Non w w2 := f0.trans f2
    obtain ⟨g0, u, ea, hcap, hcm, d0, d1, hu, hul, _, _⟩ := build_at (hB.fr fw2) P hlt
    cases ea
    unfold maxLen at hcm
    rw [hx] at d0 hu hul
    have p1 : (P : Int) < (l.length : Int) := by omega
    have p0 : (0 : Int) ≤ (P : Int) := by omega
    have G1 := Lib.hid (decide_eq_true p1)
    have G2 := Lib.hid (show (x.1 == x.1) = true by simp)
    obtain ⟨qC, zC⟩ := box_facts bC2
    go_wp2_with fail
    refine wp_draw [((fun x => x = w2.drew), [(.free, 0), (.free, 1), (.free, 2), (.free, 3), (.free, 4), (.free, 5), (.free, 6), (.free, 7), (.free, 8), (.held, 9), (.free, 10), (.held, 11), (.free, 12), (.free, 13), (.free, 14)])] 15 (by kernel_rfl) (by kernel_rfl) (fun _ _ _ _ _ h => h) ⟨rfl, ?_⟩
    repeat (first
      | (refine' wpPlan_free (v := _) rfl (by rfl) ?_ ?_
         rotate_left
         · (intro w'; have g1 := G1.out; have g2 := G2.out; go_simp; try rfl)
         simp only [List.getElem_toArray, List.getElem_cons_zero, List.getElem_cons_succ, Act.put, List.setIfInBounds_toArray, List.set_cons_zero, List.set_cons_succ])
      | (refine' wpPlan_held (v := _) rfl (by rfl) ?_ ?_
         rotate_left
         · (intro w' hS; have g1 := G1.out; have g2 := G2.out; subst hS; go_simp; try rfl)
         simp only [List.getElem_toArray, List.getElem_cons_zero, List.getElem_cons_succ, Act.put, List.setIfInBounds_toArray, List.set_cons_zero, List.set_cons_succ])
      | (refine' wpPlan_skip rfl (by rfl) ?_
         simp only [List.getElem_toArray, List.getElem_cons_zero, List.getElem_cons_succ, Act.put, List.setIfInBounds_toArray, List.set_cons_zero, List.set_cons_succ])
      | (refine' wpPlan_skipHeld rfl (by rfl) ?_
         simp only [List.getElem_toArray, List.getElem_cons_zero, List.getElem_cons_succ, Act.put, List.setIfInBounds_toArray, List.set_cons_zero, List.set_cons_succ]))
    repeat (first
      | (refine' wpPlan_free (v := _) rfl (by rfl) ?_ ?_
         rotate_left
         · (intro w'; have g1 := G1.out; have g2 := G2.out; go_simp; try rfl)
         simp only [List.getElem_toArray, List.getElem_cons_zero, List.getElem_cons_succ, Act.put, List.setIfInBounds_toArray, List.set_cons_zero, List.set_cons_succ])
      | (refine' wpPlan_held (v := _) rfl (by rfl) ?_ ?_
         rotate_left
         · (intro w' hS; have g1 := G1.out; have g2 := G2.out; go_simp; try rfl)
         simp only [List.getElem_toArray, List.getElem_cons_zero, List.getElem_cons_succ, Act.put, List.setIfInBounds_toArray, List.set_cons_zero, List.set_cons_succ])
      | (refine' wpPlan_skip rfl (by rfl) ?_
         simp only [List.getElem_toArray, List.getElem_cons_zero, List.getElem_cons_succ, Act.put, List.setIfInBounds_toArray, List.set_cons_zero, List.set_cons_succ])
      | (refine' wpPlan_skipHeld rfl (by rfl) ?_
         simp only [List.getElem_toArray, List.getElem_cons_zero, List.getElem_cons_succ, Act.put, List.setIfInBounds_toArray, List.set_cons_zero, List.set_cons_succ]))
    refine wpPlan_end ?_
    simp only [wpSegs, List.drop_succ_cons, List.drop_zero]
    have fwd : Fr Non w w2.drew := fw2.drew
    have bCd : w2.drew.heap[C]? = some (.cells #[.int .i64 1, .int .u64 x.1, .int .u64 high, .slice ca bs.length cc] 39 (0, 0)) := bC2
    have bRd : w2.drew.heap[C + 1]? = some (.cells (#[.int .i64 0, .int .u64 0, .slice none 0 0, .slice none 0 0, .int .i64 0, .int .i64 0, .int .u64 0, .int .i64 0, .int .u64 0, .int .i64 0, .int .i64 0, .int .u64 0, .int .i64 0, .int .u64 0, .bool false] : Array Value) 52 (0, 0)) := bR2
    clear qC zC bC2 bR2 fw2 d0 d1
    generalize w2.drew = wd at fwd bCd bRd ⊢
    obtain ⟨qC, zC⟩ := box_facts bCd
    obtain ⟨qR, zR⟩ := box_facts bRd
    go_wp2_with fail
    refine bodyPost_ret (v := .tuple #[(.slice (some ⟨g0, 0, none⟩) l.length cap), .agg (resCells (mErr 100) (.slice none 0 0) (.slice none 0 0)).toArray]) (by simp [results, Try.results71, go_sem, set15_cell bRd, resCells, refCells, mErr, r0]) rfl ⟨(.slice (some ⟨g0, 0, none⟩) l.length cap), _, rfl, ?_, fun b hb => .inl hb, ?_, ?_⟩
    · rw [show mDone l (1, x.1, high, bs) = (l, mErr 100) by simp [mDone, HN.out]]
      exact hBS.keepAt fwd (set15_fr _ (C + 1) _ _ _ _ _ _ _ _ _ _ _ _ _ _ _) (by have := HCC.out; omega)
    · rw [show mDone l (1, x.1, high, bs) = (l, mErr 100) by simp [mDone, HN.out]]
      exact ResS.err 100
    · exact fwd.trans2 (set15_fr _ (C + 1) _ _ _ _ _ _ _ _ _ _ _ _ _ _ _) (fun b hb e => by have := HCC.out; omega)
  · have HN := Lib.hid (show (mKey key l).isSome = false by rw [hths, decide_eq_false hne])
    clear hths
    go_enter Try.func71, Try.ntmps71
    go_wp2_with fail
    refine hpl.mono ?_
    clear hpl
    rintro e w2 ⟨rfl, f2⟩
    have bC2 := f2.heap bC id
    have bR2 := f2.heap bR id
    have fw2 : Fr Non w w2 := f0.trans f2
    obtain ⟨g0, u, ea, hcap, hcm, d0, d1, hu, hul, _, _⟩ := build_at (hB.fr fw2) P hlt
    cases ea
    unfold maxLen at hcm
    rw [hx] at d0 hu hul
    have p1 : (P : Int) < (l.length : Int) := by omega
    have p0 : (0 : Int) ≤ (P : Int) := by omega
    have G1 := Lib.hid (decide_eq_true p1)
    have G2 := Lib.hid (show (x.1 == key) = false by simpa using hne)
    obtain ⟨qC, zC⟩ := box_facts bC2
    go_wp2_with fail
    refine wp_draw [((fun x => x = w2.drew), [(.free, 0), (.free, 1), (.free, 2), (.free, 3), (.free, 4), (.free, 5), (.free, 6), (.free, 7), (.free, 8), (.held, 9), (.free, 10), (.held, 11), (.free, 12), (.free, 13), (.free, 14)])] 15 (by kernel_rfl) (by kernel_rfl) (fun _ _ _ _ _ h => h) ⟨rfl, ?_⟩
    repeat (first
      | (refine' wpPlan_free (v := _) rfl (by rfl) ?_ ?_
         rotate_left
         · (intro w'; have g1 := G1.out; have g2 := G2.out; go_simp; try rfl)
         simp only [List.getElem_toArray, List.getElem_cons_zero, List.getElem_cons_succ, Act.put, List.setIfInBounds_toArray, List.set_cons_zero, List.set_cons_succ])
      | (refine' wpPlan_held (v := _) rfl (by rfl) ?_ ?_
         rotate_left
         · (intro w' hS; have g1 := G1.out; have g2 := G2.out; subst hS; go_simp; try rfl)
         simp only [List.getElem_toArray, List.getElem_cons_zero, List.getElem_cons_succ, Act.put, List.setIfInBounds_toArray, List.set_cons_zero, List.set_cons_succ])
      | (refine' wpPlan_skip rfl (by rfl) ?_
         simp only [List.getElem_toArray, List.getElem_cons_zero, List.getElem_cons_succ, Act.put, List.setIfInBounds_toArray, List.set_cons_zero, List.set_cons_succ])
      | (refine' wpPlan_skipHeld rfl (by rfl) ?_
         simp only [List.getElem_toArray, List.getElem_cons_zero, List.getElem_cons_succ, Act.put, List.setIfInBounds_toArray, List.set_cons_zero, List.set_cons_succ]))
    repeat (first
      | (refine' wpPlan_free (v := _) rfl (by rfl) ?_ ?_
         rotate_left
         · (intro w'; have g1 := G1.out; have g2 := G2.out; go_simp; try rfl)
         simp only [List.getElem_toArray, List.getElem_cons_zero, List.getElem_cons_succ, Act.put, List.setIfInBounds_toArray, List.set_cons_zero, List.set_cons_succ])
      | (refine' wpPlan_held (v := _) rfl (by rfl) ?_ ?_
         rotate_left
         · (intro w' hS; have g1 := G1.out; have g2 := G2.out; go_simp; try rfl)
         simp only [List.getElem_toArray, List.getElem_cons_zero, List.getElem_cons_succ, Act.put, List.setIfInBounds_toArray, List.set_cons_zero, List.set_cons_succ])
      | (refine' wpPlan_skip rfl (by rfl) ?_
         simp only [List.getElem_toArray, List.getElem_cons_zero, List.getElem_cons_succ, Act.put, List.setIfInBounds_toArray, List.set_cons_zero, List.set_cons_succ])
      | (refine' wpPlan_skipHeld rfl (by rfl) ?_
         simp only [List.getElem_toArray, List.getElem_cons_zero, List.getElem_cons_succ, Act.put, List.setIfInBounds_toArray, List.set_cons_zero, List.set_cons_succ]))
    refine wpPlan_end ?_
    simp only [wpSegs, List.drop_succ_cons, List.drop_zero]
    have fwd : Fr Non w w2.drew := fw2.drew
    have bCd : w2.drew.heap[C]? = some (.cells #[.int .i64 1, .int .u64 key, .int .u64 high, .slice ca bs.length cc] 39 (0, 0)) := bC2
    have bRd : w2.drew.heap[C + 1]? = some (.cells (#[.int .i64 0, .int .u64 0, .slice none 0 0, .slice none 0 0, .int .i64 0, .int .i64 0, .int .u64 0, .int .i64 0, .int .u64 0, .int .i64 0, .int .i64 0, .int .u64 0, .int .i64 0, .int .u64 0, .bool false] : Array Value) 52 (0, 0)) := bR2
    clear qC zC bC2 bR2 fw2 d0 d1
    generalize w2.drew = wd at fwd bCd bRd ⊢
    obtain ⟨qC, zC⟩ := box_facts bCd
    obtain ⟨qR, zR⟩ := box_facts bRd
    go_wp2_with fail
    have hbl : bs.length ≤ reachBytes := by
      have h1 : bs.length ≤ 1024 := by
        simp [mCallOk] at hc
        exact hc.1
      exact Nat.le_trans h1 (by decide)
    have HBL := Lib.hid hbl
    clear hbl
    clear qC zC qR zR
    refine wp_draw [((fun y => y.heap[C]? = some (.cells #[.int .i64 1, .int .u64 key, .int .u64 high, .slice ca bs.length cc] 39 (0, 0))), [(.free, 0), (.free, 1), (.free, 2), (.free, 3), (.free, 4), (.free, 5), (.free, 6), (.free, 7), (.held, 8), (.free, 9), (.held, 10), (.free, 15), (.kept, 11), (.free, 12), (.kept, 13), (.kept, 14), (.free, 16)])] 17 (by kernel_rfl) (by kernel_rfl) (fun _ _ _ _ _ h => h) ⟨bCd, ?_⟩
    have fwe := fwd.drew
    have bCe : wd.drew.heap[C]? = some (.cells #[.int .i64 1, .int .u64 key, .int .u64 high, .slice ca bs.length cc] 39 (0, 0)) := bCd
    have bRe : wd.drew.heap[C + 1]? = some (.cells (#[.int .i64 0, .int .u64 0, .slice none 0 0, .slice none 0 0, .int .i64 0, .int .i64 0, .int .u64 0, .int .i64 0, .int .u64 0, .int .i64 0, .int .i64 0, .int .u64 0, .int .i64 0, .int .u64 0, .bool false] : Array Value) 52 (0, 0)) := bRd
    clear fwd bCd bRd
    generalize wd.drew = we at fwe bCe bRe ⊢
    repeat (first
      | (refine' wpPlan_free (v := _) rfl (by rfl) ?_ ?_
         rotate_left
         · (intro w'; go_simp; try rfl)
         simp only [List.getElem_toArray, List.getElem_cons_zero, List.getElem_cons_succ, Act.put, List.setIfInBounds_toArray, List.set_cons_zero, List.set_cons_succ])
      | (refine' wpPlan_held (v := _) rfl (by rfl) ?_ ?_
         rotate_left
         · (intro w' hS; obtain ⟨q1, _⟩ := box_facts hS; clear hS; go_simp; try rfl)
         simp only [List.getElem_toArray, List.getElem_cons_zero, List.getElem_cons_succ, Act.put, List.setIfInBounds_toArray, List.set_cons_zero, List.set_cons_succ])
      | (refine' wpPlan_skip rfl (by rfl) ?_
         simp only [List.getElem_toArray, List.getElem_cons_zero, List.getElem_cons_succ, Act.put, List.setIfInBounds_toArray, List.set_cons_zero, List.set_cons_succ])
      | (refine' wpPlan_skipHeld rfl (by rfl) ?_
         simp only [List.getElem_toArray, List.getElem_cons_zero, List.getElem_cons_succ, Act.put, List.setIfInBounds_toArray, List.set_cons_zero, List.set_cons_succ]))
    refine' wpPlan_kept rfl ?_
    intro K hK
    go_simp
    refine (clone_bytes (HV.out.stay fwe) HBL.out).mono ?_
    rintro e w3 ⟨ba, bc, rfl, hq, f3⟩
    go_simp
    have bC3 := f3.heap bCe id
    refine hK _ _ ⟨bC3, ?_⟩
    clear hK K
    repeat (first
      | (refine' wpPlan_free (v := _) rfl (by rfl) ?_ ?_
         rotate_left
         · (intro w'; go_simp; try rfl)
         simp only [List.getElem_toArray, List.getElem_cons_zero, List.getElem_cons_succ, Act.put, List.setIfInBounds_toArray, List.set_cons_zero, List.set_cons_succ])
      | (refine' wpPlan_held (v := _) rfl (by rfl) ?_ ?_
         rotate_left
         · (intro w' hS; obtain ⟨q1, _⟩ := box_facts hS; clear hS; go_simp; try rfl)
         simp only [List.getElem_toArray, List.getElem_cons_zero, List.getElem_cons_succ, Act.put, List.setIfInBounds_toArray, List.set_cons_zero, List.set_cons_succ])
      | (refine' wpPlan_skip rfl (by rfl) ?_
         simp only [List.getElem_toArray, List.getElem_cons_zero, List.getElem_cons_succ, Act.put, List.setIfInBounds_toArray, List.set_cons_zero, List.set_cons_succ])
      | (refine' wpPlan_skipHeld rfl (by rfl) ?_
         simp only [List.getElem_toArray, List.getElem_cons_zero, List.getElem_cons_succ, Act.put, List.setIfInBounds_toArray, List.set_cons_zero, List.set_cons_succ]))
    refine' wpPlan_kept rfl ?_
    intro K hK
    go_simp
    have f4 : Fr Non w3 (w3.alloc (.cells #[.int .u64 key, .slice ba bs.length bc] 60)) := (Fr.refl _ _).alloc _
    refine hK _ _ ⟨f4.heap bC3 id, ?_⟩
    clear hK K
    repeat (first
      | (refine' wpPlan_free (v := _) rfl (by rfl) ?_ ?_
         rotate_left
         · (intro w'; go_simp; try rfl)
         simp only [List.getElem_toArray, List.getElem_cons_zero, List.getElem_cons_succ, Act.put, List.setIfInBounds_toArray, List.set_cons_zero, List.set_cons_succ])
      | (refine' wpPlan_held (v := _) rfl (by rfl) ?_ ?_
         rotate_left
         · (intro w' hS; obtain ⟨q1, _⟩ := box_facts hS; clear hS; go_simp; try rfl)
         simp only [List.getElem_toArray, List.getElem_cons_zero, List.getElem_cons_succ, Act.put, List.setIfInBounds_toArray, List.set_cons_zero, List.set_cons_succ])
      | (refine' wpPlan_skip rfl (by rfl) ?_
         simp only [List.getElem_toArray, List.getElem_cons_zero, List.getElem_cons_succ, Act.put, List.setIfInBounds_toArray, List.set_cons_zero, List.set_cons_succ])
      | (refine' wpPlan_skipHeld rfl (by rfl) ?_
         simp only [List.getElem_toArray, List.getElem_cons_zero, List.getElem_cons_succ, Act.put, List.setIfInBounds_toArray, List.set_cons_zero, List.set_cons_succ]))
    refine' wpPlan_kept rfl ?_
    intro K hK
    go_simp
    have fw4 := (fwe.trans f3).trans f4
    have hz4 : C + 2 ≤ we.heap.size := lt_of_block bRe
    refine (sinsert_any (S := fun b => (S b ∨ w.heap.size ≤ b) ∧ b ≠ C + 1) ((hBS.clip.old.fr fw4).mono fun b _ hb => ⟨.inl hb.1, by have := HCC.out; have := hb.2; omega⟩) (by omega) P hPle (q := w3.heap.size) (x := (key, bs)) (alloc_at w3 _) ((hq.stay f4).mono fun b _ hb => ⟨.inr (by have := fwe.size; omega), by omega⟩) HBL.out hk).mono ?_
    rintro e w5 ⟨a5, c5, rfl, hB5, f5, hn5⟩
    go_simp
    refine hK _ _ ⟨(f4.trans f5).heap bC3 id, ?_⟩
    clear hK K
    repeat (first
      | (refine' wpPlan_free (v := _) rfl (by rfl) ?_ ?_
         rotate_left
         · (intro w'; go_simp; try rfl)
         simp only [List.getElem_toArray, List.getElem_cons_zero, List.getElem_cons_succ, Act.put, List.setIfInBounds_toArray, List.set_cons_zero, List.set_cons_succ])
      | (refine' wpPlan_held (v := _) rfl (by rfl) ?_ ?_
         rotate_left
         · (intro w' hS; obtain ⟨q1, _⟩ := box_facts hS; clear hS; go_simp; try rfl)
         simp only [List.getElem_toArray, List.getElem_cons_zero, List.getElem_cons_succ, Act.put, List.setIfInBounds_toArray, List.set_cons_zero, List.set_cons_succ])
      | (refine' wpPlan_skip rfl (by rfl) ?_
         simp only [List.getElem_toArray, List.getElem_cons_zero, List.getElem_cons_succ, Act.put, List.setIfInBounds_toArray, List.set_cons_zero, List.set_cons_succ])
      | (refine' wpPlan_skipHeld rfl (by rfl) ?_
         simp only [List.getElem_toArray, List.getElem_cons_zero, List.getElem_cons_succ, Act.put, List.setIfInBounds_toArray, List.set_cons_zero, List.set_cons_succ]))
    refine wpPlan_end ?_
    simp only [wpSegs, List.drop_succ_cons, List.drop_zero]
    have fw5 := fw4.trans f5
    have bR5 := (f3.trans (f4.trans f5)).heap bRe id
    obtain ⟨qR, zR⟩ := box_facts bR5
    have HD := Lib.hid (show mDone l (1, key, high, bs) = (l.take P ++ (key, bs) :: l.drop P, mErr 0) by
      have h1 : mDone l (1, key, high, bs) = (mIns (key, bs) false l, mErr 0) := by simp [mDone, HN.out]
      rw [h1, mIns_place (x := (key, bs)) hok (by rw [← mKey_there hok]; exact HN.out)]
      rw [show mPlace (key, bs).1 l = P from HP.out])
    go_wp2_with fail
    refine bodyPost_ret (v := .tuple #[(.slice a5 (l.length + 1) c5), .agg (resCells (mErr 0) (.slice none 0 0) (.slice none 0 0)).toArray]) (by simp [results, Try.results71, go_sem, set15_cell bR5, resCells, refCells, mErr, r0]) rfl ⟨(.slice a5 (l.length + 1) c5), _, rfl, ?_, fun b hb => .inr (by have h9 := hn5 b hb; have := fw4.size; omega), ?_, ?_⟩
    · rw [HD.out]
      have h3 := f3.size
      exact (hB5.apart (set15_fr _ (C + 1) _ _ _ _ _ _ _ _ _ _ _ _ _ _ _) (fun b hb e => by have := hn5 b hb; simp only [World.size_alloc] at this; omega) (fun b hb e => hb.2 e)).mono fun b _ hb => hb.1
    · rw [HD.out]
      exact ResS.err 0
    · exact fw5.trans2 (set15_fr _ (C + 1) _ _ _ _ _ _ _ _ _ _ _ _ _ _ _) (fun b hb e => by have := HCC.out; omega)

end Go.Proofs.Ytplhcfaonhkegaa
