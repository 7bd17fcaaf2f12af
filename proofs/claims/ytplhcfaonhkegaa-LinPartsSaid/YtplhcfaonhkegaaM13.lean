/-
  Model: done: a key is taken out.
-/
import Derived.Test.YtplhcfaonhkegaaM12
namespace Go.Proofs.Ytplhcfaonhkegaa
open Go.RowKit Go.Maps

theorem step_delete {S : Nat → Prop} {ops : Array Oper} {o : Oper} {a : Act} {K : Act → World → Prop} {Q : Exit → Act → World → Prop} {F : Prop} {we : World} {g0 cap P : Nat} {A : Addr} {l : List MItem}
    (hB : BuildS S kItem 60 we (.slice (some ⟨g0, 0, none⟩) l.length cap) l) (hP : P < l.length) (hl : l.length ≤ 90000) (hA : (if cap = P + 1 then (some ⟨g0, 0, none⟩ : Option Addr) else some ⟨g0, (P + 1) * 2, none⟩) = some A)
    (hgd : o.guard = none) (s x : Operand) (ho : o.op = .call { callee := .builtin .append, args := #[s, x], argTypes := #[22, 22] }) (hs : a.eval s = .slice (some ⟨g0, 0, none⟩) P P)
    (hx : a.eval x = .slice (some A) (l.length - (P + 1)) (cap - (P + 1)))
    (h : ∀ v' w', BuildS S kItem 60 w' v' (l.take P ++ l.drop (P + 1)) → Fr Non we w' → (∀ b, v'.ownBlock = some b → b = g0 ∨ we.heap.size ≤ b) → K (a.put o.dst v') w') :
    if Region.wanted o (yielded ops a.tmps) = true then Oper.wp Try.prog o a we K Q else F := by
  obtain ⟨cs, g, hr⟩ := hB
  have hsz : kItem.sz = 2 := rfl
  have hcl : cs.length = l.length * 2 := g.1
  have hcell := g.cells (g := g0) rfl
  obtain ⟨cur, q0, q1, q2, q3, q4⟩ : ∃ cur, we.heap[g0]? = some (.cells cur 60 (0, 0)) ∧ l.length ≤ cap ∧ cap ≤ maxLen ∧ cap * 2 ≤ cur.size ∧ cur.toList.take (l.length * 2) = cs := by
    rcases g.2 with ⟨he, _⟩ | ⟨G, cap', cur, he, h0, h1, h2, h3, h4⟩
    · cases he
    · cases he; exact ⟨cur, h0, h1, h2, h3, h4⟩
  by_cases hm0 : l.length - (P + 1) = 0
  · refine step_append_z hgd s x eI60 ho (some ⟨g0, 0, none⟩) P P hs (Nat.le_refl _) _ hx ⟨by simp, by simp, .inr ⟨A, _, by rw [hm0], by simp⟩⟩ ?_
    have hd : l.drop (P + 1) = [] := List.drop_eq_nil_of_le (by omega)
    refine h _ we ?_ (Fr.refl _ _) (fun b hb => .inl (Option.some.inj hb).symm)
    rw [hd, List.append_nil]
    have hlt : (l.take P).length = P := by rw [List.length_take]; omega
    refine ⟨cs.take (P * 2), ⟨by rw [hlt, List.length_take, hsz]; omega, .inr ⟨_, P, cur, by rw [hlt], q0, by omega, by omega, by rw [hsz]; omega, ?_⟩⟩, hr.take P⟩
    rw [hlt, hsz, ← q4, List.take_take, Nat.min_eq_left (by omega)]
  · have hne : ¬ cap = P + 1 := by omega
    rw [if_neg hne] at hA
    cases hA
    have hr2 : Row kItem (fun b => b < we.heap.size ∧ S b) we cs l := hr.fr (fun _ _ _ => rfl) (fun b hb h => ⟨hb, h.2⟩)
    refine step_append_f hgd s x eI60 ho ⟨g0, 0, none⟩ P P (cs.take (P * 2)) hs (by rw [List.length_take]; omega) (fun j u hu => by
        rw [addr_add]
        rw [List.getElem?_take] at hu
        split at hu
        · exact hcell j u hu
        · cases hu) _ (l.length - (P + 1)) (cs.drop ((P + 1) * 2)) hx
      ⟨by rw [List.length_drop]; omega, fun u hu => Row.one hr u (List.mem_of_mem_drop hu), .inr ⟨_, _, rfl, fun j u hu => by
        rw [List.getElem?_drop] at hu
        rw [addr_add']
        exact hcell _ u hu⟩⟩ (by omega) (Nat.le_refl _) (by unfold maxLen; omega) (by omega) ?_
    intro v' w' r1 r2 r3 r4
    have hlen : (l.take P ++ l.drop (P + 1)).length = P + (l.length - (P + 1)) := by simp; omega
    refine h v' w' ⟨cs.take (P * 2) ++ cs.drop ((P + 1) * 2), by rw [hlen]; exact r1, ?_⟩ r2 (fun b hb => .inr (by have := Option.some.inj (r3.symm.trans hb); omega))
    refine ((hr2.take P).append (hr2.drop (P + 1))).fr (fun b hb _ => r2.block b hb id) (fun b hb hb2 => ⟨fun e => ?_, hb2.2⟩)
    have := Option.some.inj (r3.symm.trans e)
    omega

set_option maxRecDepth 100000 in
set_option maxHeartbeats 1500000 in
theorem done2 {S : Nat → Prop} {w : World} {a : Option Addr} {cap : Nat} {l : List MItem} (hBS : BuildS S kItem 60 w (.slice a l.length cap) l) (hok : mOk none l = true) (hl : l.length ≤ 90000) (key high : Int) {ca : Option Addr} {cc : Nat} {bs : List UInt8}
    (hv : Sl kByte All w (.slice ca bs.length cc) bs) (hc : mCallOk (2, key, high, bs) = true) (hk : 0 ≤ key ∧ key ≤ 18446744073709551615) :
    Calls Try.prog 71 #[.slice a l.length cap, .agg #[.int .i64 2, .int .u64 key, .int .u64 high, .slice ca bs.length cc]] w fun e w' =>
      ∃ v' x, e = .returned (.tuple #[v', x]) ∧ BuildS (fun b => S b ∨ w.heap.size ≤ b) kItem 60 w' v' (mDone l (2, key, high, bs)).1 ∧ (∀ b, v'.ownBlock = some b → (Value.slice a l.length cap).ownBlock = some b ∨ w.heap.size ≤ b) ∧ ResS (fun b => w.heap.size ≤ b) w' x (mDone l (2, key, high, bs)).2 ∧ Fr Non w w' := by
  have hB := hBS.build
  have f0 : Fr Non w ((w.alloc (.cells #[.int .i64 2, .int .u64 key, .int .u64 high, .slice ca bs.length cc] 39)).alloc (.cells #[.int .i64 0, .int .u64 0, .slice none 0 0, .slice none 0 0, .int .i64 0, .int .i64 0, .int .u64 0, .int .i64 0, .int .u64 0, .int .i64 0, .int .i64 0, .int .u64 0, .int .i64 0, .int .u64 0, .bool false] 52)) := ((Fr.refl _ _).alloc _).alloc _
  have bC := alloc_at2 w (.cells #[.int .i64 2, .int .u64 key, .int .u64 high, .slice ca bs.length cc] 39) (.cells #[.int .i64 0, .int .u64 0, .slice none 0 0, .slice none 0 0, .int .i64 0, .int .i64 0, .int .u64 0, .int .i64 0, .int .u64 0, .int .i64 0, .int .i64 0, .int .u64 0, .int .i64 0, .int .u64 0, .bool false] 52)
  have bR := alloc_at2' w (.cells #[.int .i64 2, .int .u64 key, .int .u64 high, .slice ca bs.length cc] 39) (.cells #[.int .i64 0, .int .u64 0, .slice none 0 0, .slice none 0 0, .int .i64 0, .int .i64 0, .int .u64 0, .int .i64 0, .int .u64 0, .int .i64 0, .int .i64 0, .int .u64 0, .int .i64 0, .int .u64 0, .bool false] 52)
  have hpl := place_any (hB.sl.stay f0) hok (by omega) key
  have hPle := mPlace_le key l
  have hth := mKey_there (k := key) hok
  have hplace := mPlace_cut key hok
  obtain ⟨P, hP⟩ : ∃ P, mPlace key l = P := ⟨_, rfl⟩
  unfold mThere at hth
  rw [hP] at hpl hPle hth hplace
  have HP := Lib.hid hP
  have HTh := Lib.hid hth
  have HPl := Lib.hid hplace
  obtain ⟨C, hC⟩ : ∃ C, w.heap.size = C := ⟨_, rfl⟩
  have HCC := Lib.hid hC
  have hBlt := hB.lt
  have HV := Lib.hid hv
  clear hP hth hplace hv
  rw [hC] at bC bR
  by_cases hlt : P < l.length
  rotate_left
  · obtain rfl : P = l.length := by omega
    have hnone : (mKey key l).isSome = false := by have := HTh.out; rw [List.getElem?_eq_none (by omega)] at this; exact this
    have HN := Lib.hid hnone
    clear hnone
    go_enter Try.func71, Try.ntmps71
    go_wp2_with fail
    refine hpl.mono ?_
    clear hpl
    rintro e w2 ⟨rfl, f2⟩
    have bC2 := f2.heap bC id
    have bR2 := f2.heap bR id
    have fw2 : Fr Non w w2 := f0.trans f2
    obtain ⟨hcap, hcm⟩ : l.length ≤ cap ∧ cap ≤ 2 ^ 63 - 1 := by
      obtain ⟨_, _, e, h1, h2, _⟩ := hB.sl.frm
      unfold maxLen at h2
      cases e
      exact ⟨h1, h2⟩
    have hcap2 : (l.length : Int) ≤ (cap : Int) := by omega
    have p1 : ¬ (l.length : Int) < (l.length : Int) := by omega
    have G1 := Lib.hid (decide_eq_false p1)
    obtain ⟨qC, zC⟩ := box_facts bC2
    go_wp2_with fail
    refine wp_draw [((fun x => x = w2.drew), [(.free, 0), (.free, 1), (.free, 2), (.free, 3), (.free, 4), (.free, 5), (.free, 6), (.free, 7), (.free, 8), (.held, 9), (.free, 10), (.held, 11), (.free, 12), (.free, 13), (.free, 14)])] 15 (by kernel_rfl) (by kernel_rfl) (fun _ _ _ _ _ h => h) ⟨rfl, ?_⟩
    repeat (first
      | (refine' wpPlan_free (v := _) rfl (by rfl) ?_ ?_
         rotate_left
         · (intro w'; have g1 := G1.out; go_simp; try rfl)
         simp only [List.getElem_toArray, List.getElem_cons_zero, List.getElem_cons_succ, Act.put, List.setIfInBounds_toArray, List.set_cons_zero, List.set_cons_succ])
      | (refine' wpPlan_held (v := _) rfl (by rfl) ?_ ?_
         rotate_left
         · (intro w' hS; have g1 := G1.out; subst hS; go_simp; try rfl)
         simp only [List.getElem_toArray, List.getElem_cons_zero, List.getElem_cons_succ, Act.put, List.setIfInBounds_toArray, List.set_cons_zero, List.set_cons_succ])
      | (refine' wpPlan_skip rfl (by rfl) ?_
         simp only [List.getElem_toArray, List.getElem_cons_zero, List.getElem_cons_succ, Act.put, List.setIfInBounds_toArray, List.set_cons_zero, List.set_cons_succ])
      | (refine' wpPlan_skipHeld rfl (by rfl) ?_
         simp only [List.getElem_toArray, List.getElem_cons_zero, List.getElem_cons_succ, Act.put, List.setIfInBounds_toArray, List.set_cons_zero, List.set_cons_succ]))
    repeat (first
      | (refine' wpPlan_free (v := _) rfl (by rfl) ?_ ?_
         rotate_left
         · (intro w'; have g1 := G1.out; go_simp; try rfl)
         simp only [List.getElem_toArray, List.getElem_cons_zero, List.getElem_cons_succ, Act.put, List.setIfInBounds_toArray, List.set_cons_zero, List.set_cons_succ])
      | (refine' wpPlan_held (v := _) rfl (by rfl) ?_ ?_
         rotate_left
         · (intro w' hS; have g1 := G1.out; go_simp; try rfl)
         simp only [List.getElem_toArray, List.getElem_cons_zero, List.getElem_cons_succ, Act.put, List.setIfInBounds_toArray, List.set_cons_zero, List.set_cons_succ])
      | (refine' wpPlan_skip rfl (by rfl) ?_
         simp only [List.getElem_toArray, List.getElem_cons_zero, List.getElem_cons_succ, Act.put, List.setIfInBounds_toArray, List.set_cons_zero, List.set_cons_succ])
      | (refine' wpPlan_skipHeld rfl (by rfl) ?_
         simp only [List.getElem_toArray, List.getElem_cons_zero, List.getElem_cons_succ, Act.put, List.setIfInBounds_toArray, List.set_cons_zero, List.set_cons_succ]))
    refine wpPlan_end ?_
    simp only [wpSegs, List.drop_succ_cons, List.drop_zero]
    have fwd : Fr Non w w2.drew := fw2.drew
    have bCd : w2.drew.heap[C]? = some (.cells #[.int .i64 2, .int .u64 key, .int .u64 high, .slice ca bs.length cc] 39 (0, 0)) := bC2
    have bRd : w2.drew.heap[C + 1]? = some (.cells (#[.int .i64 0, .int .u64 0, .slice none 0 0, .slice none 0 0, .int .i64 0, .int .i64 0, .int .u64 0, .int .i64 0, .int .u64 0, .int .i64 0, .int .i64 0, .int .u64 0, .int .i64 0, .int .u64 0, .bool false] : Array Value) 52 (0, 0)) := bR2
    clear qC zC bC2 bR2 fw2 
    generalize w2.drew = wd at fwd bCd bRd ⊢
    obtain ⟨qC, zC⟩ := box_facts bCd
    obtain ⟨qR, zR⟩ := box_facts bRd
    go_wp2_with fail
    refine bodyPost_ret (v := .tuple #[(.slice a l.length cap), .agg (resCells (mErr 101) (.slice none 0 0) (.slice none 0 0)).toArray]) (by simp [results, Try.results71, go_sem, set15_cell bRd, resCells, refCells, mErr, r0]) rfl ⟨(.slice a l.length cap), _, rfl, ?_, fun b hb => .inl hb, ?_, ?_⟩
    · rw [show mDone l (2, key, high, bs) = (l, mErr 101) by simp [mDone, HN.out]]
      exact hBS.keepAt fwd (set15_fr _ (C + 1) _ _ _ _ _ _ _ _ _ _ _ _ _ _ _) (by have := HCC.out; omega)
    · rw [show mDone l (2, key, high, bs) = (l, mErr 101) by simp [mDone, HN.out]]
      exact ResS.err 101
    · exact fwd.trans2 (set15_fr _ (C + 1) _ _ _ _ _ _ _ _ _ _ _ _ _ _ _) (fun b hb e => by have := HCC.out; omega)
  obtain ⟨x, hx⟩ : ∃ x, l[P] = x := ⟨_, rfl⟩
  have hths : (mKey key l).isSome = decide (x.1 = key) := by have := HTh.out; rw [List.getElem?_eq_getElem hlt, hx] at this; exact this
  by_cases hne : x.1 = key
  · have HN := Lib.hid (show (mKey key l).isSome = true by rw [hths, decide_eq_true hne])
    clear hths
    subst hne
    go_enter Try.func71, Try.ntmps71
    go_wp2_with fail
    refine hpl.mono ?_
    clear hpl
    rintro e w2 ⟨rfl, f2⟩
    have bC2 := f2.heap bC id
    have bR2 := f2.heap bR id
    have fw2 : Fr Non w w2 := f0.trans f2
    obtain ⟨g0, u, ea, hcap, hcm, d0, d1, hu, hul, _, _⟩ := build_at (hB.fr fw2) P hlt
    cases ea
    unfold maxLen at hcm
    rw [hx] at d0 hu hul
    have p1 : (P : Int) < (l.length : Int) := by omega
    have p0 : (0 : Int) ≤ (P : Int) := by omega
    have G1 := Lib.hid (decide_eq_true p1)
    have G2 := Lib.hid (show (x.1 == x.1) = true by simp)
    obtain ⟨qC, zC⟩ := box_facts bC2
    go_wp2_with fail
    refine wp_draw [((fun x => x = w2.drew), [(.free, 0), (.free, 1), (.free, 2), (.free, 3), (.free, 4), (.free, 5), (.free, 6), (.free, 7), (.free, 8), (.held, 9), (.free, 10), (.held, 11), (.free, 12), (.free, 13), (.free, 14)])] 15 (by kernel_rfl) (by kernel_rfl) (fun _ _ _ _ _ h => h) ⟨rfl, ?_⟩
    repeat (first
      | (refine' wpPlan_free (v := _) rfl (by rfl) ?_ ?_
         rotate_left
         · (intro w'; have g1 := G1.out; have g2 := G2.out; go_simp; try rfl)
         simp only [List.getElem_toArray, List.getElem_cons_zero, List.getElem_cons_succ, Act.put, List.setIfInBounds_toArray, List.set_cons_zero, List.set_cons_succ])
      | (refine' wpPlan_held (v := _) rfl (by rfl) ?_ ?_
         rotate_left
         · (intro w' hS; have g1 := G1.out; have g2 := G2.out; subst hS; go_simp; try rfl)
         simp only [List.getElem_toArray, List.getElem_cons_zero, List.getElem_cons_succ, Act.put, List.setIfInBounds_toArray, List.set_cons_zero, List.set_cons_succ])
      | (refine' wpPlan_skip rfl (by rfl) ?_
         simp only [List.getElem_toArray, List.getElem_cons_zero, List.getElem_cons_succ, Act.put, List.setIfInBounds_toArray, List.set_cons_zero, List.set_cons_succ])
      | (refine' wpPlan_skipHeld rfl (by rfl) ?_
         simp only [List.getElem_toArray, List.getElem_cons_zero, List.getElem_cons_succ, Act.put, List.setIfInBounds_toArray, List.set_cons_zero, List.set_cons_succ]))
    repeat (first
      | (refine' wpPlan_free (v := _) rfl (by rfl) ?_ ?_
         rotate_left
         · (intro w'; have g1 := G1.out; have g2 := G2.out; go_simp; try rfl)
         simp only [List.getElem_toArray, List.getElem_cons_zero, List.getElem_cons_succ, Act.put, List.setIfInBounds_toArray, List.set_cons_zero, List.set_cons_succ])
      | (refine' wpPlan_held (v := _) rfl (by rfl) ?_ ?_
         rotate_left
         · (intro w' hS; have g1 := G1.out; have g2 := G2.out; go_simp; try rfl)
         simp only [List.getElem_toArray, List.getElem_cons_zero, List.getElem_cons_succ, Act.put, List.setIfInBounds_toArray, List.set_cons_zero, List.set_cons_succ])
      | (refine' wpPlan_skip rfl (by rfl) ?_
         simp only [List.getElem_toArray, List.getElem_cons_zero, List.getElem_cons_succ, Act.put, List.setIfInBounds_toArray, List.set_cons_zero, List.set_cons_succ])
      | (refine' wpPlan_skipHeld rfl (by rfl) ?_
         simp only [List.getElem_toArray, List.getElem_cons_zero, List.getElem_cons_succ, Act.put, List.setIfInBounds_toArray, List.set_cons_zero, List.set_cons_succ]))
    refine wpPlan_end ?_
    simp only [wpSegs, List.drop_succ_cons, List.drop_zero]
    have fwd : Fr Non w w2.drew := fw2.drew
    have bCd : w2.drew.heap[C]? = some (.cells #[.int .i64 2, .int .u64 x.1, .int .u64 high, .slice ca bs.length cc] 39 (0, 0)) := bC2
    have bRd : w2.drew.heap[C + 1]? = some (.cells (#[.int .i64 0, .int .u64 0, .slice none 0 0, .slice none 0 0, .int .i64 0, .int .i64 0, .int .u64 0, .int .i64 0, .int .u64 0, .int .i64 0, .int .i64 0, .int .u64 0, .int .i64 0, .int .u64 0, .bool false] : Array Value) 52 (0, 0)) := bR2
    clear qC zC bC2 bR2 fw2 d0 d1
    generalize w2.drew = wd at fwd bCd bRd ⊢
    obtain ⟨qC, zC⟩ := box_facts bCd
    obtain ⟨qR, zR⟩ := box_facts bRd
    go_wp2_with fail
    clear qC zC qR zR
    obtain ⟨A, hA⟩ : ∃ A, (if cap = P + 1 then (some ⟨g0, 0, none⟩ : Option Addr) else some ⟨g0, (P + 1) * 2, none⟩) = some A := by split <;> exact ⟨_, rfl⟩
    have W3 := Lib.hid hA
    have V1 := Lib.hid (show IntKind.i64.wrap ((P : Int) + 1) = (P : Int) + 1 from IntWalk.i64_in _ (by omega))
    have V2 := Lib.hid (show ((P : Int) + 1).toNat = P + 1 from by omega)
    have e1 : (P : Int) + 1 ≤ (l.length : Int) := by omega
    have e2 : (P : Int) + 1 ≤ (cap : Int) := by omega
    have e3 : (P : Int) ≤ (cap : Int) := by omega
    clear hA
    refine wp_draw [((fun _ => True), [(.free, 0), (.free, 1), (.free, 2), (.free, 3), (.free, 4), (.free, 5), (.free, 6), (.free, 7), (.free, 9), (.kept, 8), (.free, 10)])] 11 (by kernel_rfl) (by kernel_rfl) (fun _ _ _ _ _ h => h) ⟨trivial, ?_⟩
    have fwe := fwd.drew
    have bRe : wd.drew.heap[C + 1]? = some (.cells (#[.int .i64 0, .int .u64 0, .slice none 0 0, .slice none 0 0, .int .i64 0, .int .i64 0, .int .u64 0, .int .i64 0, .int .u64 0, .int .i64 0, .int .i64 0, .int .u64 0, .int .i64 0, .int .u64 0, .bool false] : Array Value) 52 (0, 0)) := bRd
    clear fwd bCd bRd
    generalize wd.drew = we at fwe bRe ⊢
    repeat (first
      | (refine' wpPlan_free (v := _) rfl (by rfl) ?_ ?_
         rotate_left
         · (intro w'; have v1 := V1.out; have v2 := V2.out; have w3 := W3.out; go_simp; try rfl)
         simp only [List.getElem_toArray, List.getElem_cons_zero, List.getElem_cons_succ, Act.put, List.setIfInBounds_toArray, List.set_cons_zero, List.set_cons_succ])
      | (refine' wpPlan_held (v := _) rfl (by rfl) ?_ ?_
         rotate_left
         · (intro w' hS; have v1 := V1.out; have v2 := V2.out; have w3 := W3.out; clear hS; go_simp; try rfl)
         simp only [List.getElem_toArray, List.getElem_cons_zero, List.getElem_cons_succ, Act.put, List.setIfInBounds_toArray, List.set_cons_zero, List.set_cons_succ])
      | (refine' wpPlan_skip rfl (by rfl) ?_
         simp only [List.getElem_toArray, List.getElem_cons_zero, List.getElem_cons_succ, Act.put, List.setIfInBounds_toArray, List.set_cons_zero, List.set_cons_succ])
      | (refine' wpPlan_skipHeld rfl (by rfl) ?_
         simp only [List.getElem_toArray, List.getElem_cons_zero, List.getElem_cons_succ, Act.put, List.setIfInBounds_toArray, List.set_cons_zero, List.set_cons_succ]))
    refine' wpPlan_kept rfl ?_
    intro K hK
    refine step_delete (hBS.old.fr fwe) hlt hl W3.out rfl (.tmp 62) (.tmp 66) rfl rfl rfl ?_
    intro v5 w5 hB5 f5 hn5
    refine hK _ _ ⟨trivial, ?_⟩
    clear hK K
    have bR5 := f5.heap bRe id
    obtain ⟨qR, zR⟩ := box_facts bR5
    have fw5 := fwe.trans f5
    obtain ⟨n5, hn5l⟩ : ∃ n, (l.take P ++ l.drop (P + 1)).length = n := ⟨_, rfl⟩
    obtain ⟨a5, c5, e5⟩ : ∃ a c, v5 = .slice a n5 c := by rw [← hn5l]; exact hB5.build.form
    subst e5
    clear hn5l
    repeat (first
      | (refine' wpPlan_free (v := _) rfl (by rfl) ?_ ?_
         rotate_left
         · (intro w'; go_simp; try rfl)
         simp only [List.getElem_toArray, List.getElem_cons_zero, List.getElem_cons_succ, Act.put, List.setIfInBounds_toArray, List.set_cons_zero, List.set_cons_succ])
      | (refine' wpPlan_held (v := _) rfl (by rfl) ?_ ?_
         rotate_left
         · (intro w' hS; clear hS; go_simp; try rfl)
         simp only [List.getElem_toArray, List.getElem_cons_zero, List.getElem_cons_succ, Act.put, List.setIfInBounds_toArray, List.set_cons_zero, List.set_cons_succ])
      | (refine' wpPlan_skip rfl (by rfl) ?_
         simp only [List.getElem_toArray, List.getElem_cons_zero, List.getElem_cons_succ, Act.put, List.setIfInBounds_toArray, List.set_cons_zero, List.set_cons_succ])
      | (refine' wpPlan_skipHeld rfl (by rfl) ?_
         simp only [List.getElem_toArray, List.getElem_cons_zero, List.getElem_cons_succ, Act.put, List.setIfInBounds_toArray, List.set_cons_zero, List.set_cons_succ]))
    refine wpPlan_end ?_
    simp only [wpSegs, List.drop_succ_cons, List.drop_zero]
    have HD := Lib.hid (show mDone l (2, x.1, high, bs) = (l.take P ++ l.drop (P + 1), mErr 0) by
      have h1 : mDone l (2, x.1, high, bs) = (mOut x.1 l, mErr 0) := by simp [mDone, HN.out]
      rw [h1, mOut_place hok (by rw [← mKey_there hok]; exact HN.out), HP.out])
    go_wp2_with fail
    refine bodyPost_ret (v := .tuple #[(.slice a5 n5 c5), .agg (resCells (mErr 0) (.slice none 0 0) (.slice none 0 0)).toArray]) (by simp [results, Try.results71, go_sem, set15_cell bR5, resCells, refCells, mErr, r0]) rfl ⟨(.slice a5 n5 c5), _, rfl, ?_, fun b hb => (hn5 b hb).elim (fun e => .inl (by rw [e]; rfl)) (fun e => .inr (by have := fwe.size; omega)), ?_, ?_⟩
    · rw [HD.out]
      have hz := lt_of_block bRe
      have hg0 := hBlt g0 rfl
      exact (hB5.apart (set15_fr _ (C + 1) _ _ _ _ _ _ _ _ _ _ _ _ _ _ _) (fun b hb e => by have := hn5 b hb; have := HCC.out; omega) (fun b hb e => by have := HCC.out; have := hb.2; omega)).mono fun b _ hb => .inl hb.1
    · rw [HD.out]
      exact ResS.err 0
    · exact fw5.trans2 (set15_fr _ (C + 1) _ _ _ _ _ _ _ _ _ _ _ _ _ _ _) (fun b hb e => by have := HCC.out; omega)
  · have HN := Lib.hid (show (mKey key l).isSome = false by rw [hths, decide_eq_false hne])
    clear hths
    go_enter Try.func71, Try.ntmps71
    go_wp2_with fail
    refine hpl.mono ?_
    clear hpl
    rintro e w2 ⟨rfl, f2⟩
    have bC2 := f2.heap bC id
    have bR2 := f2.heap bR id
    have fw2 : Fr Non w w2 := f0.trans f2
    obtain ⟨g0, u, ea, hcap, hcm, d0, d1, hu, hul, _, _⟩ := build_at (hB.fr fw2) P hlt
    cases ea
    unfold maxLen at hcm
    rw [hx] at d0 hu hul
    have p1 : (P : Int) < (l.length : Int) := by omega
    have p0 : (0 : Int) ≤ (P : Int) := by omega
    have G1 := Lib.hid (decide_eq_true p1)
    have G2 := Lib.hid (show (x.1 == key) = false by simpa using hne)
    obtain ⟨qC, zC⟩ := box_facts bC2
    go_wp2_with fail
    refine wp_draw [((fun x => x = w2.drew), [(.free, 0), (.free, 1), (.free, 2), (.free, 3), (.free, 4), (.free, 5), (.free, 6), (.free, 7), (.free, 8), (.held, 9), (.free, 10), (.held, 11), (.free, 12), (.free, 13), (.free, 14)])] 15 (by kernel_rfl) (by kernel_rfl) (fun _ _ _ _ _ h => h) ⟨rfl, ?_⟩
    repeat (first
      | (refine' wpPlan_free (v := _) rfl (by rfl) ?_ ?_
         rotate_left
         · (intro w'; have g1 := G1.out; have g2 := G2.out; go_simp; try rfl)
         simp only [List.getElem_toArray, List.getElem_cons_zero, List.getElem_cons_succ, Act.put, List.setIfInBounds_toArray, List.set_cons_zero, List.set_cons_succ])
      | (refine' wpPlan_held (v := _) rfl (by rfl) ?_ ?_
         rotate_left
         · (intro w' hS; have g1 := G1.out; have g2 := G2.out; subst hS; go_simp; try rfl)
         simp only [List.getElem_toArray, List.getElem_cons_zero, List.getElem_cons_succ, Act.put, List.setIfInBounds_toArray, List.set_cons_zero, List.set_cons_succ])
      | (refine' wpPlan_skip rfl (by rfl) ?_
         simp only [List.getElem_toArray, List.getElem_cons_zero, List.getElem_cons_succ, Act.put, List.setIfInBounds_toArray, List.set_cons_zero, List.set_cons_succ])
      | (refine' wpPlan_skipHeld rfl (by rfl) ?_
         simp only [List.getElem_toArray, List.getElem_cons_zero, List.getElem_cons_succ, Act.put, List.setIfInBounds_toArray, List.set_cons_zero, List.set_cons_succ]))
    repeat (first
      | (refine' wpPlan_free (v := _) rfl (by rfl) ?_ ?_
         rotate_left
         · (intro w'; have g1 := G1.out; have g2 := G2.out; go_simp; try rfl)
         simp only [List.getElem_toArray, List.getElem_cons_zero, List.getElem_cons_succ, Act.put, List.setIfInBounds_toArray, List.set_cons_zero, List.set_cons_succ])
      | (refine' wpPlan_held (v := _) rfl (by rfl) ?_ ?_
         rotate_left
         · (intro w' hS; have g1 := G1.out; have g2 := G2.out; go_simp; try rfl)
         simp only [List.getElem_toArray, List.getElem_cons_zero, List.getElem_cons_succ, Act.put, List.setIfInBounds_toArray, List.set_cons_zero, List.set_cons_succ])
      | (refine' wpPlan_skip rfl (by rfl) ?_
         simp only [List.getElem_toArray, List.getElem_cons_zero, List.getElem_cons_succ, Act.put, List.setIfInBounds_toArray, List.set_cons_zero, List.set_cons_succ])
      | (refine' wpPlan_skipHeld rfl (by rfl) ?_
         simp only [List.getElem_toArray, List.getElem_cons_zero, List.getElem_cons_succ, Act.put, List.setIfInBounds_toArray, List.set_cons_zero, List.set_cons_succ]))
    refine wpPlan_end ?_
    simp only [wpSegs, List.drop_succ_cons, List.drop_zero]
    have fwd : Fr Non w w2.drew := fw2.drew
    have bCd : w2.drew.heap[C]? = some (.cells #[.int .i64 2, .int .u64 key, .int .u64 high, .slice ca bs.length cc] 39 (0, 0)) := bC2
    have bRd : w2.drew.heap[C + 1]? = some (.cells (#[.int .i64 0, .int .u64 0, .slice none 0 0, .slice none 0 0, .int .i64 0, .int .i64 0, .int .u64 0, .int .i64 0, .int .u64 0, .int .i64 0, .int .i64 0, .int .u64 0, .int .i64 0, .int .u64 0, .bool false] : Array Value) 52 (0, 0)) := bR2
    clear qC zC bC2 bR2 fw2 d0 d1
    generalize w2.drew = wd at fwd bCd bRd ⊢
    obtain ⟨qC, zC⟩ := box_facts bCd
    obtain ⟨qR, zR⟩ := box_facts bRd
    go_wp2_with fail
    refine bodyPost_ret (v := .tuple #[(.slice (some ⟨g0, 0, none⟩) l.length cap), .agg (resCells (mErr 101) (.slice none 0 0) (.slice none 0 0)).toArray]) (by simp [results, Try.results71, go_sem, set15_cell bRd, resCells, refCells, mErr, r0]) rfl ⟨(.slice (some ⟨g0, 0, none⟩) l.length cap), _, rfl, ?_, fun b hb => .inl hb, ?_, ?_⟩
    · rw [show mDone l (2, key, high, bs) = (l, mErr 101) by simp [mDone, HN.out]]
      exact hBS.keepAt fwd (set15_fr _ (C + 1) _ _ _ _ _ _ _ _ _ _ _ _ _ _ _) (by have := HCC.out; omega)
    · rw [show mDone l (2, key, high, bs) = (l, mErr 101) by simp [mDone, HN.out]]
      exact ResS.err 101
    · exact fwd.trans2 (set15_fr _ (C + 1) _ _ _ _ _ _ _ _ _ _ _ _ _ _ _) (fun b hb e => by have := HCC.out; omega)
end Go.Proofs.Ytplhcfaonhkegaa
