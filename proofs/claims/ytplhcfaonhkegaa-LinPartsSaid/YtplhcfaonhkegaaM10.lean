/-
  Model: slices.Insert of one item.
-/
import Derived.Test.YtplhcfaonhkegaaM9
import Derived.Test.YtplhcfaonhkegaaC
namespace Go.Proofs.Ytplhcfaonhkegaa
open Go.RowKit Go.Maps

theorem ins_cells {cur A X D : List Value} {i n : Nat} (hA : cur.take (i * 2) = A) (hAl : A.length = i * 2) (hX : X.length = 2) (hD : D.length = (n - i) * 2) (hi : i ≤ n) :
    (putAt (putAt cur (i * 2) X) ((i + 1) * 2) D).take ((n + 1) * 2) = A ++ (X ++ D) := by
  have e1 : putAt cur (i * 2) X = (A ++ X) ++ cur.drop (i * 2 + X.length) := by unfold putAt; rw [hA]
  have hl : (A ++ X).length = (i + 1) * 2 := by rw [List.length_append]; omega
  have e2 : putAt (putAt cur (i * 2) X) ((i + 1) * 2) D = (A ++ (X ++ D)) ++ (putAt cur (i * 2) X).drop ((i + 1) * 2 + D.length) := by
    unfold putAt
    rw [show cur.take (i * 2) ++ X ++ cur.drop (i * 2 + X.length) = (A ++ X) ++ cur.drop (i * 2 + X.length) by rw [hA], List.take_left' hl]
    simp
  rw [e2, List.take_left' (by simp only [List.length_append]; omega)]

set_option maxRecDepth 100000 in
set_option maxHeartbeats 4000000 in
theorem sinsert_any {S : Nat → Prop} {w : World} {a : Option Addr} {l : List MItem} (hB : BuildS S kItem 60 w (.slice a l.length l.length) l) (hl : l.length ≤ 100000) (i : Nat) (hi : i ≤ l.length) {q : Nat} {x : MItem} {xa : Option Addr} {xc : Nat}
    (hq : w.heap[q]? = some (.cells #[.int .u64 x.1, .slice xa x.2.length xc] 60 (0, 0))) (hx : Sl kByte S w (.slice xa x.2.length xc) x.2) (hxl : x.2.length ≤ reachBytes) (hk : 0 ≤ x.1 ∧ x.1 ≤ 18446744073709551615) :
    Calls Try.prog 107 #[.slice a l.length l.length, .int .i64 i, .slice (some ⟨q, 0, none⟩) 1 1] w fun e w' =>
      ∃ a' c', e = .returned (.slice a' (l.length + 1) c') ∧ BuildS S kItem 60 w' (.slice a' (l.length + 1) c') (l.take i ++ x :: l.drop i) ∧ Fr Non w w' ∧ ∀ b, (Value.slice a' (l.length + 1) c').ownBlock = some b → w.heap.size ≤ b := by
  obtain ⟨cs, g, hr⟩ := hB
  have HR := Lib.hid hr
  have HX := Lib.hid hx
  have hcl : cs.length = l.length * 2 := g.1
  clear hr hx
  have i0 : (0 : Int) ≤ (i : Int) := by omega
  have i1 : (i : Int) ≤ (l.length : Int) := by omega
  have hsrc : Src w 2 (.slice (some ⟨q, 0, none⟩) 1 1) 1 [.int .u64 x.1, .slice xa x.2.length xc] := Src.block (m := 1) hq rfl (by simp [Value.oneCell'])
  by_cases he : i = l.length
  · subst he
    rw [List.take_length, List.drop_length]
    have hfin : ∀ (v' : Value) (w' : World), GRow w' 60 2 v' (l.length + 1) (cs ++ [.int .u64 x.1, .slice xa x.2.length xc]) → Fr Non w w' → (∀ n, v'.ownBlock = some n → w.heap.size ≤ n) → BuildS S kItem 60 w' v' (l ++ [x]) := fun v' w' g' f' hn => by
      refine ⟨cs ++ [.int .u64 x.1, .slice xa x.2.length xc], by rw [show (l ++ [x]).length = l.length + 1 by simp]; exact g', ?_⟩
      have h1 : Row kItem (fun b => b < w.heap.size ∧ S b) w cs l := HR.out.fr (fun _ _ _ => rfl) (fun b hb h => ⟨hb, h.2⟩)
      have h2 : Row kItem (fun b => b < w.heap.size ∧ S b) w (cs ++ [.int .u64 x.1, .slice xa x.2.length xc]) (l ++ [x]) := h1.append (Row.single (cells_item (HX.out.mono fun b hb h => ⟨hb, h⟩) hxl hk.1 hk.2))
      exact h2.fr (fun b hb _ => f'.block b hb id) (fun b hb hb2 => ⟨fun e => by have := hn b e; omega, hb2.2⟩)
    have HFin := Lib.hid hfin
    clear hfin
    cases a with
    | none =>
      go_enter Try.func107, Try.ntmps107
      go_wp2_with (at_builtin; refine wpList_append_g rfl _ _ eI60 rfl _ _ _ rfl g _ 1 [.int .u64 x.1, .slice xa x.2.length xc] rfl hsrc ?k2 ?k3 ?_)
      case k2 => unfold maxLen; omega
      case k3 => omega
      intro v' w5 r1 r2 r3
      obtain ⟨a1, c1, rfl⟩ := r1.form
      go_wp2_with fail
      go_ret
      have f5 : Fr Non w w5 := r2.mono (fun b _ hb => by cases hb)
      exact ⟨a1, c1, by trivial, HFin.out _ _ r1 f5 (fun n hn => by
        rcases r3 with r3 | ⟨r3, _⟩
        · rw [r3] at hn; cases hn
        · have := Option.some.inj (r3.symm.trans hn); omega), f5, fun n hn => by
        rcases r3 with r3 | ⟨r3, _⟩
        · rw [r3] at hn; cases hn
        · have := Option.some.inj (r3.symm.trans hn); omega⟩
    | some ad =>
      obtain ⟨G, rfl⟩ : ∃ G, ad = ⟨G, 0, none⟩ := by
        rcases g.2 with ⟨he, _⟩ | ⟨G, cap, cur, he, _⟩
        · cases he
        · cases he; exact ⟨G, rfl⟩
      have hcell := g.cells (g := G) rfl
      have HCell := Lib.hid hcell
      clear hcell
      go_enter Try.func107, Try.ntmps107
      go_wp2_with (at_builtin; refine wpList_append_f rfl _ _ eI60 rfl ⟨G, 0, none⟩ l.length l.length cs rfl hcl (fun j u hu => by rw [addr_add]; exact HCell.out j u hu) _ 1 [.int .u64 x.1, .slice xa x.2.length xc] rfl hsrc ?k1 ?k4 ?k2 ?k3 ?_)
      case k1 => omega
      case k4 => omega
      case k2 => unfold maxLen; omega
      case k3 => omega
      intro v' w5 r1 r2 r3 r4
      obtain ⟨a1, c1, rfl⟩ := r1.form
      go_wp2_with fail
      go_ret
      exact ⟨a1, c1, by trivial, HFin.out _ _ r1 r2 (fun n hn => by have := Option.some.inj (r3.symm.trans hn); omega), r2, fun n hn => by have := Option.some.inj (r3.symm.trans hn); omega⟩
  · have i2 : ¬ (i : Int) = (l.length : Int) := by omega
    have hlt : i < l.length := by omega
    obtain ⟨G, rfl⟩ : ∃ G, a = some ⟨G, 0, none⟩ := by
      rcases g.2 with ⟨he, h0⟩ | ⟨G, cap, cur, he, _⟩
      · omega
      · cases he; exact ⟨G, rfl⟩
    have hcell := g.cells (g := G) rfl
    have hGl : G < w.heap.size := g.lt G rfl
    have hql : q < w.heap.size := lt_of_block hq
    have HCell := Lib.hid hcell
    clear hcell
    obtain ⟨k, hk0⟩ : ∃ k, k = l.length + 1 - i := ⟨_, rfl⟩
    have W1 : (l.length : Int) + 1 - (i : Int) = (k : Int) := by omega
    have hkp : 0 < k := by omega
    have hik : i + k = l.length + 1 := by omega
    have HIK := Lib.hid (And.intro hk0 hik)
    clear hk0 hik
    have n1 : ¬ l.length = i := by omega
    have n2 : ((i : Int) == (l.length : Int)) = false := beq_eq_false_iff_ne.2 i2
    go_enter Try.func107, Try.ntmps107
    go_wp2_with (at_builtin; refine wpList_append_zeros eI60 rfl _ _ .i64 .i64 Try.underlying3 rfl ⟨G, 0, none⟩ i l.length k rfl rfl (cs.take (i * 2)) ?k1 (fun j u hu => by rw [addr_add]; rw [List.getElem?_take] at hu; split at hu; exact HCell.out j u hu; cases hu) hkp ?k2 ?k3 ?k4 ?_)
    case k1 => rw [List.length_take]; omega
    case k2 => omega
    case k3 => omega
    case k4 => unfold maxLen; omega
    intro c' cur w2 s1 s2 s3 s4 s5 f2
    have hik := HIK.out.2
    have hGG : w.heap.size < w2.heap.size := lt_of_block s1
    obtain ⟨m, hm⟩ : ∃ m, i + k = m := ⟨_, rfl⟩
    rw [hm] at s3 ⊢
    have HM := Lib.hid (show m = l.length + 1 by omega)
    have m1 : (i : Int) ≤ (m : Int) := by omega
    have m2 : (m : Int) ≤ (c' : Int) := by omega
    have m3 : (i : Int) + 1 ≤ (m : Int) := by omega
    have m4 : (m : Int) ≤ 100001 := by omega
    have n3 : ¬ c' = i := by omega
    have n4 : ¬ c' = i + 1 := by omega
    have hmi : 1 ≤ m - i := by omega
    clear hm hik
    unfold maxLen at s4
    have hq2 := f2.heap hq id
    have HS1 := Lib.hid s1
    obtain ⟨T, hT⟩ : ∃ T, w.heap.size = T := ⟨_, rfl⟩
    have HTT := Lib.hid hT
    rw [hT] at s1 hGG ⊢
    clear hT HS1
    have hm1 : Nat.min 1 (m - i) = 1 := Nat.min_eq_left hmi
    have hcp := run_copy_k (P := Try.prog) w2 22 22 3 60 2 T (i * 2) (m - i) (c' - i) ⟨q, 0, none⟩ 1 1 cur 60 [.int .u64 x.1, .slice xa x.2.length xc] Try.underlying22 (by kernel_rfl) s1 (by rw [hm1]; rfl)
      (by intro j u hu; rw [addr_add, cell_of_row _ _ _ _ _ _ hq2]; simpa using hu) (by rw [s2]; simp; omega) (by simp [Value.oneCell'])
    rw [hm1] at hcp
    clear hm1
    obtain ⟨w3, hw3⟩ : ∃ w3, w2.setRow T (putAt cur.toList (i * 2) [.int .u64 x.1, .slice xa x.2.length xc]).toArray = w3 := ⟨_, rfl⟩
    have t1 : w3.heap[T]? = some (.cells (putAt cur.toList (i * 2) [.int .u64 x.1, .slice xa x.2.length xc]).toArray 60 (0, 0)) := by rw [← hw3]; exact setRow_heap w2 T _ _ _ _ s1
    have t2 : Fr (fun b => b = T) w2 w3 := by rw [← hw3]; exact ⟨rfl, rfl, rfl, by simp [World.setRow], fun k _ hn => setRow_other w2 T k _ hn⟩
    rw [hw3] at hcp
    clear hw3
    go_wp2_with fail
    have hGT : G < T := by have := HTT.out; omega
    have f3 : Fr Non w w3 := f2.trans2 t2 (fun b hb e => by have := HTT.out; omega)
    have fd := f3.drew
    have t1d : w3.drew.heap[T]? = some (.cells (putAt cur.toList (i * 2) [.int .u64 x.1, .slice xa x.2.length xc]).toArray 60 (0, 0)) := t1
    refine wp_draw [((fun _ => True), [(.free, 0), (.free, 1), (.free, 2), (.free, 3), (.free, 4), (.free, 5), (.free, 6), (.free, 7), (.kept, 8)])] 9 (by kernel_rfl) (by kernel_rfl) (fun _ _ _ _ _ h => h) ⟨trivial, ?_⟩
    clear t1 f2 hq2 s1
    generalize w3.drew = wd at fd t1d ⊢
    have fd0 := fd
    obtain ⟨cur2, hcur2⟩ : ∃ c, putAt cur.toList (i * 2) [.int .u64 x.1, .slice xa x.2.length xc] = c := ⟨_, rfl⟩
    have HC2 := Lib.hid hcur2
    have hl2 : cur2.length = c' * 2 := by rw [← hcur2, putAt_len (by simp; omega)]; simpa using s2
    rw [hcur2] at t1d
    clear hcur2 hcp
    have hmin : Nat.min (l.length - i) (m - (i + 1)) = l.length - i := by have := HM.out; rw [show m - (i + 1) = l.length - i by omega]; exact Nat.min_self _
    have hcp := run_copy_k (P := Try.prog) wd 22 22 3 60 2 T ((i + 1) * 2) (m - (i + 1)) (c' - (i + 1)) ⟨G, i * 2, none⟩ (l.length - i) (l.length - i) cur2.toArray 60 (cs.drop (i * 2)) Try.underlying22 (by kernel_rfl) t1d
      (by rw [hmin, List.length_drop, hcl]; omega)
      (by intro j u hu; rw [addr_add']; rw [List.getElem?_drop] at hu; exact fd0.cell (HCell.out _ u hu) id) (by have := HM.out; simp only [List.size_toArray, List.length_drop]; omega)
      (fun v hv => Row.one HR.out v (List.mem_of_mem_drop hv))
    rw [hmin] at hcp
    clear hmin
    obtain ⟨w5, hw5⟩ : ∃ w5, wd.setRow T (putAt cur2 ((i + 1) * 2) (cs.drop (i * 2))).toArray = w5 := ⟨_, rfl⟩
    have t5 : w5.heap[T]? = some (.cells (putAt cur2 ((i + 1) * 2) (cs.drop (i * 2))).toArray 60 (0, 0)) := by rw [← hw5]; exact setRow_heap wd T _ _ _ _ t1d
    have f5 : Fr (fun b => b = T) wd w5 := by rw [← hw5]; exact ⟨rfl, rfl, rfl, by simp [World.setRow], fun k _ hn => setRow_other wd T k _ hn⟩
    rw [hw5] at hcp
    clear hw5
    have V1 := Lib.hid (show IntKind.i64.wrap ((i : Int) + 1) = (i : Int) + 1 from IntWalk.i64_in _ (by omega))
    have V2 := Lib.hid (show ((i : Int) + 1).toNat = i + 1 from by omega)
    repeat (first
      | (refine' wpPlan_free (v := _) rfl (by rfl) ?_ ?_
         rotate_left
         · (intro w'; have v1 := V1.out; have v2 := V2.out; go_simp; try rfl)
         simp only [List.getElem_toArray, List.getElem_cons_zero, List.getElem_cons_succ, Act.put, List.setIfInBounds_toArray, List.set_cons_zero, List.set_cons_succ])
      | (refine' wpPlan_held (v := _) rfl (by rfl) ?_ ?_
         rotate_left
         · (intro w' hS; have v1 := V1.out; have v2 := V2.out; clear hS; go_simp; try rfl)
         simp only [List.getElem_toArray, List.getElem_cons_zero, List.getElem_cons_succ, Act.put, List.setIfInBounds_toArray, List.set_cons_zero, List.set_cons_succ])
      | (refine' wpPlan_skip rfl (by rfl) ?_
         simp only [List.getElem_toArray, List.getElem_cons_zero, List.getElem_cons_succ, Act.put, List.setIfInBounds_toArray, List.set_cons_zero, List.set_cons_succ])
      | (refine' wpPlan_skipHeld rfl (by rfl) ?_
         simp only [List.getElem_toArray, List.getElem_cons_zero, List.getElem_cons_succ, Act.put, List.setIfInBounds_toArray, List.set_cons_zero, List.set_cons_succ]))
    refine' wpPlan_kept rfl ?_
    intro K hK
    go_simp
    refine hK _ _ ⟨trivial, ?_⟩
    clear hK K hcp
    refine wpPlan_end ?_
    simp only [wpSegs, List.drop_succ_cons, List.drop_zero]
    go_wp2_with fail
    go_ret
    have hm := HM.out
    have f6 : Fr Non w w5 := fd0.trans2 f5 (fun b hb e => by have := HTT.out; omega)
    have hcells := ins_cells (cur := cur.toList) (A := cs.take (i * 2)) (X := [.int .u64 x.1, .slice xa x.2.length xc]) (D := cs.drop (i * 2)) (i := i) (n := l.length) s5 (by rw [List.length_take]; omega) rfl (by rw [List.length_drop]; omega) hi
    rw [HC2.out] at hcells
    have hlen : (l.take i ++ x :: l.drop i).length = l.length + 1 := by simp; omega
    have hfit : c' * 2 ≤ (putAt cur2 ((i + 1) * 2) (cs.drop (i * 2))).toArray.size := by
      rw [List.size_toArray, putAt_len (by rw [List.length_drop]; omega)]
      omega
    refine ⟨some ⟨T, 0, none⟩, c', by rw [hm]; rfl, ⟨cs.take (i * 2) ++ ([.int .u64 x.1, .slice xa x.2.length xc] ++ cs.drop (i * 2)), ⟨?_, .inr ⟨T, c', _, by rw [hlen], t5, by omega, by unfold maxLen; omega, hfit, ?_⟩⟩, ?_⟩, f6, fun b e => by have e1 : T = b := Option.some.inj e; have := HTT.out; omega⟩
    · rw [hlen]
      show _ = (l.length + 1) * 2
      simp only [List.length_append, List.length_take, List.length_drop, List.length_cons, List.length_nil]
      omega
    · rw [hlen]
      exact hcells
    · have h1 : Row kItem (fun b => b < w.heap.size ∧ S b) w cs l := HR.out.fr (fun _ _ _ => rfl) (fun b hb h => ⟨hb, h.2⟩)
      have h2 : Row kItem (fun b => b < w.heap.size ∧ S b) w (cs.take (i * 2) ++ ([.int .u64 x.1, .slice xa x.2.length xc] ++ cs.drop (i * 2))) (l.take i ++ x :: l.drop i) :=
        (h1.take i).append ((Row.single (cells_item (HX.out.mono fun b hb h => ⟨hb, h⟩) hxl hk.1 hk.2)).append (h1.drop i))
      refine h2.fr (fun b hb _ => f6.block b hb id) (fun b hb hb2 => ⟨fun e => ?_, hb2.2⟩)
      have e1 : T = b := Option.some.inj e
      have := HTT.out
      omega
end Go.Proofs.Ytplhcfaonhkegaa
