/-
  slices.Equal of bytes; may.
-/
import Derived.Test.YtplhcfaonhkegaaH4
namespace Go.Proofs.Ytplhcfaonhkegaa
open Go.RowKit Go.Maps

theorem byte_at {S : Nat → Prop} {w : World} {a : Option Addr} {n c : Nat} {l : List UInt8} (h : Sl kByte S w (.slice a n c) l) (i : Nat) (hi : i < l.length) :
    ∃ b o, a = some ⟨b, o, none⟩ ∧ w.cell? ⟨b, o + i, none⟩ = some (.int .u8 (l[i].toNat : Int)) := by
  obtain ⟨b, o, cs, rfl, _, _, _, hr, hc⟩ := h.at i hi
  have hcs : cs = [Value.int .u8 (l[i].toNat : Int)] := hr
  subst hcs
  have h0 := hc 0 (by simp)
  have hsz : kByte.sz = 1 := rfl
  rw [hsz] at h0
  exact ⟨b, o, rfl, by simpa using h0⟩

set_option maxRecDepth 100000 in
set_option maxHeartbeats 2000000 in
theorem bytesEq_any {w : World} {u v : Value} {l m : List UInt8} (hl : Sl kByte All w u l) (hm : Sl kByte All w v m) :
    Calls Try.prog 131 #[u, v] w fun e w' => e = .returned (.bool (decide (l = m))) ∧ Fr Non w w' := by
  obtain ⟨va, vc, rfl, _, hx, _⟩ := hl.frm
  obtain ⟨ua, uc, rfl, _, hy, _⟩ := hm.frm
  unfold maxLen at hx hy
  by_cases hlen : l.length = m.length
  rotate_left
  · have h1 : ¬ (l.length : Int) = (m.length : Int) := by omega
    have h2 : ((l.length : Int) == (m.length : Int)) = false := by simpa using h1
    rw [decide_eq_false (fun e => hlen (by rw [e]))]
    go_enter Try.func131, Try.ntmps131
    go_wp2_with fail
    go_ret
    exact ⟨by trivial, Fr.refl _ _⟩
  rw [← hlen]
  have HN := Lib.hid hlen
  have HM := Lib.hid hm
  have HL := Lib.hid hl
  clear hlen hm hl
  go_enter Try.func131, Try.ntmps131
  go_wp2_with fail
  go_loopw [13] (fun i wr => ∃ (j : Nat), j ≤ l.length ∧ i = .int .i64 j ∧ Hid (Fr Non w wr ∧ l.take j = m.take j)) (fun i _ => l.length - (intOf i).toNat)
  case atStart => exact ⟨0, by omega, rfl, Fr.refl _ _, by simp⟩
  case round =>
    obtain ⟨j, hj, rfl, HI⟩ := hrel
    by_cases hlt : j < l.length
    · have f1 := HI.out.1
      have hlt2 : j < m.length := by have := HN.out; omega
      obtain ⟨B, O, rfl, c0⟩ := byte_at (HL.out.stay f1) j hlt
      have hm2 := HM.out
      rw [← HN.out] at hm2
      obtain ⟨B2, O2, rfl, d0⟩ := byte_at (hm2.stay f1) j hlt2
      clear hm2
      have HT := Lib.hid (And.intro (take_next hlt) (And.intro (take_next hlt2) (ne_at j hlt hlt2)))
      generalize l[j] = x at c0 HT
      generalize m[j] = y at d0 HT
      have j0 : (0 : Int) ≤ (j : Int) := by omega
      have j1 : (j : Int) < (l.length : Int) := by omega
      by_cases hxy : x = y
      · subst hxy
        go_wp2_with fail
        refine wp_draw [((fun w' => w' = wr.drew), [(.free, 0), (.free, 1), (.free, 2), (.held, 3), (.free, 4), (.free, 5), (.free, 6), (.held, 7), (.free, 8)])] 9 (by kernel_rfl) (by kernel_rfl) (fun _ _ _ _ _ h => h) ⟨rfl, ?_⟩
        repeat (first
          | (refine' wpPlan_free (v := _) rfl (by rfl) ?_ ?_
             rotate_left
             · (intro w'; go_simp; try rfl)
             simp only [List.getElem_toArray, List.getElem_cons_zero, List.getElem_cons_succ, Act.put, List.setIfInBounds_toArray, List.set_cons_zero, List.set_cons_succ])
          | (refine' wpPlan_held (v := _) rfl (by rfl) ?_ ?_
             rotate_left
             · (intro w' hS; subst hS; go_simp; try rfl)
             simp only [List.getElem_toArray, List.getElem_cons_zero, List.getElem_cons_succ, Act.put, List.setIfInBounds_toArray, List.set_cons_zero, List.set_cons_succ])
          | (refine' wpPlan_skip rfl (by rfl) ?_
             simp only [List.getElem_toArray, List.getElem_cons_zero, List.getElem_cons_succ, Act.put, List.setIfInBounds_toArray, List.set_cons_zero, List.set_cons_succ])
          | (refine' wpPlan_skipHeld rfl (by rfl) ?_
             simp only [List.getElem_toArray, List.getElem_cons_zero, List.getElem_cons_succ, Act.put, List.setIfInBounds_toArray, List.set_cons_zero, List.set_cons_succ]))
        repeat (first
          | (refine' wpPlan_free (v := _) rfl (by rfl) ?_ ?_
             rotate_left
             · (intro w'; go_simp; try rfl)
             simp only [List.getElem_toArray, List.getElem_cons_zero, List.getElem_cons_succ, Act.put, List.setIfInBounds_toArray, List.set_cons_zero, List.set_cons_succ])
          | (refine' wpPlan_held (v := _) rfl (by rfl) ?_ ?_
             rotate_left
             · (intro w' hS; go_simp; try rfl)
             simp only [List.getElem_toArray, List.getElem_cons_zero, List.getElem_cons_succ, Act.put, List.setIfInBounds_toArray, List.set_cons_zero, List.set_cons_succ])
          | (refine' wpPlan_skip rfl (by rfl) ?_
             simp only [List.getElem_toArray, List.getElem_cons_zero, List.getElem_cons_succ, Act.put, List.setIfInBounds_toArray, List.set_cons_zero, List.set_cons_succ])
          | (refine' wpPlan_skipHeld rfl (by rfl) ?_
             simp only [List.getElem_toArray, List.getElem_cons_zero, List.getElem_cons_succ, Act.put, List.setIfInBounds_toArray, List.set_cons_zero, List.set_cons_succ]))
        refine wpPlan_end ?_
        simp only [wpSegs, List.drop_succ_cons, List.drop_zero]
        go_wp2_with fail
        go_roundw
        case rel => exact ⟨j + 1, by omega, by go_num, f1.drew, by rw [HT.out.1, HT.out.2.1, HI.out.2]⟩
        case measure => simp [intOf]; omega
      · have n1 : ¬ ((x.toNat : Int) = (y.toNat : Int)) := fun e => hxy (UInt8.toNat_inj.1 (by omega))
        have n2 : ((x.toNat : Int) == (y.toNat : Int)) = false := beq_eq_false_iff_ne.2 n1
        have n3 : ((x.toNat : Int) != (y.toNat : Int)) = true := by simp [bne, n2]
        have HNE := Lib.hid hxy
        clear hxy
        go_wp2_with fail
        refine wp_draw [((fun w' => w' = wr.drew), [(.free, 0), (.free, 1), (.free, 2), (.held, 3), (.free, 4), (.free, 5), (.free, 6), (.held, 7), (.free, 8)])] 9 (by kernel_rfl) (by kernel_rfl) (fun _ _ _ _ _ h => h) ⟨rfl, ?_⟩
        repeat (first
          | (refine' wpPlan_free (v := _) rfl (by rfl) ?_ ?_
             rotate_left
             · (intro w'; go_simp; try rfl)
             simp only [List.getElem_toArray, List.getElem_cons_zero, List.getElem_cons_succ, Act.put, List.setIfInBounds_toArray, List.set_cons_zero, List.set_cons_succ])
          | (refine' wpPlan_held (v := _) rfl (by rfl) ?_ ?_
             rotate_left
             · (intro w' hS; subst hS; go_simp; try rfl)
             simp only [List.getElem_toArray, List.getElem_cons_zero, List.getElem_cons_succ, Act.put, List.setIfInBounds_toArray, List.set_cons_zero, List.set_cons_succ])
          | (refine' wpPlan_skip rfl (by rfl) ?_
             simp only [List.getElem_toArray, List.getElem_cons_zero, List.getElem_cons_succ, Act.put, List.setIfInBounds_toArray, List.set_cons_zero, List.set_cons_succ])
          | (refine' wpPlan_skipHeld rfl (by rfl) ?_
             simp only [List.getElem_toArray, List.getElem_cons_zero, List.getElem_cons_succ, Act.put, List.setIfInBounds_toArray, List.set_cons_zero, List.set_cons_succ]))
        repeat (first
          | (refine' wpPlan_free (v := _) rfl (by rfl) ?_ ?_
             rotate_left
             · (intro w'; go_simp; try rfl)
             simp only [List.getElem_toArray, List.getElem_cons_zero, List.getElem_cons_succ, Act.put, List.setIfInBounds_toArray, List.set_cons_zero, List.set_cons_succ])
          | (refine' wpPlan_held (v := _) rfl (by rfl) ?_ ?_
             rotate_left
             · (intro w' hS; go_simp; try rfl)
             simp only [List.getElem_toArray, List.getElem_cons_zero, List.getElem_cons_succ, Act.put, List.setIfInBounds_toArray, List.set_cons_zero, List.set_cons_succ])
          | (refine' wpPlan_skip rfl (by rfl) ?_
             simp only [List.getElem_toArray, List.getElem_cons_zero, List.getElem_cons_succ, Act.put, List.setIfInBounds_toArray, List.set_cons_zero, List.set_cons_succ])
          | (refine' wpPlan_skipHeld rfl (by rfl) ?_
             simp only [List.getElem_toArray, List.getElem_cons_zero, List.getElem_cons_succ, Act.put, List.setIfInBounds_toArray, List.set_cons_zero, List.set_cons_succ]))
        refine wpPlan_end ?_
        simp only [wpSegs, List.drop_succ_cons, List.drop_zero]
        go_wp2_with fail
        go_ret
        exact ⟨by rw [decide_eq_false (HT.out.2.2 HNE.out)]; rfl, f1.drew⟩
    · obtain rfl : j = l.length := by omega
      obtain ⟨h1, h2⟩ := HI.out
      rw [List.take_length, HN.out, List.take_length] at h2
      go_wp2_with fail
      go_ret
      exact ⟨by rw [decide_eq_true h2]; rfl, h1⟩

theorem BoxH.slices {w : World} {b : Nat} {x : MHap} {V : Value} (h : BoxH w b x V) : ∃ a0 n0 a2 n2, w.cell? ⟨b, 3, none⟩ = some (.slice a0 x.1.2.2.2.length n0) ∧ w.cell? ⟨b, 7, none⟩ = some (.slice a2 x.2.1.2.2.2.1.length n2) ∧
    Sl kByte All w (.slice a0 x.1.2.2.2.length n0) x.1.2.2.2 ∧ Sl kItem All w (.slice a2 x.2.1.2.2.2.1.length n2) x.2.1.2.2.2.1 := by
  obtain ⟨cs, rfl, h1, h2⟩ := h
  obtain ⟨a0, n0, a2, n2, g3, g7, h3, h4⟩ := h1.slices
  exact ⟨a0, n0, a2, n2, BoxH.cell h2 g3, BoxH.cell h2 g7, h3, h4⟩
/-- A variable that holds an item. -/
def BoxI (w : World) (b : Nat) (i : MItem) : Prop := ∃ a n, w.heap[b]? = some (.cells #[.int .u64 i.1, .slice a i.2.length n] 60 (0, 0)) ∧ Sl kByte All w (.slice a i.2.length n) i.2
theorem BoxI.fr {w w' : World} {b : Nat} {i : MItem} (h : BoxI w b i) (f : Fr Non w w') : BoxI w' b i := by
  obtain ⟨a, n, h1, h2⟩ := h
  exact ⟨a, n, f.heap h1 id, h2.stay f⟩
theorem BoxI.facts {w : World} {b : Nat} {i : MItem} (h : BoxI w b i) : ∃ a n, w.cell? ⟨b, 0, none⟩ = some (.int .u64 i.1) ∧ w.cell? ⟨b, 1, none⟩ = some (.slice a i.2.length n) ∧ Sl kByte All w (.slice a i.2.length n) i.2 := by
  obtain ⟨a, n, h1, h2⟩ := h
  obtain ⟨q, _⟩ := box_facts h1
  exact ⟨a, n, q 0, q 1, h2⟩
theorem BoxA.ask {w : World} {b : Nat} {l : List MHap} {lv : Value} {r : MHap} {V AV : Value} (h : BoxA w b l lv r V AV) : AskV w l lv r V AV := by
  obtain ⟨_, _, h, _⟩ := h
  exact h

set_option maxRecDepth 100000 in
set_option maxHeartbeats 2000000 in
theorem may1_any {w : World} {v : Value} {x : MHap} (hx : HapV All w v x) {b1 b2 : Nat} {i : MItem} (hp : BoxI w b1 i) {l : List MHap} {lv : Value} {r : MHap} {RV AV : Value} (hr : BoxA w b2 l lv r RV AV) :
    Calls Try.prog 129 #[v, .pointer (some ⟨b1, 0, none⟩), .pointer (some ⟨b2, 0, none⟩)] w fun e w' => e = .returned (.bool (hMay1 l r i x)) ∧ Fr Non w w' := by
  obtain ⟨cs, rfl, hlen, _⟩ := hx.size
  have f0 : Fr Non w (w.alloc (.cells cs.toArray 76)) := (Fr.refl _ _).alloc _
  have BX := Lib.hid (BoxH.made hx)
  have BP := Lib.hid (hp.fr f0)
  have BR := Lib.hid (hr.fr f0)
  clear hx hp hr
  unfold hMay1
  obtain ⟨C, hC⟩ : ∃ C, w.heap.size = C := ⟨_, rfl⟩
  have ld0 := BX.out.facts.2.1
  rw [hC] at ld0
  have LD0 := Lib.hid ld0
  rw [hC] at BX
  clear ld0
  go_enter Try.func129, Try.ntmps129
  go_wp2_with (refine wpList_load_w 76 (.pointer (some ⟨C, 0, none⟩)) (.agg cs.toArray) LD0.out _ rfl rfl (by rfl) ?_)
  generalize (w.alloc (.cells cs.toArray 76)) = w1 at BX BP BR f0 ⊢
  refine (hdone_any BX.out.facts.1 1).mono ?_
  rintro e w2 ⟨rfl, f2⟩
  obtain ⟨d, hd⟩ : ∃ d, hDone x 1 = d := ⟨_, rfl⟩
  rw [hd]
  have HD := Lib.hid hd
  clear hd
  cases d with
  | false =>
    go_wp2_with fail
    go_ret
    exact ⟨by rw [HD.out]; rfl, f0.trans f2⟩
  | true =>
    obtain ⟨_, _, x0, x1, x2, x4, x19, _⟩ := (BX.out.fr f2).facts
    obtain ⟨sa, sn, _, _, x3, _, hs, _⟩ := (BX.out.fr f2).slices
    obtain ⟨ia, iN, i0, i1, hi⟩ := (BP.out.fr f2).facts
    have HSL := Lib.hid hs
    have HIL := Lib.hid hi
    clear hs hi
    by_cases hk : x.1.2.1 = i.1
    rotate_left
    · have n1 : (x.1.2.1 == i.1) = false := by simpa using hk
      have HN := Lib.hid hk
      clear hk
      go_wp2_with fail
      go_ret
      exact ⟨by rw [HD.out, decide_eq_false HN.out]; rfl, f0.trans f2⟩
    have n1 : (x.1.2.1 == i.1) = true := by simpa using hk
    have HN := Lib.hid hk
    clear hk
    go_wp2_with fail
    refine (bytesEq_any HSL.out HIL.out).mono ?_
    rintro e w3 ⟨rfl, f3⟩
    have f23 := f2.trans f3
    clear x0 x1 x2 x4 x19 x3 i0 i1
    obtain ⟨_, ldx, _, _, _, _, x19, _⟩ := (BX.out.fr f23).facts
    obtain ⟨_, _, lda, _, _, _, _, _, a21⟩ := (BR.out.fr f23).facts
    have LDX := Lib.hid ldx
    have LDA := Lib.hid lda
    clear ldx lda
    obtain ⟨d, hd⟩ : ∃ d, decide (x.1.2.2.2 = i.2) = d := ⟨_, rfl⟩
    rw [hd]
    have HE := Lib.hid hd
    clear hd
    cases d with
    | false =>
      go_wp2_with fail
      go_ret
      exact ⟨by rw [HD.out, HE.out]; simp, f0.trans f23⟩
    | true =>
      by_cases hlt : x.2.2.1 < r.2.2.2.1
      rotate_left
      · have n3 := decide_eq_false hlt
        have HF := Lib.hid n3
        clear hlt
        go_wp2_with fail
        go_ret
        exact ⟨by rw [HF.out]; simp, f0.trans f23⟩
      have HF := Lib.hid hlt
      have n3 := decide_eq_true hlt
      clear hlt
      go_wp2_with (first | (refine wpList_load_w 76 (.pointer (some ⟨C, 0, none⟩)) _ LDX.out _ rfl rfl (by rfl) ?_) | (refine wpList_load_w 129 (.pointer (some ⟨b2, 0, none⟩)) _ LDA.out _ rfl rfl (by rfl) ?_))
      refine (gone_any (BR.out.fr f23).ask (BX.out.fr f23).facts.1).mono ?_
      rintro e w4 ⟨rfl, f4⟩
      obtain ⟨d, hd⟩ : ∃ d, hGone l r x = d := ⟨_, rfl⟩
      rw [hd]
      have HG := Lib.hid hd
      clear hd
      go_wp2_with fail
      go_ret
      exact ⟨by rw [HD.out, HE.out, HG.out, decide_eq_true HN.out, decide_eq_true HF.out]; simp, f0.trans (f23.trans f4)⟩
end Go.Proofs.Ytplhcfaonhkegaa
