/-
  Keys: slices.Compact.
-/
import Derived.Test.YthjfnpojelfekaaDoorK5
import Derived.Deep.DeepCutAuto
namespace Go.Proofs.YthjfnpojelfekaaDoor
open Go.RowKit

/-- Within Compact: what the row holds. -/
def CompAt (w wr : World) (g : Nat) (rest : List Value) (l : List MK) (p q : Nat) : Prop :=
  Fr (fun b => b = g) w wr ∧ ∃ c : List MK, wr.heap[g]? = some (.cells (keyCells c ++ rest).toArray 25 (0, 0)) ∧ c.length = l.length ∧ c.take p = kComp (l.take q) ∧ p + 1 ≤ q ∧ c.drop (q - 1) = l.drop (q - 1)
theorem keys_block {w : World} {g : Nat} {c : List MK} {rest : List Value} (h : w.heap[g]? = some (.cells (keyCells c ++ rest).toArray 25 (0, 0))) {i : Nat} (hi : i < c.length) :
    w.cell? ⟨g, i * 2, none⟩ = some (.int .i64 c[i].1) ∧ w.cell? ⟨g, i * 2 + 1, none⟩ = some (.int .u64 c[i].2) := by
  obtain ⟨k0, k1⟩ := keyCells_at hi
  have hl := keyCells_len c
  constructor
  · rw [cell_of_row w g _ _ _ _ h, List.getElem?_toArray, List.getElem?_append_left (by omega)]; exact k0
  · rw [cell_of_row w g _ _ _ _ h, List.getElem?_toArray, List.getElem?_append_left (by omega)]; exact k1
theorem drop_at {c l : List MK} {q i : Nat} (h : c.drop q = l.drop q) (hq : q ≤ i) (hl : c.length = l.length) (hi : i < l.length) : c[i]'(by omega) = l[i] := by
  have := congrArg (fun x => x[i - q]?) h
  simp only [List.getElem?_drop] at this
  rw [show q + (i - q) = i by omega] at this
  rw [List.getElem?_eq_getElem (by omega), List.getElem?_eq_getElem hi] at this
  exact Option.some.inj this
theorem size25 : (Tryd.prog.info? 25).map (·.size) = some 2 := by kernel_rfl

set_option maxRecDepth 100000 in
set_option maxHeartbeats 4000000 in
theorem compact_any {w : World} {v : Value} {l : List MK} (h : Keys w v l) (hn : l.length ≤ 200000) :
    Calls Tryd.prog 46 #[v] w fun e w' => ∃ v', e = .returned v' ∧ Keys w' v' (kComp l) ∧ Fr (fun b => v.ownBlock = some b) w w' ∧ (v'.ownBlock = v.ownBlock) := by
  by_cases h2 : l.length < 2
  · have e : kComp l = l := by
      match l, h2 with
      | [], _ => rfl
      | [x], _ => rfl
    rw [e]
    obtain ⟨a, c, rfl⟩ := GRow.form h
    have H := Lib.hid h
    have i1 : (l.length : Int) < 2 := by omega
    clear h e h2
    go_enter Tryd.func46, Tryd.ntmps46
    go_wp2_with fail
    go_ret
    exact ⟨_, by trivial, H.out, Fr.refl _ _, rfl⟩
  rcases id h.2 with ⟨_, h0⟩ | ⟨g, cap, cur, rfl, h3, h4, h5, h6, h7⟩
  · omega
  obtain ⟨rest, hrest⟩ : ∃ rest, cur = (keyCells l ++ rest).toArray := ⟨cur.toList.drop (l.length * 2), by rw [← h7, List.take_append_drop]⟩
  subst hrest
  have HG := Lib.hid h3
  have HCAP := Lib.hid h6
  have HMX := Lib.hid h5
  have i1 : ¬ (l.length : Int) < 2 := by omega
  unfold maxLen at h5
  have hgl : g < w.heap.size := lt_of_block h3
  have HGL := Lib.hid hgl
  clear h h3 h6 h7 hgl
  go_enter Tryd.func46, Tryd.ntmps46
  go_wp2_with fail
  go_loopw [3] (fun k wr => ∃ (m : Nat), m + 1 ≤ l.length ∧ k = .int .i64 ((m : Int) + 1) ∧ Hid (Fr Non w wr ∧ kComp (l.take (m + 1)) = l.take (m + 1))) (fun k _ => l.length + 1 - (intOf k).toNat)
  case atStart =>
    refine ⟨0, by omega, by trivial, Fr.refl _ _, ?_⟩
    rw [show l.take (0 + 1) = [l[0]'(by omega)] by rw [← List.take_append_getElem (show 0 < l.length by omega)]; rfl]
    rfl
  case round =>
    obtain ⟨m, hm, rfl, HI⟩ := hrel
    have m0 : (0 : Int) ≤ (m : Int) := by omega
    by_cases hlt : m + 1 < l.length
    · have m1 : (m : Int) + 1 < (l.length : Int) := by omega
      have hb := HI.out.1.heap HG.out id
      obtain ⟨x0, x1⟩ := keys_block hb (i := m + 1) hlt
      obtain ⟨y0, y1⟩ := keys_block hb (i := m) (by omega)
      have E := Lib.hid (fun w => eq_key l[m + 1] l[m] w)
      have HS1 := Lib.hid (fun e => kComp_other (q := m) hlt e)
      have HS2 := Lib.hid (fun e => kComp_same (q := m) hlt e)
      obtain ⟨X, hX⟩ : ∃ X, l[m + 1] = X := ⟨_, rfl⟩
      obtain ⟨Y, hY⟩ : ∃ Y, l[m] = Y := ⟨_, rfl⟩
      have HX := Lib.hid hX
      rw [hX] at x0 x1 E HS1 HS2
      rw [hY] at y0 y1 E HS1 HS2
      have Q := Lib.hid (And.intro x0 (And.intro x1 (And.intro y0 y1)))
      have HB := Lib.hid hb
      have W1 : IntKind.i64.wrap ((m : Int) + 1 - 1) = (m : Int) := by rw [IntWalk.i64_in _ (by omega)]; omega
      have W2 : ((m : Int) + 1).toNat = m + 1 := by omega
      have W3 : IntKind.i64.wrap (m : Int) = (m : Int) := by rw [IntWalk.i64_in _ (by omega)]
      have ml : (m : Int) < (l.length : Int) := by omega
      have m2 : (0 : Int) ≤ (m : Int) + 1 := by omega
      clear hX hY hb x0 x1 y0 y1
      unfold kV at E
      go_wp2_with fail
      have fd : Fr Non wr wr.drew := (Fr.refl _ _).drew
      refine wp_draw [((fun y => Fr Non wr y), [(.free, 0), (.free, 1), (.free, 2), (.held, 3), (.free, 4), (.free, 5), (.free, 6), (.free, 7), (.held, 8), (.free, 9)])] 10 (by kernel_rfl) (by kernel_rfl) (fun _ _ _ _ _ h => h) ⟨fd, ?_⟩
      generalize wr.drew = wd at fd ⊢
      repeat (first
        | (refine' wpPlan_free (v := _) rfl (by rfl) ?_ ?_
           rotate_left
           · (intro w'; (have eq := E.out); go_simp; try rfl)
           simp only [List.getElem_toArray, List.getElem_cons_zero, List.getElem_cons_succ, Act.put, List.setIfInBounds_toArray, List.set_cons_zero, List.set_cons_succ])
        | (refine' wpPlan_held (v := _) rfl (by rfl) ?_ ?_
           rotate_left
           · (intro w' hS; (have eq := E.out); (have q0 := hS.cell Q.out.1 id; have q1 := hS.cell Q.out.2.1 id; have q2 := hS.cell Q.out.2.2.1 id; have q3 := hS.cell Q.out.2.2.2 id; clear hS); go_simp; try rfl)
           simp only [List.getElem_toArray, List.getElem_cons_zero, List.getElem_cons_succ, Act.put, List.setIfInBounds_toArray, List.set_cons_zero, List.set_cons_succ])
        | (refine' wpPlan_skip rfl (by rfl) ?_
           simp only [List.getElem_toArray, List.getElem_cons_zero, List.getElem_cons_succ, Act.put, List.setIfInBounds_toArray, List.set_cons_zero, List.set_cons_succ])
        | (refine' wpPlan_skipHeld rfl (by rfl) ?_
           simp only [List.getElem_toArray, List.getElem_cons_zero, List.getElem_cons_succ, Act.put, List.setIfInBounds_toArray, List.set_cons_zero, List.set_cons_succ]))
      refine wpPlan_end ?_
      simp only [wpSegs, List.drop_succ_cons, List.drop_zero]
      by_cases hxy : X = Y
      · rw [decide_eq_true hxy]
        have hs := HS2.out hxy
        rw [HI.out.2] at hs
        have HST : Hid (CompAt w wd g rest l (m + 1) (m + 1 + 1)) := Lib.hid ⟨((HI.out.1.trans fd).mono fun _ _ h => h.elim), l, fd.heap HB.out id, rfl, by rw [hs], by omega, rfl⟩
        have n1 : ¬ cap = m + 1 := by omega
        have c1 : (m : Int) + 1 ≤ (l.length : Int) := by omega
        clear hs HS1 HS2 E Q HB hxy HI W1 W2 W3
        go_wp2_with fail
        obtain ⟨d, hd⟩ : ∃ d, l.length - (m + 1) = d := ⟨_, rfl⟩
        obtain ⟨e, he⟩ : ∃ e, cap - (m + 1) = e := ⟨_, rfl⟩
        rw [hd, he]
        have HD := Lib.hid (show d + (m + 1) = l.length by omega)
        have HE := Lib.hid (show e + (m + 1) = cap by omega)
        have d0 : 0 < d := by omega
        have d1 : d ≤ 200000 := by omega
        clear hd he
        go_loopw [3, 5] (fun k j wr => ∃ (p i : Nat), i + 1 ≤ d ∧ k = .int .i64 p ∧ j = .int .i64 ((i : Int) + 1) ∧ Hid (CompAt w wr g rest l p (m + 1 + (i + 1)))) (fun _ j _ => d + 1 - (intOf j).toNat)
        case atStart => exact ⟨m + 1, 0, by omega, by trivial, by trivial, HST.out⟩
        case round =>
          obtain ⟨p, i, hi, rfl, rfl, HC⟩ := hrel
          have i0 : (0 : Int) ≤ (i : Int) := by omega
          obtain ⟨f1, c, hc, hcl, htk, hpq, hdr⟩ := HC.out
          have hdl := HD.out
          by_cases hlt2 : i + 1 < d
          · have j1 : (i : Int) + 1 < (d : Int) := by omega
            have hq : m + 1 + (i + 1) < l.length := by omega
            obtain ⟨x0, x1⟩ := keys_block hc (i := m + 1 + (i + 1)) (by omega)
            obtain ⟨y0, y1⟩ := keys_block hc (i := m + 1 + i) (by omega)
            have ex : c[m + 1 + (i + 1)]'(by omega) = l[m + 1 + (i + 1)] := drop_at hdr (by omega) hcl hq
            have ey : c[m + 1 + i]'(by omega) = l[m + 1 + i]'(by omega) := drop_at hdr (by omega) hcl (by omega)
            rw [ex, show (m + 1 + (i + 1)) * 2 = (m + 1) * 2 + (i + 1) * 2 by omega] at x0 x1
            rw [ey, show (m + 1 + i) * 2 = (m + 1) * 2 + i * 2 by omega] at y0 y1
            have E := Lib.hid (fun w => neq_key l[m + 1 + (i + 1)] (l[m + 1 + i]'(by omega)) w)
            have HS1 := Lib.hid (fun e => kComp_other (q := m + 1 + i) hq e)
            have HS2 := Lib.hid (fun e => kComp_same (q := m + 1 + i) hq e)
            obtain ⟨X, hX⟩ : ∃ X, l[m + 1 + (i + 1)] = X := ⟨_, rfl⟩
            obtain ⟨Y, hY⟩ : ∃ Y, l[m + 1 + i]'(by omega) = Y := ⟨_, rfl⟩
            have eq1 : m + 1 + i + 1 = m + 1 + (i + 1) := by omega
            simp only [eq1] at HS1 HS2
            rw [hX] at x0 x1 E HS1 HS2
            rw [hY] at y0 y1 E HS1 HS2
            have Q := Lib.hid (And.intro x0 (And.intro x1 (And.intro y0 y1)))
            have HB := Lib.hid hc
            have HCL := Lib.hid hcl
            have HTK := Lib.hid htk
            have HPQ := Lib.hid hpq
            have HDR := Lib.hid hdr
            have F1 := Lib.hid f1
            have W1 : IntKind.i64.wrap ((i : Int) + 1 - 1) = (i : Int) := by rw [IntWalk.i64_in _ (by omega)]; omega
            have W2 : ((i : Int) + 1).toNat = i + 1 := by omega
            have W3 : IntKind.i64.wrap (i : Int) = (i : Int) := by rw [IntWalk.i64_in _ (by omega)]
            have ml2 : (i : Int) < (d : Int) := by omega
            have m22 : (0 : Int) ≤ (i : Int) + 1 := by omega
            clear hX hY hc x0 x1 y0 y1 ex ey hcl htk hpq hdr f1 hq hdl eq1
            unfold kV at E
            go_wp2_with fail
            have fd2 : Fr Non wr wr.drew := (Fr.refl _ _).drew
            refine wp_draw [((fun y => Fr Non wr y), [(.free, 0), (.free, 1), (.free, 2), (.held, 3), (.free, 4), (.free, 5), (.free, 6), (.free, 7), (.held, 8), (.free, 9)])] 10 (by kernel_rfl) (by kernel_rfl) (fun _ _ _ _ _ h => h) ⟨fd2, ?_⟩
            generalize wr.drew = wd2 at fd2 ⊢
            repeat (first
              | (refine' wpPlan_free (v := _) rfl (by rfl) ?_ ?_
                 rotate_left
                 · (intro w'; (have eq := E.out); go_simp; try rfl)
                 simp only [List.getElem_toArray, List.getElem_cons_zero, List.getElem_cons_succ, Act.put, List.setIfInBounds_toArray, List.set_cons_zero, List.set_cons_succ])
              | (refine' wpPlan_held (v := _) rfl (by rfl) ?_ ?_
                 rotate_left
                 · (intro w' hS; (have eq := E.out); (have q0 := hS.cell Q.out.1 id; have q1 := hS.cell Q.out.2.1 id; have q2 := hS.cell Q.out.2.2.1 id; have q3 := hS.cell Q.out.2.2.2 id; clear hS); go_simp; try rfl)
                 simp only [List.getElem_toArray, List.getElem_cons_zero, List.getElem_cons_succ, Act.put, List.setIfInBounds_toArray, List.set_cons_zero, List.set_cons_succ])
              | (refine' wpPlan_skip rfl (by rfl) ?_
                 simp only [List.getElem_toArray, List.getElem_cons_zero, List.getElem_cons_succ, Act.put, List.setIfInBounds_toArray, List.set_cons_zero, List.set_cons_succ])
              | (refine' wpPlan_skipHeld rfl (by rfl) ?_
                 simp only [List.getElem_toArray, List.getElem_cons_zero, List.getElem_cons_succ, Act.put, List.setIfInBounds_toArray, List.set_cons_zero, List.set_cons_succ]))
            refine wpPlan_end ?_
            simp only [wpSegs, List.drop_succ_cons, List.drop_zero]
            have HD2 := Lib.hid (F1.out.trans (fd2.mono fun _ _ h => h.elim))
            have HB2 := Lib.hid (fd2.heap HB.out id)
            by_cases hxy2 : X = Y
            · have hs := HS2.out hxy2
              have HN : Hid (CompAt w wd2 g rest l p (m + 1 + (i + 1 + 1))) := Lib.hid ⟨HD2.out, c, HB2.out, HCL.out, by rw [show m + 1 + (i + 1 + 1) = m + 1 + (i + 1) + 1 by omega, hs]; exact HTK.out, by have := HPQ.out; omega, by
                have := HDR.out
                rw [show m + 1 + (i + 1 + 1) - 1 = (m + 1 + (i + 1) - 1) + 1 by omega, ← List.drop_drop, ← List.drop_drop, this]⟩
              rw [decide_eq_true hxy2]
              clear hs HS1 HS2 E Q HB HCL HTK HPQ HDR F1 HD2 HB2 hxy2 W1 W2 W3 HC fd2
              go_wp2_with fail
              go_roundw
              case rel => exact ⟨p, i + 1, by omega, by trivial, by go_num, HN⟩
              case measure => simp [intOf]; omega
            · have hs := HS1.out hxy2
              rw [decide_eq_false hxy2]
              have hpl : p + 1 ≤ l.length := by have := HPQ.out; have := HD.out; omega
              have pl : (p : Int) < (l.length : Int) := by omega
              have p0 : (0 : Int) ≤ (p : Int) := by omega
              have q0 := fd2.cell Q.out.1 id
              have q1 := fd2.cell Q.out.2.1 id
              have HSN := Lib.hid hs
              have hfit : p * 2 + 2 ≤ (keyCells c ++ rest).toArray.size := by have := HCL.out; simp [keyCells_len]; omega
              have HFI := Lib.hid hfit
              clear hs HS1 HS2 E HB hxy2 W3 HC fd2 hfit
              go_wp2_with (refine wpList_store_block rfl 25 _ _ rfl g (p * 2) rfl (.agg #[.int .i64 X.1, .int .u64 X.2]) rfl (keyCells c ++ rest).toArray 25 HB2.out ?hfit ?hinf ?hone ?_)
              case hfit => simpa [Value.cells] using HFI.out
              case hinf => simpa [Value.cells] using size25
              case hone => simp [Value.cells, Value.oneCell']
              intro w5 hb5 f5
              have hpc : p < c.length := by rw [HCL.out]; omega
              have hb6 : w5.heap[g]? = some (.cells (keyCells (c.set p X) ++ rest).toArray 25 (0, 0)) := by
                rw [hb5, ← keyCells_set hpc X rest]
              have HN : Hid (CompAt w w5 g rest l (p + 1) (m + 1 + (i + 1 + 1))) := Lib.hid ⟨HD2.out.trans f5, c.set p X, hb6, by rw [List.length_set]; exact HCL.out, by
                rw [show m + 1 + (i + 1 + 1) = m + 1 + (i + 1) + 1 by omega, HSN.out, ← HTK.out, ← List.take_append_getElem (by rw [List.length_set]; exact hpc), List.take_set_of_le (Nat.le_refl _), List.getElem_set_self], by have := HPQ.out; omega, by
                have := HDR.out
                have hp2 := HPQ.out
                rw [show m + 1 + (i + 1 + 1) - 1 = (m + 1 + (i + 1) - 1) + 1 by omega, List.drop_set_of_lt (by omega), ← List.drop_drop, ← List.drop_drop, this]⟩
              clear hb5 f5 hb6 HB2 HCL HTK HPQ HDR F1 HD2 HSN Q q0 q1 HFI
              go_wp2_with fail
              go_roundw
              case rel => exact ⟨p + 1, i + 1, by omega, by go_num, by go_num, HN⟩
              case measure => simp [intOf]; omega
          · obtain rfl : i + 1 = d := by omega
            have hq : m + 1 + (i + 1) = l.length := by omega
            rw [hq, List.take_length] at htk
            have hpl : p + 1 ≤ l.length := by omega
            have p1 : (p : Int) ≤ (l.length : Int) := by omega
            have p2 : (p : Int) ≤ (cap : Int) := by omega
            have p0 : (0 : Int) ≤ (p : Int) := by omega
            have n2 : ¬ cap = p := by omega
            obtain ⟨w5, hclr, ⟨cur', k1, k2, k3⟩, f5⟩ := run_clear_keys (c := cap - p) hc (show 0 < l.length - p by omega) (o := p * 2) (by simp [keyCells_len, hcl]; omega)
            have HK := Lib.hid (show Keys w5 (.slice (some ⟨g, 0, none⟩) p cap) (kComp l) by
              have hkl : (kComp l).length = p := by rw [← htk, List.length_take]; omega
              refine ⟨keyCells_len _, .inr ⟨g, cap, _, by rw [hkl], k1, by omega, HMX.out, by have := HCAP.out; simp [keyCells_len] at this ⊢; rw [k2]; simp [keyCells_len]; omega, ?_⟩⟩
              rw [hkl]
              show cur'.take (p * 2) = _
              rw [k3, ← htk, List.take_append_of_le_length (by rw [keyCells_len]; omega)]
              have := keyCells_app (c.take p) (c.drop p)
              rw [List.take_append_drop] at this
              rw [this, List.take_left' (by rw [keyCells_len, List.length_take]; omega)])
            have F5 := Lib.hid (f1.trans f5)
            clear hc hcl htk hpq hdr f1 k1 k2 k3 f5 HC hq hdl
            go_wp2_with fail
            go_ret
            exact ⟨_, by trivial, HK.out, F5.out.mono (fun b _ h => by subst h; rfl), rfl⟩
      · rw [decide_eq_false hxy]
        have hs := HS1.out hxy
        rw [HI.out.2] at hs
        have HI2 : Hid (Fr Non w wd ∧ kComp (l.take (m + 1 + 1)) = l.take (m + 1 + 1)) := Lib.hid ⟨HI.out.1.trans fd, by rw [hs, ← List.take_append_getElem hlt, HX.out]⟩
        clear hs HS1 HS2 E Q HB hxy HI W1 W2 W3
        go_wp2_with fail
        go_roundw
        case rel => exact ⟨m + 1, by omega, by go_num, HI2⟩
        case measure => simp [intOf]; omega
    · obtain hml : m + 1 = l.length := by omega
      have HML := Lib.hid hml
      have m1 : (m : Int) + 1 = (l.length : Int) := by omega
      clear hlt
      go_wp2_with fail
      go_ret
      refine ⟨_, by trivial, ?_, HI.out.1.mono (fun _ _ h => h.elim), rfl⟩
      have e : kComp l = l := by have := HI.out.2; rw [HML.out, List.take_length] at this; exact this
      rw [e]
      refine ⟨keyCells_len l, .inr ⟨g, cap, _, rfl, HI.out.1.heap HG.out id, h4, HMX.out, HCAP.out, ?_⟩⟩
      simp [keyCells_len]
end Go.Proofs.YthjfnpojelfekaaDoor
