/-
  Follows, walked.
  The reference: next, all, Begin.
  The reference: Begin, do.
  The reference: Follows.
-/
import Derived.Test.YtplhcfaonhkegaaLB
import Derived.Test.YtplhcfaonhkegaaLC
import Derived.Test.YtplhcfaonhkegaaLA
import Derived.Laws.MakeOwn
import Derived.Laws.Rows
import Derived.Laws.ResultCell
import Derived.Test.YtplhcfaonhkegaaG
namespace Go.Proofs.Ytplhcfaonhkegaa
open Go.RowKit Go.Maps

theorem lCheck_len' {l : List MHap} (h : lCheck l = 0) : l.length ≤ 64 := by
  unfold lCheck at h
  split at h
  · cases h
  · omega
theorem lRun_at {l : List MHap} {d : Nat} {m : List MItem} {o : List Int} {j : Nat} (hj : j < o.length) : lRun l d m (o.drop j) = if 0 ≤ o[j] ∧ o[j] < (l.length : Int) then
      (match lStep l d m o[j].toNat with
        | none => none
        | some n => lRun l (d ||| 2 ^ o[j].toNat) n (o.drop (j + 1)))
    else none := by
  rw [List.drop_eq_getElem_cons hj, lRun]
  by_cases hc : 0 ≤ o[j] ∧ o[j] < (l.length : Int)
  · rw [if_pos hc, if_pos hc]
    cases lStep l d m o[j].toNat <;> rfl
  · rw [if_neg hc, if_neg hc]
set_option maxRecDepth 100000 in
set_option maxHeartbeats 4000000 in
theorem lfollows_any {w : World} {u ov : Value} {l : List MHap} {o : List Int} (hl : Sl kHap All w u l) (ho : Sl kI All w ov o) (hol : o.length ≤ 100) :
    Calls Try.prog 63 #[u, ov] w fun e w' => e = .returned (.bool (lFollows l o)) ∧ Fr Non w w' := by
  obtain ⟨ua, uc, rfl, _⟩ := hl.frm
  obtain ⟨oa, oc, rfl, _, hoc, _⟩ := ho.frm
  unfold maxLen at hoc
  have HC := Lib.hid (lcheck_any hl)
  have HL := Lib.hid hl
  have HO := Lib.hid ho
  clear hl ho
  obtain ⟨R, hR⟩ : ∃ R, lFollows l o = R := ⟨_, rfl⟩
  have HR := Lib.hid (show R = (decide (lCheck l = 0) && (match lRun l 0 [] o with | some x => lWhole l x.1 | none => false)) from hR.symm)
  rw [hR]
  clear hR
  go_enter Try.func63, Try.ntmps63
  go_wp2_with fail
  refine HC.out.mono ?_
  rintro e w1 ⟨rfl, f1⟩
  have F1 := Lib.hid f1
  clear f1 HC
  by_cases hc : lCheck l = 0
  rotate_left
  · have n0 : (lCheck l != 0) = true := by simpa using hc
    have HE := Lib.hid (show R = false by rw [HR.out, decide_eq_false hc]; rfl)
    obtain ⟨C, hC⟩ : ∃ C, lCheck l = C := ⟨_, rfl⟩
    rw [hC] at n0 ⊢
    clear hc hC HR
    go_wp2_with fail
    go_ret
    exact ⟨by rw [HE.out]; rfl, F1.out⟩
  have h64 := lCheck_len' hc
  replace HR := Lib.hid (show R = (match lRun l 0 [] o with | some x => lWhole l x.1 | none => false) by rw [HR.out, decide_eq_true hc]; rfl)
  rw [hc]
  clear hc
  go_wp2_with fail
  go_loopw [5, 6, 16] (fun dv mv iv wr => ∃ (d j : Nat) (m : List MItem), j ≤ o.length ∧ iv = .int .i64 j ∧ dv = .int .u64 d ∧ d < 18446744073709551616 ∧ Hid (Fr Non w wr ∧ Sl kItem All wr mv m ∧ m.length ≤ j ∧ R = (match lRun l d m (o.drop j) with | some x => lWhole l x.1 | none => false))) (fun _ _ iv _ => o.length - (intOf iv).toNat)
  case atStart => exact ⟨0, 0, [], by omega, rfl, rfl, by decide, F1.out, .inl ⟨rfl, rfl⟩, by simp, HR.out⟩
  case round =>
    obtain ⟨d, j, m, hj, rfl, rfl, hd, HI⟩ := hrel
    clear HR
    have j0 : (0 : Int) ≤ (j : Int) := by omega
    obtain ⟨fw, hm, hml, hRj⟩ := HI.out
    obtain ⟨ma, mc, rfl, _⟩ := hm.frm
    have FW := Lib.hid fw
    have HM := Lib.hid hm
    have HML := Lib.hid hml
    have HRJ := Lib.hid hRj
    clear fw hm hml hRj HI
    by_cases hlt : j < o.length
    · have j1 : (j : Int) < (o.length : Int) := by omega
      have HAT := Lib.hid (lRun_at (l := l) (d := d) (m := m) hlt)
      obtain ⟨b, a, cs, e, _, _, _, hr, hcs⟩ := (HO.out.stay FW.out).at j hlt
      cases e
      have e2 : cs = [.int .i64 o[j]] := hr.1
      have q0 := hcs 0 (by rw [e2]; simp)
      have hsz : kI.sz = 1 := rfl
      rw [hsz] at q0
      simp only [e2, Nat.mul_one, Nat.add_zero, List.getElem_cons_zero] at q0
      obtain ⟨x, hx⟩ : ∃ x, o[j] = x := ⟨_, rfl⟩
      rw [hx] at q0 HAT
      clear e2 hr hcs hsz hx
      by_cases hin : 0 ≤ x ∧ x < (l.length : Int)
      rotate_left
      · have HE := Lib.hid (show R = false by rw [HRJ.out, HAT.out, if_neg hin])
        by_cases hx0 : x < 0
        · go_wp2_with fail
          go_ret
          exact ⟨by rw [HE.out]; rfl, FW.out⟩
        · have hx1 : (l.length : Int) ≤ x := by omega
          go_wp2_with fail
          go_ret
          exact ⟨by rw [HE.out]; rfl, FW.out⟩
      obtain ⟨q, rfl⟩ : ∃ q : Nat, x = (q : Int) := ⟨x.toNat, by omega⟩
      have hq : q < l.length := by omega
      have x0 : ¬ (q : Int) < 0 := by omega
      have x1 : ¬ (l.length : Int) ≤ (q : Int) := by omega
      have x2 : ¬ l.length ≤ q := by omega
      have x3 : (q : Int) < (l.length : Int) := by omega
      have x4 : (q : Int) ≤ 64 := by omega
      have x5 : (0 : Int) ≤ (q : Int) := by omega
      replace HAT := Lib.hid (show R = (match (match lStep l d m q with | none => none | some n => lRun l (d ||| 2 ^ q) n (o.drop (j + 1))) with | some x => lWhole l x.1 | none => false) by rw [HRJ.out, HAT.out, if_pos hin, Int.toNat_natCast])
      rw [lStep_at hq] at HAT
      have HN := Lib.hid (lnext_any (HL.out.stay FW.out) h64 d hd q hq)
      clear HRJ hin
      go_wp2_with fail
      refine HN.out.mono ?_
      rintro e w5 ⟨rfl, f5⟩
      obtain ⟨nx, hnx⟩ : ∃ b, lNext l d q l[q] = b := ⟨_, rfl⟩
      rw [hnx] at HAT ⊢
      have F5 := Lib.hid (FW.out.trans f5)
      have G5 := Lib.hid f5
      clear hnx f5 HN q0
      cases nx with
      | false =>
        have HE := Lib.hid (show R = false by rw [HAT.out]; rfl)
        go_wp2_with fail
        go_ret
        exact ⟨by rw [HE.out]; rfl, F5.out⟩
      | true =>
      obtain ⟨B1, O1, cs, e1, hrd, _, _, hld⟩ := hap_held (HL.out.stay F5.out) q hq
      subst e1
      have LD := hld _ (Fr.refl _ _)
      have HA := Lib.hid (lafter_any (x := l[q]) (cs := cs) (HM.out.stay G5.out) (by have := HML.out; omega) hrd)
      clear hrd hld
      go_wp2_with (refine wpList_load_v rfl 76 _ rfl _ rfl _ LD ?_)
      refine HA.out.mono ?_
      rintro e w6 ⟨har, f6⟩
      have F6 := Lib.hid (F5.out.trans f6)
      clear HA LD f6
      unfold AfterR at har
      obtain ⟨na, hna⟩ : ∃ b, lAfter m l[q] = b := ⟨_, rfl⟩
      rw [hna] at har HAT
      cases na with
      | none =>
        simp only at har
        subst har
        have HE := Lib.hid (show R = false by rw [HAT.out]; rfl)
        go_wp2_with fail
        go_ret
        exact ⟨by rw [HE.out]; rfl, F6.out⟩
      | some n' =>
      obtain ⟨u', rfl, hu'⟩ := har
      have HU := Lib.hid hu'
      have HNL := Lib.hid (show n'.length ≤ j + 1 by rw [(lAfter_some hna).2.2.1]; have := mDone_len m l[q].1; have := HML.out; omega)
      clear hu' hna
      obtain ⟨xa, xc, rfl, _⟩ := HU.out.frm
      have hp2 : 2 ^ q < 18446744073709551616 := by
        have := Nat.pow_lt_pow_right (a := 2) (by decide) (show q < 64 by omega)
        simpa using this
      have hor : bits .or .u64 (d : Int) (IntKind.u64.wrap (2 ^ q)) = ((d ||| 2 ^ q : Nat) : Int) := by
        have h2 : ((2 : Int) ^ q) = ((2 ^ q : Nat) : Int) := by norm_cast
        have h3 : ((2 ^ q : Nat) : Int) < 18446744073709551616 := by have := Int.ofNat_lt.2 hp2; exact this
        rw [IntKind.wrap_u64, h2, Int.emod_eq_of_lt (Int.natCast_nonneg _) h3]
        exact u64_or_nat _ _ hd hp2
      have HD2 := Lib.hid (set_lt hd (show q < 64 by omega))
      have HE := Lib.hid (show R = (match lRun l (d ||| 2 ^ q) n' (o.drop (j + 1)) with | some x => lWhole l x.1 | none => false) by rw [HAT.out]; rfl)
      clear hp2 HAT
      go_wp2_with fail
      go_roundw
      case rel => exact ⟨d ||| 2 ^ q, j + 1, n', by omega, by go_num, by first | rw [hor] | rfl, HD2.out, F6.out, HU.out, HNL.out, HE.out⟩
      case measure => simp [intOf]; omega
    · obtain rfl : j = o.length := by omega
      have HE := Lib.hid (show R = lWhole l d by rw [HRJ.out, List.drop_length, lRun])
      have HW := Lib.hid (lwhole_any (HL.out.stay FW.out) h64 d hd)
      clear HRJ
      go_wp2_with fail
      refine HW.out.mono ?_
      rintro e w5 ⟨rfl, f5⟩
      go_wp2_with fail
      go_ret
      exact ⟨by rw [HE.out]; rfl, FW.out.trans f5⟩
end Go.Proofs.Ytplhcfaonhkegaa

namespace Go.Proofs.Ytplhcfaonhkegaa
open Go.RowKit Go.Maps

/-- Which are done, as a row of bools. -/
def lBits (d L : Nat) : List Bool := (List.range L).map d.testBit
theorem lBits_len (d L : Nat) : (lBits d L).length = L := by simp [lBits]
theorem lBits_get {d L k : Nat} (h : k < (lBits d L).length) : (lBits d L)[k] = d.testBit k := by simp [lBits]
/-- One of a row of bools. -/
theorem bool_held {S : Nat → Prop} {w : World} {a : Option Addr} {n c : Nat} {d L : Nat} (h : Sl kBool S w (.slice a n c) (lBits d L)) (i : Nat) (hi : i < L) :
    ∃ b o, a = some ⟨b, o, none⟩ ∧ n = L ∧ ∀ y, Fr Non w y → y.cell? ⟨b, o + i, none⟩ = some (.bool (d.testBit i)) := by
  obtain ⟨b, o, cs, e, en, _, _, hr, hc⟩ := h.at i (by rw [lBits_len]; exact hi)
  rw [lBits_len] at en
  refine ⟨b, o, e, en, fun y f => ?_⟩
  have e2 : cs = [.bool ((lBits d L)[i]'(by rw [lBits_len]; exact hi))] := hr
  subst e2
  have := hc 0 (by simp)
  have hsz : kBool.sz = 1 := rfl
  rw [hsz] at this
  simp only [Nat.mul_one, Nat.add_zero, List.getElem_cons_zero, lBits_get] at this
  exact f.cell this id
set_option maxRecDepth 100000 in
set_option maxHeartbeats 4000000 in
theorem rnext_any {w : World} {u dv lv : Value} {l : List MHap} (hl : Sl kHap All w u l) (hmay : ∀ x ∈ l, lMay x = true) (d : Nat) (hdv : Sl kBool All w dv (lBits d l.length)) (i : Nat) (hi : i < l.length) :
    Calls Try.prog 94 #[u, .agg #[dv, lv], .int .i64 i] w fun e w' => e = .returned (.bool (lNext l d i l[i])) ∧ Fr Non w w' := by
  obtain ⟨va, vc, rfl, _, hx, _⟩ := hl.frm
  obtain ⟨da, dc, rfl, _, hdx, _⟩ := hdv.frm
  unfold maxLen at hx hdx
  rw [lBits_len] at hdv ⊢
  obtain ⟨R, hR⟩ : ∃ R, lNext l d i l[i] = R := ⟨_, rfl⟩
  have HR := Lib.hid (show R = (!d.testBit i && !lBads d i l[i] 0 l) from hR.symm)
  rw [hR]
  clear hR
  have HSELF := Lib.hid (show hAhead l[i] l[i] = false by
    have := hmay l[i] (List.getElem_mem hi)
    unfold lMay at this
    unfold hAhead
    cases ho : l[i].2.2.2.2.1 with
    | true => rfl
    | false =>
      rw [ho] at this
      simp at this
      simp
      omega)
  obtain ⟨gb, go, e, _, hdk⟩ := bool_held hdv i hi
  subst e
  have f0 : Fr Non w (w.alloc (.cells #[.slice (some ⟨gb, go, none⟩) l.length dc, lv] 143)) := (Fr.refl _ _).alloc _
  have bC := alloc_at w (.cells #[.slice (some ⟨gb, go, none⟩) l.length dc, lv] 143)
  have q1 := hdk _ f0
  have HL := Lib.hid hl
  have HDV := Lib.hid hdv
  have i0 : (0 : Int) ≤ (i : Int) := by omega
  have i2 : (i : Int) < (l.length : Int) := by omega
  have F0 := Lib.hid f0
  have BC := Lib.hid bC
  obtain ⟨bt, hbt⟩ : ∃ b, d.testBit i = b := ⟨_, rfl⟩
  rw [hbt] at q1 HR
  clear hbt hl hdv hdk f0 bC
  cases bt with
  | true =>
    have HE := Lib.hid (show R = false by rw [HR.out]; rfl)
    go_enter Try.func94, Try.ntmps94
    go_wp2_with fail
    go_ret
    exact ⟨by rw [HE.out]; rfl, F0.out⟩
  | false =>
  go_enter Try.func94, Try.ntmps94
  go_wp2_with fail
  clear q1
  go_loopw [7] (fun v wr => ∃ (j : Nat), j ≤ l.length ∧ v = .int .i64 j ∧ Hid (Fr Non (w.alloc (.cells #[.slice (some ⟨gb, go, none⟩) l.length dc, lv] 143)) wr ∧ lBads d i l[i] 0 (l.take j) = false)) (fun v _ => l.length - (intOf v).toNat)
  case atStart => exact ⟨0, by omega, rfl, Fr.refl _ _, rfl⟩
  case round =>
    obtain ⟨j, hj, rfl, HI⟩ := hrel
    by_cases hlt : j < l.length
    · have f1 := HI.out.1
      have HF := Lib.hid (F0.out.trans f1)
      have HF1 := Lib.hid f1
      obtain ⟨B1, O1, cs, e1, _, hV, _, hld⟩ := hap_held (HL.out.stay HF.out) j hlt
      subst e1
      obtain ⟨B2, O2, ds, e2, _, hV2, _, hld2⟩ := hap_held (HL.out.stay HF.out) i hi
      cases e2
      obtain ⟨gb2, go2, e3, _, hdk⟩ := bool_held (HDV.out.stay HF.out) j hlt
      cases e3
      have j0 : (0 : Int) ≤ (j : Int) := by omega
      have j1 : (j : Int) < (l.length : Int) := by omega
      have LDK := Lib.hid hld
      have LDI := Lib.hid hld2
      have DK := Lib.hid hdk
      have DC := Lib.hid (fun (y : World) (f : Fr Non wr y) => show y.cell? ⟨w.heap.size, 0, none⟩ = some (.slice (some ⟨gb, go, none⟩) l.length dc) by rw [(box_facts (f.heap (f1.heap BC.out id) id)).1]; rfl)
      have HM := Lib.hid (fun (w' : World) => lrmust_any (w := w') hV)
      have HO1 := Lib.hid (fun (w' : World) => lrover_any (w := w') hV hV2)
      have HO2 := Lib.hid (fun (w' : World) => lrover_any (w := w') hV2 hV)
      have HBAD := Lib.hid (show lBad d i l[i] j l[j] = (((!d.testBit j && decide (j ≠ i)) && hSure l[j] && hAhead l[j] l[i]) || (d.testBit j && hAhead l[i] l[j])) from rfl)
      have HJI := Lib.hid (show j = i → hAhead l[j] l[i] = false from fun h => by subst h; exact HSELF.out)
      obtain ⟨tb, htb⟩ : ∃ b, d.testBit j = b := ⟨_, rfl⟩
      obtain ⟨o1, ho1⟩ : ∃ b, hAhead l[j] l[i] = b := ⟨_, rfl⟩
      obtain ⟨o2, ho2⟩ : ∃ b, hAhead l[i] l[j] = b := ⟨_, rfl⟩
      obtain ⟨mu, hmu⟩ : ∃ b, hSure l[j] = b := ⟨_, rfl⟩
      rw [htb, ho1, ho2, hmu] at HBAD
      rw [htb] at DK
      rw [hmu] at HM
      rw [ho1] at HO1 HJI
      rw [ho2] at HO2
      obtain ⟨C, hCC⟩ : ∃ C, w.heap.size = C := ⟨_, rfl⟩
      rw [hCC] at DC ⊢
      clear htb ho1 ho2 hmu hV hV2 hld hld2 hdk f1 hCC
      cases tb with
      | true =>
        replace HBAD := Lib.hid (show lBad d i l[i] j l[j] = o2 by rw [HBAD.out]; simp)
        go_wp2_with fail
        have fd : Fr Non wr wr.drew := (Fr.refl _ _).drew
        refine wp_draw [((fun y => Fr Non wr y), [(.free, 0), (.held, 1), (.free, 2), (.free, 3), (.held, 4), (.free, 5), (.free, 6), (.free, 7), (.free, 8), (.free, 9), (.held, 10), (.kept, 11), (.free, 12), (.free, 13), (.free, 14), (.free, 15), (.free, 16), (.held, 17), (.free, 18), (.free, 19), (.free, 20), (.held, 21), (.kept, 22), (.free, 23), (.free, 24), (.free, 25), (.held, 26), (.free, 27), (.free, 28), (.held, 29), (.free, 30), (.free, 31), (.free, 32), (.free, 33), (.held, 34), (.free, 35), (.free, 36), (.free, 37), (.held, 38), (.kept, 39), (.free, 40), (.free, 41)])] 42 (by kernel_rfl) (by kernel_rfl) (fun _ _ _ _ _ h => h) ⟨fd, ?_⟩
        generalize wr.drew = wd at fd ⊢
        repeat (first
          | (refine' wpPlan_free (v := _) rfl (by rfl) ?_ ?_
             rotate_left
             · (intro w'; skip; go_simp; try rfl)
             simp only [List.getElem_toArray, List.getElem_cons_zero, List.getElem_cons_succ, Act.put, List.setIfInBounds_toArray, List.set_cons_zero, List.set_cons_succ])
          | (refine' wpPlan_held (v := _) rfl (by rfl) (fun w' hS => held_of (LDK.out w' hS)) ?_
             simp only [List.getElem_toArray, List.getElem_cons_zero, List.getElem_cons_succ, Act.put, List.setIfInBounds_toArray, List.set_cons_zero, List.set_cons_succ])
          | (refine' wpPlan_held (v := _) rfl (by rfl) (fun w' hS => held_of (LDI.out w' hS)) ?_
             simp only [List.getElem_toArray, List.getElem_cons_zero, List.getElem_cons_succ, Act.put, List.setIfInBounds_toArray, List.set_cons_zero, List.set_cons_succ])
          | (refine' wpPlan_held (v := _) rfl (by rfl) ?_ ?_
             rotate_left
             · (intro w' hS; skip; have q0 := DC.out w' hS; have q1 := DK.out w' hS; clear hS; go_simp; try rfl)
             simp only [List.getElem_toArray, List.getElem_cons_zero, List.getElem_cons_succ, Act.put, List.setIfInBounds_toArray, List.set_cons_zero, List.set_cons_succ])
          | (refine' wpPlan_skip rfl (by rfl) ?_
             simp only [List.getElem_toArray, List.getElem_cons_zero, List.getElem_cons_succ, Act.put, List.setIfInBounds_toArray, List.set_cons_zero, List.set_cons_succ])
          | (refine' wpPlan_skipHeld rfl (by rfl) ?_
             simp only [List.getElem_toArray, List.getElem_cons_zero, List.getElem_cons_succ, Act.put, List.setIfInBounds_toArray, List.set_cons_zero, List.set_cons_succ]))
        refine' wpPlan_kept rfl ?_
        intro K hK
        go_simp
        refine hK _ _ ⟨fd, ?_⟩
        clear hK K
        repeat (first
          | (refine' wpPlan_free (v := _) rfl (by rfl) ?_ ?_
             rotate_left
             · (intro w'; skip; go_simp; try rfl)
             simp only [List.getElem_toArray, List.getElem_cons_zero, List.getElem_cons_succ, Act.put, List.setIfInBounds_toArray, List.set_cons_zero, List.set_cons_succ])
          | (refine' wpPlan_held (v := _) rfl (by rfl) (fun w' hS => held_of (LDK.out w' hS)) ?_
             simp only [List.getElem_toArray, List.getElem_cons_zero, List.getElem_cons_succ, Act.put, List.setIfInBounds_toArray, List.set_cons_zero, List.set_cons_succ])
          | (refine' wpPlan_held (v := _) rfl (by rfl) (fun w' hS => held_of (LDI.out w' hS)) ?_
             simp only [List.getElem_toArray, List.getElem_cons_zero, List.getElem_cons_succ, Act.put, List.setIfInBounds_toArray, List.set_cons_zero, List.set_cons_succ])
          | (refine' wpPlan_held (v := _) rfl (by rfl) ?_ ?_
             rotate_left
             · (intro w' hS; skip; have q0 := DC.out w' hS; have q1 := DK.out w' hS; clear hS; go_simp; try rfl)
             simp only [List.getElem_toArray, List.getElem_cons_zero, List.getElem_cons_succ, Act.put, List.setIfInBounds_toArray, List.set_cons_zero, List.set_cons_succ])
          | (refine' wpPlan_skip rfl (by rfl) ?_
             simp only [List.getElem_toArray, List.getElem_cons_zero, List.getElem_cons_succ, Act.put, List.setIfInBounds_toArray, List.set_cons_zero, List.set_cons_succ])
          | (refine' wpPlan_skipHeld rfl (by rfl) ?_
             simp only [List.getElem_toArray, List.getElem_cons_zero, List.getElem_cons_succ, Act.put, List.setIfInBounds_toArray, List.set_cons_zero, List.set_cons_succ]))
        refine' wpPlan_kept rfl ?_
        intro K hK
        go_simp
        refine hK _ _ ⟨fd, ?_⟩
        clear hK K
        repeat (first
          | (refine' wpPlan_free (v := _) rfl (by rfl) ?_ ?_
             rotate_left
             · (intro w'; skip; go_simp; try rfl)
             simp only [List.getElem_toArray, List.getElem_cons_zero, List.getElem_cons_succ, Act.put, List.setIfInBounds_toArray, List.set_cons_zero, List.set_cons_succ])
          | (refine' wpPlan_held (v := _) rfl (by rfl) (fun w' hS => held_of (LDK.out w' hS)) ?_
             simp only [List.getElem_toArray, List.getElem_cons_zero, List.getElem_cons_succ, Act.put, List.setIfInBounds_toArray, List.set_cons_zero, List.set_cons_succ])
          | (refine' wpPlan_held (v := _) rfl (by rfl) (fun w' hS => held_of (LDI.out w' hS)) ?_
             simp only [List.getElem_toArray, List.getElem_cons_zero, List.getElem_cons_succ, Act.put, List.setIfInBounds_toArray, List.set_cons_zero, List.set_cons_succ])
          | (refine' wpPlan_held (v := _) rfl (by rfl) ?_ ?_
             rotate_left
             · (intro w' hS; skip; have q0 := DC.out w' hS; have q1 := DK.out w' hS; clear hS; go_simp; try rfl)
             simp only [List.getElem_toArray, List.getElem_cons_zero, List.getElem_cons_succ, Act.put, List.setIfInBounds_toArray, List.set_cons_zero, List.set_cons_succ])
          | (refine' wpPlan_skip rfl (by rfl) ?_
             simp only [List.getElem_toArray, List.getElem_cons_zero, List.getElem_cons_succ, Act.put, List.setIfInBounds_toArray, List.set_cons_zero, List.set_cons_succ])
          | (refine' wpPlan_skipHeld rfl (by rfl) ?_
             simp only [List.getElem_toArray, List.getElem_cons_zero, List.getElem_cons_succ, Act.put, List.setIfInBounds_toArray, List.set_cons_zero, List.set_cons_succ]))
        refine' wpPlan_kept rfl ?_
        intro K hK
        go_simp
        refine (HO2.out _).mono ?_
        rintro e y1 ⟨rfl, g1⟩
        go_simp
        have fd1 := fd.trans g1
        refine hK _ _ ⟨fd1, ?_⟩
        clear hK K fd g1
        repeat (first
          | (refine' wpPlan_free (v := _) rfl (by rfl) ?_ ?_
             rotate_left
             · (intro w'; skip; go_simp; try rfl)
             simp only [List.getElem_toArray, List.getElem_cons_zero, List.getElem_cons_succ, Act.put, List.setIfInBounds_toArray, List.set_cons_zero, List.set_cons_succ])
          | (refine' wpPlan_held (v := _) rfl (by rfl) (fun w' hS => held_of (LDK.out w' hS)) ?_
             simp only [List.getElem_toArray, List.getElem_cons_zero, List.getElem_cons_succ, Act.put, List.setIfInBounds_toArray, List.set_cons_zero, List.set_cons_succ])
          | (refine' wpPlan_held (v := _) rfl (by rfl) (fun w' hS => held_of (LDI.out w' hS)) ?_
             simp only [List.getElem_toArray, List.getElem_cons_zero, List.getElem_cons_succ, Act.put, List.setIfInBounds_toArray, List.set_cons_zero, List.set_cons_succ])
          | (refine' wpPlan_held (v := _) rfl (by rfl) ?_ ?_
             rotate_left
             · (intro w' hS; skip; have q0 := DC.out w' hS; have q1 := DK.out w' hS; clear hS; go_simp; try rfl)
             simp only [List.getElem_toArray, List.getElem_cons_zero, List.getElem_cons_succ, Act.put, List.setIfInBounds_toArray, List.set_cons_zero, List.set_cons_succ])
          | (refine' wpPlan_skip rfl (by rfl) ?_
             simp only [List.getElem_toArray, List.getElem_cons_zero, List.getElem_cons_succ, Act.put, List.setIfInBounds_toArray, List.set_cons_zero, List.set_cons_succ])
          | (refine' wpPlan_skipHeld rfl (by rfl) ?_
             simp only [List.getElem_toArray, List.getElem_cons_zero, List.getElem_cons_succ, Act.put, List.setIfInBounds_toArray, List.set_cons_zero, List.set_cons_succ]))
        refine wpPlan_end ?_
        simp only [wpSegs, List.drop_succ_cons, List.drop_zero]
        have FD := Lib.hid (HF1.out.trans fd1)
        clear fd1
        cases o2 with
        | true =>
          go_wp2_with fail
          go_ret
          exact ⟨by rw [HR.out, lBads_hit hlt HBAD.out]; rfl, F0.out.trans FD.out⟩
        | false =>
          go_wp2_with fail
          go_roundw
          case rel => exact ⟨j + 1, by omega, by go_num, FD.out, by rw [lBads_next hlt, HI.out.2, HBAD.out]; rfl⟩
          case measure => simp [intOf]; omega
      | false =>
        cases mu with
        | false =>
          replace HBAD := Lib.hid (show lBad d i l[i] j l[j] = false by rw [HBAD.out]; simp)
          go_wp2_with fail
          have fd : Fr Non wr wr.drew := (Fr.refl _ _).drew
          refine wp_draw [((fun y => Fr Non wr y), [(.free, 0), (.held, 1), (.free, 2), (.free, 3), (.held, 4), (.free, 5), (.free, 6), (.free, 7), (.free, 8), (.free, 9), (.held, 10), (.kept, 11), (.free, 12), (.free, 13), (.free, 14), (.free, 15), (.free, 16), (.held, 17), (.free, 18), (.free, 19), (.free, 20), (.held, 21), (.kept, 22), (.free, 23), (.free, 24), (.free, 25), (.held, 26), (.free, 27), (.free, 28), (.held, 29), (.free, 30), (.free, 31), (.free, 32), (.free, 33), (.held, 34), (.free, 35), (.free, 36), (.free, 37), (.held, 38), (.kept, 39), (.free, 40), (.free, 41)])] 42 (by kernel_rfl) (by kernel_rfl) (fun _ _ _ _ _ h => h) ⟨fd, ?_⟩
          generalize wr.drew = wd at fd ⊢
          repeat (first
            | (refine' wpPlan_free (v := _) rfl (by rfl) ?_ ?_
               rotate_left
               · (intro w'; skip; go_simp; try rfl)
               simp only [List.getElem_toArray, List.getElem_cons_zero, List.getElem_cons_succ, Act.put, List.setIfInBounds_toArray, List.set_cons_zero, List.set_cons_succ])
            | (refine' wpPlan_held (v := _) rfl (by rfl) (fun w' hS => held_of (LDK.out w' hS)) ?_
               simp only [List.getElem_toArray, List.getElem_cons_zero, List.getElem_cons_succ, Act.put, List.setIfInBounds_toArray, List.set_cons_zero, List.set_cons_succ])
            | (refine' wpPlan_held (v := _) rfl (by rfl) (fun w' hS => held_of (LDI.out w' hS)) ?_
               simp only [List.getElem_toArray, List.getElem_cons_zero, List.getElem_cons_succ, Act.put, List.setIfInBounds_toArray, List.set_cons_zero, List.set_cons_succ])
            | (refine' wpPlan_held (v := _) rfl (by rfl) ?_ ?_
               rotate_left
               · (intro w' hS; skip; have q0 := DC.out w' hS; have q1 := DK.out w' hS; clear hS; go_simp; try rfl)
               simp only [List.getElem_toArray, List.getElem_cons_zero, List.getElem_cons_succ, Act.put, List.setIfInBounds_toArray, List.set_cons_zero, List.set_cons_succ])
            | (refine' wpPlan_skip rfl (by rfl) ?_
               simp only [List.getElem_toArray, List.getElem_cons_zero, List.getElem_cons_succ, Act.put, List.setIfInBounds_toArray, List.set_cons_zero, List.set_cons_succ])
            | (refine' wpPlan_skipHeld rfl (by rfl) ?_
               simp only [List.getElem_toArray, List.getElem_cons_zero, List.getElem_cons_succ, Act.put, List.setIfInBounds_toArray, List.set_cons_zero, List.set_cons_succ]))
          refine' wpPlan_kept rfl ?_
          intro K hK
          go_simp
          refine (HM.out _).mono ?_
          rintro e y1 ⟨rfl, g1⟩
          go_simp
          have fd1 := fd.trans g1
          refine hK _ _ ⟨fd1, ?_⟩
          clear hK K fd g1
          repeat (first
            | (refine' wpPlan_free (v := _) rfl (by rfl) ?_ ?_
               rotate_left
               · (intro w'; skip; go_simp; try rfl)
               simp only [List.getElem_toArray, List.getElem_cons_zero, List.getElem_cons_succ, Act.put, List.setIfInBounds_toArray, List.set_cons_zero, List.set_cons_succ])
            | (refine' wpPlan_held (v := _) rfl (by rfl) (fun w' hS => held_of (LDK.out w' hS)) ?_
               simp only [List.getElem_toArray, List.getElem_cons_zero, List.getElem_cons_succ, Act.put, List.setIfInBounds_toArray, List.set_cons_zero, List.set_cons_succ])
            | (refine' wpPlan_held (v := _) rfl (by rfl) (fun w' hS => held_of (LDI.out w' hS)) ?_
               simp only [List.getElem_toArray, List.getElem_cons_zero, List.getElem_cons_succ, Act.put, List.setIfInBounds_toArray, List.set_cons_zero, List.set_cons_succ])
            | (refine' wpPlan_held (v := _) rfl (by rfl) ?_ ?_
               rotate_left
               · (intro w' hS; skip; have q0 := DC.out w' hS; have q1 := DK.out w' hS; clear hS; go_simp; try rfl)
               simp only [List.getElem_toArray, List.getElem_cons_zero, List.getElem_cons_succ, Act.put, List.setIfInBounds_toArray, List.set_cons_zero, List.set_cons_succ])
            | (refine' wpPlan_skip rfl (by rfl) ?_
               simp only [List.getElem_toArray, List.getElem_cons_zero, List.getElem_cons_succ, Act.put, List.setIfInBounds_toArray, List.set_cons_zero, List.set_cons_succ])
            | (refine' wpPlan_skipHeld rfl (by rfl) ?_
               simp only [List.getElem_toArray, List.getElem_cons_zero, List.getElem_cons_succ, Act.put, List.setIfInBounds_toArray, List.set_cons_zero, List.set_cons_succ]))
          refine' wpPlan_kept rfl ?_
          intro K hK
          go_simp
          refine hK _ _ ⟨fd1, ?_⟩
          clear hK K
          repeat (first
            | (refine' wpPlan_free (v := _) rfl (by rfl) ?_ ?_
               rotate_left
               · (intro w'; skip; go_simp; try rfl)
               simp only [List.getElem_toArray, List.getElem_cons_zero, List.getElem_cons_succ, Act.put, List.setIfInBounds_toArray, List.set_cons_zero, List.set_cons_succ])
            | (refine' wpPlan_held (v := _) rfl (by rfl) (fun w' hS => held_of (LDK.out w' hS)) ?_
               simp only [List.getElem_toArray, List.getElem_cons_zero, List.getElem_cons_succ, Act.put, List.setIfInBounds_toArray, List.set_cons_zero, List.set_cons_succ])
            | (refine' wpPlan_held (v := _) rfl (by rfl) (fun w' hS => held_of (LDI.out w' hS)) ?_
               simp only [List.getElem_toArray, List.getElem_cons_zero, List.getElem_cons_succ, Act.put, List.setIfInBounds_toArray, List.set_cons_zero, List.set_cons_succ])
            | (refine' wpPlan_held (v := _) rfl (by rfl) ?_ ?_
               rotate_left
               · (intro w' hS; skip; have q0 := DC.out w' hS; have q1 := DK.out w' hS; clear hS; go_simp; try rfl)
               simp only [List.getElem_toArray, List.getElem_cons_zero, List.getElem_cons_succ, Act.put, List.setIfInBounds_toArray, List.set_cons_zero, List.set_cons_succ])
            | (refine' wpPlan_skip rfl (by rfl) ?_
               simp only [List.getElem_toArray, List.getElem_cons_zero, List.getElem_cons_succ, Act.put, List.setIfInBounds_toArray, List.set_cons_zero, List.set_cons_succ])
            | (refine' wpPlan_skipHeld rfl (by rfl) ?_
               simp only [List.getElem_toArray, List.getElem_cons_zero, List.getElem_cons_succ, Act.put, List.setIfInBounds_toArray, List.set_cons_zero, List.set_cons_succ]))
          refine' wpPlan_kept rfl ?_
          intro K hK
          go_simp
          refine hK _ _ ⟨fd1, ?_⟩
          clear hK K
          repeat (first
            | (refine' wpPlan_free (v := _) rfl (by rfl) ?_ ?_
               rotate_left
               · (intro w'; skip; go_simp; try rfl)
               simp only [List.getElem_toArray, List.getElem_cons_zero, List.getElem_cons_succ, Act.put, List.setIfInBounds_toArray, List.set_cons_zero, List.set_cons_succ])
            | (refine' wpPlan_held (v := _) rfl (by rfl) (fun w' hS => held_of (LDK.out w' hS)) ?_
               simp only [List.getElem_toArray, List.getElem_cons_zero, List.getElem_cons_succ, Act.put, List.setIfInBounds_toArray, List.set_cons_zero, List.set_cons_succ])
            | (refine' wpPlan_held (v := _) rfl (by rfl) (fun w' hS => held_of (LDI.out w' hS)) ?_
               simp only [List.getElem_toArray, List.getElem_cons_zero, List.getElem_cons_succ, Act.put, List.setIfInBounds_toArray, List.set_cons_zero, List.set_cons_succ])
            | (refine' wpPlan_held (v := _) rfl (by rfl) ?_ ?_
               rotate_left
               · (intro w' hS; skip; have q0 := DC.out w' hS; have q1 := DK.out w' hS; clear hS; go_simp; try rfl)
               simp only [List.getElem_toArray, List.getElem_cons_zero, List.getElem_cons_succ, Act.put, List.setIfInBounds_toArray, List.set_cons_zero, List.set_cons_succ])
            | (refine' wpPlan_skip rfl (by rfl) ?_
               simp only [List.getElem_toArray, List.getElem_cons_zero, List.getElem_cons_succ, Act.put, List.setIfInBounds_toArray, List.set_cons_zero, List.set_cons_succ])
            | (refine' wpPlan_skipHeld rfl (by rfl) ?_
               simp only [List.getElem_toArray, List.getElem_cons_zero, List.getElem_cons_succ, Act.put, List.setIfInBounds_toArray, List.set_cons_zero, List.set_cons_succ]))
          refine wpPlan_end ?_
          simp only [wpSegs, List.drop_succ_cons, List.drop_zero]
          have FD := Lib.hid (HF1.out.trans fd1)
          clear fd1
          go_wp2_with fail
          go_roundw
          case rel => exact ⟨j + 1, by omega, by go_num, FD.out, by rw [lBads_next hlt, HI.out.2, HBAD.out]; rfl⟩
          case measure => simp [intOf]; omega
        | true =>
          replace HBAD := Lib.hid (show lBad d i l[i] j l[j] = o1 by
            rw [HBAD.out]
            by_cases e : j = i
            · rw [HJI.out e]; simp
            · simp [e])
          clear HJI
          cases o1 with
          | true =>
            go_wp2_with fail
            have fd : Fr Non wr wr.drew := (Fr.refl _ _).drew
            refine wp_draw [((fun y => Fr Non wr y), [(.free, 0), (.held, 1), (.free, 2), (.free, 3), (.held, 4), (.free, 5), (.free, 6), (.free, 7), (.free, 8), (.free, 9), (.held, 10), (.kept, 11), (.free, 12), (.free, 13), (.free, 14), (.free, 15), (.free, 16), (.held, 17), (.free, 18), (.free, 19), (.free, 20), (.held, 21), (.kept, 22), (.free, 23), (.free, 24), (.free, 25), (.held, 26), (.free, 27), (.free, 28), (.held, 29), (.free, 30), (.free, 31), (.free, 32), (.free, 33), (.held, 34), (.free, 35), (.free, 36), (.free, 37), (.held, 38), (.kept, 39), (.free, 40), (.free, 41)])] 42 (by kernel_rfl) (by kernel_rfl) (fun _ _ _ _ _ h => h) ⟨fd, ?_⟩
            generalize wr.drew = wd at fd ⊢
            repeat (first
              | (refine' wpPlan_free (v := _) rfl (by rfl) ?_ ?_
                 rotate_left
                 · (intro w'; skip; go_simp; try rfl)
                 simp only [List.getElem_toArray, List.getElem_cons_zero, List.getElem_cons_succ, Act.put, List.setIfInBounds_toArray, List.set_cons_zero, List.set_cons_succ])
              | (refine' wpPlan_held (v := _) rfl (by rfl) (fun w' hS => held_of (LDK.out w' hS)) ?_
                 simp only [List.getElem_toArray, List.getElem_cons_zero, List.getElem_cons_succ, Act.put, List.setIfInBounds_toArray, List.set_cons_zero, List.set_cons_succ])
              | (refine' wpPlan_held (v := _) rfl (by rfl) (fun w' hS => held_of (LDI.out w' hS)) ?_
                 simp only [List.getElem_toArray, List.getElem_cons_zero, List.getElem_cons_succ, Act.put, List.setIfInBounds_toArray, List.set_cons_zero, List.set_cons_succ])
              | (refine' wpPlan_held (v := _) rfl (by rfl) ?_ ?_
                 rotate_left
                 · (intro w' hS; skip; have q0 := DC.out w' hS; have q1 := DK.out w' hS; clear hS; go_simp; try rfl)
                 simp only [List.getElem_toArray, List.getElem_cons_zero, List.getElem_cons_succ, Act.put, List.setIfInBounds_toArray, List.set_cons_zero, List.set_cons_succ])
              | (refine' wpPlan_skip rfl (by rfl) ?_
                 simp only [List.getElem_toArray, List.getElem_cons_zero, List.getElem_cons_succ, Act.put, List.setIfInBounds_toArray, List.set_cons_zero, List.set_cons_succ])
              | (refine' wpPlan_skipHeld rfl (by rfl) ?_
                 simp only [List.getElem_toArray, List.getElem_cons_zero, List.getElem_cons_succ, Act.put, List.setIfInBounds_toArray, List.set_cons_zero, List.set_cons_succ]))
            refine' wpPlan_kept rfl ?_
            intro K hK
            go_simp
            refine (HM.out _).mono ?_
            rintro e y1 ⟨rfl, g1⟩
            go_simp
            have fd1 := fd.trans g1
            refine hK _ _ ⟨fd1, ?_⟩
            clear hK K fd g1
            repeat (first
              | (refine' wpPlan_free (v := _) rfl (by rfl) ?_ ?_
                 rotate_left
                 · (intro w'; skip; go_simp; try rfl)
                 simp only [List.getElem_toArray, List.getElem_cons_zero, List.getElem_cons_succ, Act.put, List.setIfInBounds_toArray, List.set_cons_zero, List.set_cons_succ])
              | (refine' wpPlan_held (v := _) rfl (by rfl) (fun w' hS => held_of (LDK.out w' hS)) ?_
                 simp only [List.getElem_toArray, List.getElem_cons_zero, List.getElem_cons_succ, Act.put, List.setIfInBounds_toArray, List.set_cons_zero, List.set_cons_succ])
              | (refine' wpPlan_held (v := _) rfl (by rfl) (fun w' hS => held_of (LDI.out w' hS)) ?_
                 simp only [List.getElem_toArray, List.getElem_cons_zero, List.getElem_cons_succ, Act.put, List.setIfInBounds_toArray, List.set_cons_zero, List.set_cons_succ])
              | (refine' wpPlan_held (v := _) rfl (by rfl) ?_ ?_
                 rotate_left
                 · (intro w' hS; skip; have q0 := DC.out w' hS; have q1 := DK.out w' hS; clear hS; go_simp; try rfl)
                 simp only [List.getElem_toArray, List.getElem_cons_zero, List.getElem_cons_succ, Act.put, List.setIfInBounds_toArray, List.set_cons_zero, List.set_cons_succ])
              | (refine' wpPlan_skip rfl (by rfl) ?_
                 simp only [List.getElem_toArray, List.getElem_cons_zero, List.getElem_cons_succ, Act.put, List.setIfInBounds_toArray, List.set_cons_zero, List.set_cons_succ])
              | (refine' wpPlan_skipHeld rfl (by rfl) ?_
                 simp only [List.getElem_toArray, List.getElem_cons_zero, List.getElem_cons_succ, Act.put, List.setIfInBounds_toArray, List.set_cons_zero, List.set_cons_succ]))
            refine' wpPlan_kept rfl ?_
            intro K hK
            go_simp
            refine (HO1.out _).mono ?_
            rintro e y2 ⟨rfl, g2⟩
            go_simp
            have fd2 := fd1.trans g2
            refine hK _ _ ⟨fd2, ?_⟩
            clear hK K fd1 g2
            repeat (first
              | (refine' wpPlan_free (v := _) rfl (by rfl) ?_ ?_
                 rotate_left
                 · (intro w'; skip; go_simp; try rfl)
                 simp only [List.getElem_toArray, List.getElem_cons_zero, List.getElem_cons_succ, Act.put, List.setIfInBounds_toArray, List.set_cons_zero, List.set_cons_succ])
              | (refine' wpPlan_held (v := _) rfl (by rfl) (fun w' hS => held_of (LDK.out w' hS)) ?_
                 simp only [List.getElem_toArray, List.getElem_cons_zero, List.getElem_cons_succ, Act.put, List.setIfInBounds_toArray, List.set_cons_zero, List.set_cons_succ])
              | (refine' wpPlan_held (v := _) rfl (by rfl) (fun w' hS => held_of (LDI.out w' hS)) ?_
                 simp only [List.getElem_toArray, List.getElem_cons_zero, List.getElem_cons_succ, Act.put, List.setIfInBounds_toArray, List.set_cons_zero, List.set_cons_succ])
              | (refine' wpPlan_held (v := _) rfl (by rfl) ?_ ?_
                 rotate_left
                 · (intro w' hS; skip; have q0 := DC.out w' hS; have q1 := DK.out w' hS; clear hS; go_simp; try rfl)
                 simp only [List.getElem_toArray, List.getElem_cons_zero, List.getElem_cons_succ, Act.put, List.setIfInBounds_toArray, List.set_cons_zero, List.set_cons_succ])
              | (refine' wpPlan_skip rfl (by rfl) ?_
                 simp only [List.getElem_toArray, List.getElem_cons_zero, List.getElem_cons_succ, Act.put, List.setIfInBounds_toArray, List.set_cons_zero, List.set_cons_succ])
              | (refine' wpPlan_skipHeld rfl (by rfl) ?_
                 simp only [List.getElem_toArray, List.getElem_cons_zero, List.getElem_cons_succ, Act.put, List.setIfInBounds_toArray, List.set_cons_zero, List.set_cons_succ]))
            refine' wpPlan_kept rfl ?_
            intro K hK
            go_simp
            refine hK _ _ ⟨fd2, ?_⟩
            clear hK K
            repeat (first
              | (refine' wpPlan_free (v := _) rfl (by rfl) ?_ ?_
                 rotate_left
                 · (intro w'; skip; go_simp; try rfl)
                 simp only [List.getElem_toArray, List.getElem_cons_zero, List.getElem_cons_succ, Act.put, List.setIfInBounds_toArray, List.set_cons_zero, List.set_cons_succ])
              | (refine' wpPlan_held (v := _) rfl (by rfl) (fun w' hS => held_of (LDK.out w' hS)) ?_
                 simp only [List.getElem_toArray, List.getElem_cons_zero, List.getElem_cons_succ, Act.put, List.setIfInBounds_toArray, List.set_cons_zero, List.set_cons_succ])
              | (refine' wpPlan_held (v := _) rfl (by rfl) (fun w' hS => held_of (LDI.out w' hS)) ?_
                 simp only [List.getElem_toArray, List.getElem_cons_zero, List.getElem_cons_succ, Act.put, List.setIfInBounds_toArray, List.set_cons_zero, List.set_cons_succ])
              | (refine' wpPlan_held (v := _) rfl (by rfl) ?_ ?_
                 rotate_left
                 · (intro w' hS; skip; have q0 := DC.out w' hS; have q1 := DK.out w' hS; clear hS; go_simp; try rfl)
                 simp only [List.getElem_toArray, List.getElem_cons_zero, List.getElem_cons_succ, Act.put, List.setIfInBounds_toArray, List.set_cons_zero, List.set_cons_succ])
              | (refine' wpPlan_skip rfl (by rfl) ?_
                 simp only [List.getElem_toArray, List.getElem_cons_zero, List.getElem_cons_succ, Act.put, List.setIfInBounds_toArray, List.set_cons_zero, List.set_cons_succ])
              | (refine' wpPlan_skipHeld rfl (by rfl) ?_
                 simp only [List.getElem_toArray, List.getElem_cons_zero, List.getElem_cons_succ, Act.put, List.setIfInBounds_toArray, List.set_cons_zero, List.set_cons_succ]))
            refine wpPlan_end ?_
            simp only [wpSegs, List.drop_succ_cons, List.drop_zero]
            have FD := Lib.hid (HF1.out.trans fd2)
            clear fd2
            go_wp2_with fail
            go_ret
            exact ⟨by rw [HR.out, lBads_hit hlt HBAD.out]; rfl, F0.out.trans FD.out⟩
          | false =>
            go_wp2_with fail
            have fd : Fr Non wr wr.drew := (Fr.refl _ _).drew
            refine wp_draw [((fun y => Fr Non wr y), [(.free, 0), (.held, 1), (.free, 2), (.free, 3), (.held, 4), (.free, 5), (.free, 6), (.free, 7), (.free, 8), (.free, 9), (.held, 10), (.kept, 11), (.free, 12), (.free, 13), (.free, 14), (.free, 15), (.free, 16), (.held, 17), (.free, 18), (.free, 19), (.free, 20), (.held, 21), (.kept, 22), (.free, 23), (.free, 24), (.free, 25), (.held, 26), (.free, 27), (.free, 28), (.held, 29), (.free, 30), (.free, 31), (.free, 32), (.free, 33), (.held, 34), (.free, 35), (.free, 36), (.free, 37), (.held, 38), (.kept, 39), (.free, 40), (.free, 41)])] 42 (by kernel_rfl) (by kernel_rfl) (fun _ _ _ _ _ h => h) ⟨fd, ?_⟩
            generalize wr.drew = wd at fd ⊢
            repeat (first
              | (refine' wpPlan_free (v := _) rfl (by rfl) ?_ ?_
                 rotate_left
                 · (intro w'; skip; go_simp; try rfl)
                 simp only [List.getElem_toArray, List.getElem_cons_zero, List.getElem_cons_succ, Act.put, List.setIfInBounds_toArray, List.set_cons_zero, List.set_cons_succ])
              | (refine' wpPlan_held (v := _) rfl (by rfl) (fun w' hS => held_of (LDK.out w' hS)) ?_
                 simp only [List.getElem_toArray, List.getElem_cons_zero, List.getElem_cons_succ, Act.put, List.setIfInBounds_toArray, List.set_cons_zero, List.set_cons_succ])
              | (refine' wpPlan_held (v := _) rfl (by rfl) (fun w' hS => held_of (LDI.out w' hS)) ?_
                 simp only [List.getElem_toArray, List.getElem_cons_zero, List.getElem_cons_succ, Act.put, List.setIfInBounds_toArray, List.set_cons_zero, List.set_cons_succ])
              | (refine' wpPlan_held (v := _) rfl (by rfl) ?_ ?_
                 rotate_left
                 · (intro w' hS; skip; have q0 := DC.out w' hS; have q1 := DK.out w' hS; clear hS; go_simp; try rfl)
                 simp only [List.getElem_toArray, List.getElem_cons_zero, List.getElem_cons_succ, Act.put, List.setIfInBounds_toArray, List.set_cons_zero, List.set_cons_succ])
              | (refine' wpPlan_skip rfl (by rfl) ?_
                 simp only [List.getElem_toArray, List.getElem_cons_zero, List.getElem_cons_succ, Act.put, List.setIfInBounds_toArray, List.set_cons_zero, List.set_cons_succ])
              | (refine' wpPlan_skipHeld rfl (by rfl) ?_
                 simp only [List.getElem_toArray, List.getElem_cons_zero, List.getElem_cons_succ, Act.put, List.setIfInBounds_toArray, List.set_cons_zero, List.set_cons_succ]))
            refine' wpPlan_kept rfl ?_
            intro K hK
            go_simp
            refine (HM.out _).mono ?_
            rintro e y1 ⟨rfl, g1⟩
            go_simp
            have fd1 := fd.trans g1
            refine hK _ _ ⟨fd1, ?_⟩
            clear hK K fd g1
            repeat (first
              | (refine' wpPlan_free (v := _) rfl (by rfl) ?_ ?_
                 rotate_left
                 · (intro w'; skip; go_simp; try rfl)
                 simp only [List.getElem_toArray, List.getElem_cons_zero, List.getElem_cons_succ, Act.put, List.setIfInBounds_toArray, List.set_cons_zero, List.set_cons_succ])
              | (refine' wpPlan_held (v := _) rfl (by rfl) (fun w' hS => held_of (LDK.out w' hS)) ?_
                 simp only [List.getElem_toArray, List.getElem_cons_zero, List.getElem_cons_succ, Act.put, List.setIfInBounds_toArray, List.set_cons_zero, List.set_cons_succ])
              | (refine' wpPlan_held (v := _) rfl (by rfl) (fun w' hS => held_of (LDI.out w' hS)) ?_
                 simp only [List.getElem_toArray, List.getElem_cons_zero, List.getElem_cons_succ, Act.put, List.setIfInBounds_toArray, List.set_cons_zero, List.set_cons_succ])
              | (refine' wpPlan_held (v := _) rfl (by rfl) ?_ ?_
                 rotate_left
                 · (intro w' hS; skip; have q0 := DC.out w' hS; have q1 := DK.out w' hS; clear hS; go_simp; try rfl)
                 simp only [List.getElem_toArray, List.getElem_cons_zero, List.getElem_cons_succ, Act.put, List.setIfInBounds_toArray, List.set_cons_zero, List.set_cons_succ])
              | (refine' wpPlan_skip rfl (by rfl) ?_
                 simp only [List.getElem_toArray, List.getElem_cons_zero, List.getElem_cons_succ, Act.put, List.setIfInBounds_toArray, List.set_cons_zero, List.set_cons_succ])
              | (refine' wpPlan_skipHeld rfl (by rfl) ?_
                 simp only [List.getElem_toArray, List.getElem_cons_zero, List.getElem_cons_succ, Act.put, List.setIfInBounds_toArray, List.set_cons_zero, List.set_cons_succ]))
            refine' wpPlan_kept rfl ?_
            intro K hK
            go_simp
            refine (HO1.out _).mono ?_
            rintro e y2 ⟨rfl, g2⟩
            go_simp
            have fd2 := fd1.trans g2
            refine hK _ _ ⟨fd2, ?_⟩
            clear hK K fd1 g2
            repeat (first
              | (refine' wpPlan_free (v := _) rfl (by rfl) ?_ ?_
                 rotate_left
                 · (intro w'; skip; go_simp; try rfl)
                 simp only [List.getElem_toArray, List.getElem_cons_zero, List.getElem_cons_succ, Act.put, List.setIfInBounds_toArray, List.set_cons_zero, List.set_cons_succ])
              | (refine' wpPlan_held (v := _) rfl (by rfl) (fun w' hS => held_of (LDK.out w' hS)) ?_
                 simp only [List.getElem_toArray, List.getElem_cons_zero, List.getElem_cons_succ, Act.put, List.setIfInBounds_toArray, List.set_cons_zero, List.set_cons_succ])
              | (refine' wpPlan_held (v := _) rfl (by rfl) (fun w' hS => held_of (LDI.out w' hS)) ?_
                 simp only [List.getElem_toArray, List.getElem_cons_zero, List.getElem_cons_succ, Act.put, List.setIfInBounds_toArray, List.set_cons_zero, List.set_cons_succ])
              | (refine' wpPlan_held (v := _) rfl (by rfl) ?_ ?_
                 rotate_left
                 · (intro w' hS; skip; have q0 := DC.out w' hS; have q1 := DK.out w' hS; clear hS; go_simp; try rfl)
                 simp only [List.getElem_toArray, List.getElem_cons_zero, List.getElem_cons_succ, Act.put, List.setIfInBounds_toArray, List.set_cons_zero, List.set_cons_succ])
              | (refine' wpPlan_skip rfl (by rfl) ?_
                 simp only [List.getElem_toArray, List.getElem_cons_zero, List.getElem_cons_succ, Act.put, List.setIfInBounds_toArray, List.set_cons_zero, List.set_cons_succ])
              | (refine' wpPlan_skipHeld rfl (by rfl) ?_
                 simp only [List.getElem_toArray, List.getElem_cons_zero, List.getElem_cons_succ, Act.put, List.setIfInBounds_toArray, List.set_cons_zero, List.set_cons_succ]))
            refine' wpPlan_kept rfl ?_
            intro K hK
            go_simp
            refine hK _ _ ⟨fd2, ?_⟩
            clear hK K
            repeat (first
              | (refine' wpPlan_free (v := _) rfl (by rfl) ?_ ?_
                 rotate_left
                 · (intro w'; skip; go_simp; try rfl)
                 simp only [List.getElem_toArray, List.getElem_cons_zero, List.getElem_cons_succ, Act.put, List.setIfInBounds_toArray, List.set_cons_zero, List.set_cons_succ])
              | (refine' wpPlan_held (v := _) rfl (by rfl) (fun w' hS => held_of (LDK.out w' hS)) ?_
                 simp only [List.getElem_toArray, List.getElem_cons_zero, List.getElem_cons_succ, Act.put, List.setIfInBounds_toArray, List.set_cons_zero, List.set_cons_succ])
              | (refine' wpPlan_held (v := _) rfl (by rfl) (fun w' hS => held_of (LDI.out w' hS)) ?_
                 simp only [List.getElem_toArray, List.getElem_cons_zero, List.getElem_cons_succ, Act.put, List.setIfInBounds_toArray, List.set_cons_zero, List.set_cons_succ])
              | (refine' wpPlan_held (v := _) rfl (by rfl) ?_ ?_
                 rotate_left
                 · (intro w' hS; skip; have q0 := DC.out w' hS; have q1 := DK.out w' hS; clear hS; go_simp; try rfl)
                 simp only [List.getElem_toArray, List.getElem_cons_zero, List.getElem_cons_succ, Act.put, List.setIfInBounds_toArray, List.set_cons_zero, List.set_cons_succ])
              | (refine' wpPlan_skip rfl (by rfl) ?_
                 simp only [List.getElem_toArray, List.getElem_cons_zero, List.getElem_cons_succ, Act.put, List.setIfInBounds_toArray, List.set_cons_zero, List.set_cons_succ])
              | (refine' wpPlan_skipHeld rfl (by rfl) ?_
                 simp only [List.getElem_toArray, List.getElem_cons_zero, List.getElem_cons_succ, Act.put, List.setIfInBounds_toArray, List.set_cons_zero, List.set_cons_succ]))
            refine wpPlan_end ?_
            simp only [wpSegs, List.drop_succ_cons, List.drop_zero]
            have FD := Lib.hid (HF1.out.trans fd2)
            clear fd2
            go_wp2_with fail
            go_roundw
            case rel => exact ⟨j + 1, by omega, by go_num, FD.out, by rw [lBads_next hlt, HI.out.2, HBAD.out]; rfl⟩
            case measure => simp [intOf]; omega
    · obtain rfl : j = l.length := by omega
      have HE := Lib.hid (show R = true by rw [HR.out]; have := HI.out.2; rw [List.take_of_length_le (by omega)] at this; rw [this]; rfl)
      go_wp2_with fail
      go_ret
      exact ⟨by rw [HE.out]; rfl, F0.out.trans HI.out.1⟩
set_option maxRecDepth 100000 in
set_option maxHeartbeats 4000000 in
theorem rall_any {w : World} {u dv lv : Value} {l : List MHap} (hl : Sl kHap All w u l) (d : Nat) (hdv : Sl kBool All w dv (lBits d l.length)) :
    Calls Try.prog 96 #[u, .agg #[dv, lv]] w fun e w' => e = .returned (.bool (lWhole l d)) ∧ Fr Non w w' := by
  obtain ⟨va, vc, rfl, _, hx, _⟩ := hl.frm
  obtain ⟨da, dc, rfl, _, hdx, _⟩ := hdv.frm
  unfold maxLen at hx hdx
  rw [lBits_len] at hdv ⊢
  obtain ⟨R, hR⟩ : ∃ R, lWhole l d = R := ⟨_, rfl⟩
  have HR := Lib.hid (show R = !lLack d 0 l from hR.symm)
  rw [hR]
  clear hR
  have f0 : Fr Non w (w.alloc (.cells #[.slice da l.length dc, lv] 143)) := (Fr.refl _ _).alloc _
  have bC := alloc_at w (.cells #[.slice da l.length dc, lv] 143)
  have HL := Lib.hid (hl.stay f0)
  have HDV := Lib.hid (hdv.stay f0)
  have F0 := Lib.hid f0
  have BC := Lib.hid bC
  clear hl hdv f0 bC
  go_enter Try.func96, Try.ntmps96
  go_wp2_with fail
  go_loopw [5] (fun v wr => ∃ (j : Nat), j ≤ l.length ∧ v = .int .i64 j ∧ Hid (Fr Non (w.alloc (.cells #[.slice da l.length dc, lv] 143)) wr ∧ lLack d 0 (l.take j) = false)) (fun v _ => l.length - (intOf v).toNat)
  case atStart => exact ⟨0, by omega, rfl, Fr.refl _ _, rfl⟩
  case round =>
    obtain ⟨j, hj, rfl, HI⟩ := hrel
    by_cases hlt : j < l.length
    · have f1 := HI.out.1
      obtain ⟨B1, O1, cs, e1, _, hV, _, hld⟩ := hap_held (HL.out.stay f1) j hlt
      subst e1
      obtain ⟨gb, go, e3, _, hdk⟩ := bool_held (HDV.out.stay f1) j hlt
      subst e3
      have j0 : (0 : Int) ≤ (j : Int) := by omega
      have j1 : (j : Int) < (l.length : Int) := by omega
      have LD1 := hld _ (Fr.refl _ _)
      have DK := Lib.hid hdk
      have BC1 := Lib.hid (f1.heap BC.out id)
      have HM := Lib.hid (fun (w' : World) => lrmust_any (w := w') hV)
      have HF := Lib.hid f1
      have HBAD := Lib.hid (show lLack d 0 (l.take (j + 1)) = (hSure l[j] && !d.testBit j) by rw [lLack_next hlt, HI.out.2]; rfl)
      have HHIT := Lib.hid (fun h1 h2 => lLack_hit (d := d) hlt h1 h2)
      obtain ⟨tb, htb⟩ : ∃ b, d.testBit j = b := ⟨_, rfl⟩
      obtain ⟨mu, hmu⟩ : ∃ b, hSure l[j] = b := ⟨_, rfl⟩
      rw [htb, hmu] at HBAD HHIT
      rw [htb] at DK
      rw [hmu] at HM
      obtain ⟨C, hCC⟩ : ∃ C, w.heap.size = C := ⟨_, rfl⟩
      rw [hCC] at BC1 ⊢
      clear htb hmu hV hld hdk f1 hCC
      go_wp2_with (refine wpList_load_v rfl 76 _ rfl _ rfl _ LD1 ?_)
      refine (HM.out _).mono ?_
      rintro e w3 ⟨rfl, f3⟩
      have FD := Lib.hid (HF.out.trans f3)
      have q0 := DK.out w3 f3
      have q1 : w3.cell? ⟨C, 0, none⟩ = some (.slice (some ⟨gb, go, none⟩) l.length dc) := by rw [(box_facts (f3.heap BC1.out id)).1]; rfl
      clear f3 LD1 DK
      cases mu with
      | false =>
        go_wp2_with fail
        go_roundw
        case rel => exact ⟨j + 1, by omega, by go_num, FD.out, by rw [HBAD.out]; rfl⟩
        case measure => simp [intOf]; omega
      | true =>
        cases tb with
        | true =>
          go_wp2_with fail
          go_roundw
          case rel => exact ⟨j + 1, by omega, by go_num, FD.out, by rw [HBAD.out]; rfl⟩
          case measure => simp [intOf]; omega
        | false =>
          have HE := Lib.hid (show R = false by rw [HR.out, HHIT.out rfl rfl]; rfl)
          go_wp2_with fail
          go_ret
          exact ⟨by rw [HE.out]; rfl, F0.out.trans FD.out⟩
    · obtain rfl : j = l.length := by omega
      have HE := Lib.hid (show R = true by rw [HR.out]; have := HI.out.2; rw [List.take_of_length_le (by omega)] at this; rw [this]; rfl)
      go_wp2_with fail
      go_ret
      exact ⟨by rw [HE.out]; rfl, F0.out.trans HI.out.1⟩
theorem lBits_zero (L : Nat) : lBits 0 L = List.replicate L false := by
  unfold lBits
  rw [show Nat.testBit 0 = fun _ => false from funext fun i => Nat.zero_testBit i, List.map_const', List.length_range]
end Go.Proofs.Ytplhcfaonhkegaa

namespace Go.Proofs.Ytplhcfaonhkegaa
open Go.RowKit Go.Maps

section
variable {P : Program} {ops : Array Oper} {Q : Exit → Act → World → Prop} {o : Oper} {rest : List Oper} {a : Act} {w w' : World}
theorem wpList_make_w (t : TypeId) (l c v : Value) (hr : (Instr.makeSlice t l c).run P w = .ok v w') (x y : Operand) (ho : o.op = .makeSlice t x y) (hx : a.eval x = l) (hy : a.eval y = c) (hw : Region.wanted o (yielded ops a.tmps) = true)
    (h : wpList P ops Q rest (a.put o.dst v) w') : wpList P ops Q (o :: rest) a w :=
  wpList_step fun K hK => by
    rw [if_pos hw]
    unfold Oper.wp execOp
    simp only [ho, hx, hy, Sem.run_bind, hr, Result.andThen_ok]
    exact hK _ _ h
end
/-- A state of the reference's. -/
def StV (w : World) (v : Value) (L d : Nat) (m : List MItem) : Prop := ∃ dv lv, v = .agg #[dv, lv] ∧ Sl kBool All w dv (lBits d L) ∧ Sl kItem All w lv m
theorem StV.fr {w w' : World} {v : Value} {L d : Nat} {m : List MItem} (h : StV w v L d m) (f : Fr Non w w') : StV w' v L d m := by
  obtain ⟨dv, lv, e, h1, h2⟩ := h
  exact ⟨dv, lv, e, h1.stay f, h2.stay f⟩
theorem bools_of {w : World} {b : Nat} {bs : List Bool} {t c : Nat} (h : w.heap[b]? = some (.cells (bs.map Value.bool).toArray 4 (t, c))) (hl : bs.length ≤ maxLen) : Sl kBool All w (.slice (some ⟨b, 0, none⟩) bs.length bs.length) bs := by
  by_cases h0 : bs = []
  · subst h0
    exact .inr ⟨_, _, rfl, Nat.le_refl _, hl, fun h => absurd rfl h, fun i hi => by simp at hi⟩
  refine .inr ⟨_, _, rfl, Nat.le_refl _, hl, fun _ => ⟨rfl, trivial⟩, fun i hi => ⟨[.bool bs[i]], rfl, fun j hj => ?_⟩⟩
  obtain rfl : j = 0 := by simpa using hj
  have hsz : kBool.sz = 1 := rfl
  rw [hsz]
  simp only [Nat.mul_one, Nat.add_zero, Nat.zero_add, List.getElem_cons_zero]
  unfold World.cell?
  rw [h]
  simp [hi]
set_option maxRecDepth 100000 in
theorem make141 (w : World) (L : Nat) (hL : L ≤ 100) : (Instr.makeSlice 141 (.int .i64 (L : Int)) (.int .i64 (L : Int))).run Try.prog w = .ok (.slice (some ⟨w.heap.size, 0, none⟩) L L) (w.alloc (.cells ((List.replicate L false).map Value.bool).toArray 4)) := by
  obtain ⟨i, hi, hz, hs, hb⟩ : ∃ i, Try.prog.info? 4 = some i ∧ i.zero = some (.bool false) ∧ i.size = 1 ∧ i.bytes = 1 := ⟨_, rfl, rfl, rfl, rfl⟩
  have := run_make (P := Try.prog) w 141 4 i (.bool false) rfl hi hz .i64 .i64 (L : Int) (L : Int) (by omega) (by omega) (by rw [hb]; omega) (by omega)
  rw [this, hs, Nat.mul_one, Int.toNat_natCast]
  have e : madeCells (Value.bool false).cells L = ((List.replicate L false).map Value.bool).toArray := by
    apply Array.ext
    · simp [madeCells]
    · intro j h1 h2
      have h3 : j % 1 = 0 := Nat.mod_one j
      simp [madeCells, Value.cells, h3]
  rw [e]
set_option maxRecDepth 100000 in
set_option maxHeartbeats 4000000 in
theorem begin_any (w : World) (L : Nat) (hL : L ≤ 100) : Calls Try.prog 93 #[.int .i64 L] w fun e w' => ∃ v, e = .returned v ∧ StV w' v L 0 [] ∧ Fr Non w w' := by
  have l0 : (0 : Int) ≤ (L : Int) := by omega
  have l1 : (L : Int) ≤ 100 := by omega
  have HM := Lib.hid (fun (w : World) => make141 w L hL)
  go_enter Try.func93, Try.ntmps93
  go_wp2_with (refine wpList_make_w 141 (.int .i64 L) (.int .i64 L) _ (HM.out _) _ _ rfl rfl rfl (by rfl) ?_)
  have g1 := alloc_at2 w (.cells #[.slice (some ⟨w.heap.size + 1, 0, none⟩) L L, .slice none 0 0] 143) (.cells (Array.replicate L (.bool false)) 4)
  have g2 := alloc_at2' w (.cells #[.slice (some ⟨w.heap.size + 1, 0, none⟩) L L, .slice none 0 0] 143) (.cells (Array.replicate L (.bool false)) 4)
  have ff : Fr Non w ((w.alloc (.cells #[.slice (some ⟨w.heap.size + 1, 0, none⟩) L L, .slice none 0 0] 143)).alloc (.cells (Array.replicate L (.bool false)) 4)) := ((Fr.refl _ _).alloc _).alloc _
  generalize ((w.alloc (.cells #[.slice (some ⟨w.heap.size + 1, 0, none⟩) L L, .slice none 0 0] 143)).alloc (.cells (Array.replicate L (.bool false)) 4)) = wz at g1 g2 ff ⊢
  refine bodyPost_ret (results_cell_row rfl _ _ w.heap.size 143 _ _ _ rfl g1 rfl rfl (by kernel_rfl)) rfl ⟨_, by rfl, ⟨_, _, rfl, ?_, .inl ⟨rfl, rfl⟩⟩, ff⟩
  rw [lBits_zero]
  have := bools_of (w := wz) (b := w.heap.size + 1) (bs := List.replicate L false) (t := 0) (c := 0) (by simpa using g2) (by rw [List.length_replicate]; unfold maxLen; omega)
  simpa using this
/-- One of a row, with its parts as they are loaded. -/
theorem hap_parts {S : Nat → Prop} {w : World} {a : Option Addr} {n c : Nat} {l : List MHap} (h : Sl kHap S w (.slice a n c) l) (i : Nat) (hi : i < l.length) :
    ∃ (b o : Nat) (cs : List Value) (a0 : Option Addr) (n0 : Nat) (a1 : Option Addr) (n1 : Nat) (a2 : Option Addr) (n2 : Nat), a = some ⟨b, o, none⟩ ∧ HapV S w (.agg cs.toArray) l[i] ∧ (0 ≤ l[i].1.2.1 ∧ l[i].1.2.1 ≤ 18446744073709551615) ∧
      Sl kByte S w (.slice a0 l[i].1.2.2.2.length n0) l[i].1.2.2.2 ∧ Sl kByte S w (.slice a1 l[i].2.1.2.2.1.length n1) l[i].2.1.2.2.1 ∧ Sl kItem S w (.slice a2 l[i].2.1.2.2.2.1.length n2) l[i].2.1.2.2.2.1 ∧
      ∀ y, Fr Non w y → (Instr.loadAt 76 (.pointer (some ⟨b, o + i * 23, none⟩))).run Try.prog y = .ok (.agg cs.toArray) y ∧
        (Instr.loadAt 39 (.pointer (some ⟨b, o + i * 23, none⟩))).run Try.prog y = .ok (.agg #[.int .i64 l[i].1.1, .int .u64 l[i].1.2.1, .int .u64 l[i].1.2.2.1, .slice a0 l[i].1.2.2.2.length n0]) y ∧
        (Instr.loadAt 52 (.pointer (some ⟨b, o + i * 23 + 4, none⟩))).run Try.prog y = .ok (.agg (resCells l[i].2.1 (.slice a1 l[i].2.1.2.2.1.length n1) (.slice a2 l[i].2.1.2.2.2.1.length n2)).toArray) y := by
  obtain ⟨b, o, cs, rfl, _, _, _, hr, hc⟩ := h.at i hi
  have hl : cs.length = 23 := kHap.len hr
  have hk := hap_key hr
  obtain ⟨a0, n0, a1, n1, a2, n2, e, h0, h1, h2⟩ := hap_cells hr
  have hcell : ∀ y, Fr Non w y → ∀ j v, cs[j]? = some v → y.cell? ⟨b, o + i * 23 + j, none⟩ = some v := fun y f j v hv => by
    obtain ⟨hj, rfl⟩ := List.getElem?_eq_some_iff.1 hv
    exact f.cell (hc j hj) id
  refine ⟨b, o, cs, a0, n0, a1, n1, a2, n2, rfl, ⟨a0, n0, a1, n1, a2, n2, by rw [e], h0, h1, h2⟩, hk, h0, h1, h2, fun y f => ⟨?_, ?_, ?_⟩⟩
  · exact run_loadAt_list _ _ Try.underlying76 rfl (by rw [hl]; kernel_rfl) (hcell y f)
  · refine run_loadAt_list [.int .i64 l[i].1.1, .int .u64 l[i].1.2.1, .int .u64 l[i].1.2.2.1, .slice a0 l[i].1.2.2.2.length n0] _ Try.underlying39 rfl (by kernel_rfl) fun j v hv => hcell y f j v ?_
    have hj : j < 4 := by have := (List.getElem?_eq_some_iff.1 hv).1; simpa using this
    rw [e]
    unfold hapCells
    rcases j with _ | _ | _ | _ | j
    · exact hv
    · exact hv
    · exact hv
    · exact hv
    · omega
  · refine run_loadAt_list (resCells l[i].2.1 (.slice a1 l[i].2.1.2.2.1.length n1) (.slice a2 l[i].2.1.2.2.2.1.length n2)) _ Try.underlying52 rfl (by kernel_rfl) fun j v hv => ?_
    have h4 := hcell y f (4 + j) v (by
      rw [e]
      unfold hapCells
      have hj := (List.getElem?_eq_some_iff.1 hv).1
      rw [List.append_assoc, List.getElem?_append_right (by simp)]
      simp only [List.length_cons, List.length_nil, Nat.reduceAdd, Nat.add_sub_cancel_left]
      rw [List.getElem?_append_left hj]
      exact hv)
    rw [show o + i * 23 + 4 + j = o + i * 23 + (4 + j) by omega]
    exact h4
theorem eI4 : ElemInfo Try.prog 141 4 1 1 := elemInfo (z := .bool false) Try.underlying141 (by kernel_rfl) rfl (by decide)
theorem bools_src {S : Nat → Prop} {w : World} {v : Value} {bs : List Bool} (h : Sl kBool S w v bs) : Src w 1 v bs.length (bs.map Value.bool) := by
  refine ⟨by simp, fun u hu => by obtain ⟨b, _, rfl⟩ := List.mem_map.1 hu; rfl, ?_⟩
  rcases h with ⟨rfl, rfl⟩ | ⟨a, c, rfl, h1, h2, h3, h4⟩
  · exact .inl ⟨rfl, rfl⟩
  · refine .inr ⟨a, c, rfl, fun j u hu => ?_⟩
    have hj : j < bs.length := by have := (List.getElem?_eq_some_iff.1 hu).1; simpa using this
    obtain ⟨cs, hr, hc⟩ := h4 j hj
    have e : cs = [.bool bs[j]] := hr
    subst e
    have hn : a.spot = none := (h3 (by rintro rfl; simp at hj)).1
    have := hc 0 (by simp)
    have hsz : kBool.sz = 1 := rfl
    rw [hsz] at this
    simp only [Nat.mul_one, Nat.add_zero, List.getElem_cons_zero] at this
    obtain ⟨b, o, sp⟩ := a
    simp only at hn this
    subst hn
    rw [addr_add', this]
    simpa [hj] using hu
theorem bools_at {w : World} {b n cap : Nat} {bs : List Bool} {cur : Array Value} (h : w.heap[b]? = some (.cells cur 4 (0, 0))) (ht : cur.toList.take n = bs.map Value.bool) (hl : bs.length = n) (hc : n ≤ cap) (hm : cap ≤ maxLen) : Sl kBool All w (.slice (some ⟨b, 0, none⟩) n cap) bs := by
  subst hl
  refine .inr ⟨_, _, rfl, hc, hm, fun _ => ⟨rfl, trivial⟩, fun i hi => ⟨[.bool bs[i]], rfl, fun j hj => ?_⟩⟩
  obtain rfl : j = 0 := by simpa using hj
  have hsz : kBool.sz = 1 := rfl
  rw [hsz]
  simp only [Nat.mul_one, Nat.add_zero, Nat.zero_add, List.getElem_cons_zero]
  rw [(box_facts h).1]
  have := congrArg (fun x => x[i]?) ht
  simp only [List.getElem?_take, hi, if_true, Array.getElem?_toList, List.getElem?_map] at this
  rw [this, List.getElem?_eq_getElem hi]
  rfl
theorem lBits_set (d i L : Nat) : ((lBits d L).map Value.bool).set i (.bool true) = (lBits (d ||| 2 ^ i) L).map Value.bool := by
  apply List.ext_getElem?
  intro k
  rw [List.getElem?_set]
  simp only [lBits, List.map_map, List.getElem?_map, List.length_map, List.length_range]
  by_cases hk : k < L
  · rw [List.getElem?_range hk]
    by_cases e : i = k
    · subst e
      rw [if_pos rfl, if_pos hk]
      simp
    · rw [if_neg e]
      simp [e]
  · rw [List.getElem?_eq_none (by simpa using hk)]
    by_cases e : i = k
    · subst e
      rw [if_pos rfl, if_neg hk]
      rfl
    · rw [if_neg e]
      rfl
/-- What is told of one that is done. -/
def DoneR (L d i : Nat) (m : List MItem) (x : MHap) (e : Ending) (w' : World) : Prop := match lAfter m x with
  | none => e = .returned (.tuple #[.agg #[.slice none 0 0, .slice none 0 0], .bool false])
  | some n => ∃ v, e = .returned (.tuple #[v, .bool true]) ∧ StV w' v L (d ||| 2 ^ i) n
/-- Behind the first part. -/
def CutD (W : World) (z : Nat) (d : List MItem × (MRes × Int)) (m p e : Value) (wx : World) : Prop := ∃ P xv yu yv, m = xv ∧ p = .pointer (some ⟨P, 0, none⟩) ∧ e = .int .i64 d.2.2 ∧
  wx.heap[P]? = some (.cells (resCells d.2.1 yu yv).toArray 52 (0, 0)) ∧ Sl kItem (fun b => b < z ∨ W.heap.size ≤ b) wx xv d.1 ∧ Sl kByte All wx yu d.2.1.2.2.1 ∧ Sl kItem All wx yv d.2.1.2.2.2.1 ∧ Fr Non W wx
set_option maxRecDepth 100000 in
set_option maxHeartbeats 4000000 in
theorem rdo24_any {w : World} {u dv lv : Value} {l : List MHap} {m : List MItem} (hl : Sl kHap All w u l) (hL : l.length ≤ 100) (d : Nat) (hdv : Sl kBool All w dv (lBits d l.length)) (hlv : Sl kItem All w lv m) (hml : m.length ≤ 80000) (i : Nat) (hi : i < l.length) :
    Calls Try.prog 95 #[u, .agg #[dv, lv], .int .i64 i] w fun e w' => DoneR l.length d i m l[i] e w' ∧ Fr Non w w' := by
  obtain ⟨va, vc, rfl, _, hx, _⟩ := hl.frm
  obtain ⟨da, dc, rfl, _, hdx, _⟩ := hdv.frm
  obtain ⟨ma, mc, rfl, _, hmx, _⟩ := hlv.frm
  unfold maxLen at hx hdx hmx
  rw [lBits_len] at hdv ⊢
  obtain ⟨gb, go, cs, a0, n0, a1, n1, a2, n2, rfl, hV, hk, h0, h1, h2, hld⟩ := hap_parts hl i hi
  have i0 : (0 : Int) ≤ (i : Int) := by omega
  have i2 : (i : Int) < (l.length : Int) := by omega
  obtain ⟨W, hW⟩ : ∃ W, ((w.alloc (.cells #[.slice da l.length dc, .slice ma m.length mc] 143)).alloc (.cells #[.slice none 0 0, .slice none 0 0] 143)) = W := ⟨_, rfl⟩
  have f0 : Fr Non w W := by rw [← hW]; exact ((Fr.refl _ _).alloc _).alloc _
  have b1 : W.heap[w.heap.size]? = some (.cells #[.slice da l.length dc, .slice ma m.length mc] 143 (0, 0)) := by rw [← hW]; exact alloc_at2 w _ _
  have b2 : W.heap[w.heap.size + 1]? = some (.cells #[.slice none 0 0, .slice none 0 0] 143 (0, 0)) := by rw [← hW]; exact alloc_at2' w _ _
  have HLD := Lib.hid (fun (y : World) (f : Fr Non W y) => hld y (f0.trans f))
  have HV := Lib.hid (hV.stay f0)
  have HSA := Lib.hid (And.intro (h1.stay f0) (h2.stay f0))
  have HDV := Lib.hid (hdv.stay f0)
  have HDO := Lib.hid (fun (y : World) (f : Fr Non W y) => rdo_any (hlv.there.stay (f0.trans f)) hml l[i].1.1 l[i].1.2.1 l[i].1.2.2.1 (h0.there.stay (f0.trans f)) hk)
  have F0 := Lib.hid f0
  have B1 := Lib.hid b1
  have B2 := Lib.hid b2
  obtain ⟨x, hxx⟩ : ∃ x, l[i] = x := ⟨_, rfl⟩
  rw [hxx] at HLD HV HSA HDO ⊢
  have HA := Lib.hid (show lAfter m x = if (mDo m x.1).2.2 = 0 ∧ (hSure x = true → (mDo m x.1).2.1 = x.2.1) then some (mDo m x.1).1 else none from rfl)
  obtain ⟨D1, hD1⟩ : ∃ D, w.heap.size = D := ⟨_, rfl⟩
  rw [hD1] at B1 B2 HDO
  replace HDO := Lib.hid (show ∀ (y : World), Fr Non W y → Calls Try.prog 39 #[.slice ma m.length mc, .agg #[.int .i64 x.1.1, .int .u64 x.1.2.1, .int .u64 x.1.2.2.1, .slice a0 x.1.2.2.2.length n0]] y fun e w' =>
      ∃ xv yv, e = .returned (.tuple #[xv, yv, .int .i64 (mDo m x.1).2.2]) ∧ Sl kItem (fun b => b < D1 ∨ y.heap.size ≤ b) w' xv (mDo m x.1).1 ∧ ResS (fun b => b < D1 ∨ y.heap.size ≤ b) w' yv (mDo m x.1).2.1 ∧ Fr Non y w' from fun y f => HDO.out y f)
  obtain ⟨D, hD⟩ : ∃ D, mDo m x.1 = D := ⟨_, rfl⟩
  rw [hD] at HDO HA
  have HD1 := Lib.hid hD1
  clear hxx hD hl hdv hlv hV h0 h1 h2 hld f0 b1 b2 hk hdx hmx
  go_enter Try.func95, Try.ntmps95
  go_wp2_with fail
  clear hW hD1
  go_upto_region 1 with (fail)
  go_cut [8, 9, 10] (fun m p e wx => Hid (CutD W D1 D m p e wx))
  case first =>
    go_wp2_with fail
    have fd : Fr Non W W.drew := (Fr.refl _ _).drew
    have q2 := fun (y : World) (f : Fr Non W y) => (box_facts (f.heap B1.out id)).1
    refine wp_drawT ((fun y => Fr Non W y)) (fun i => ([.free, .held, .free, .free, .free, .free, .held, .kept, .free, .free, .free, .free, .kept, .free, .last, .last] : List Way).getD i .last) (.soft .free 0 (.soft .held 1 (.soft .free 2 (.soft .free 3 (.soft .free 4 (.soft .free 5 (.soft .held 6 (.two 7 (.soft .free 8 (.soft .free 9 (.soft .free 10 (.soft .free 11 (.one 12 (.soft .free 13 .leaf)))))) 12 (.one 7 (.soft .free 8 (.soft .free 9 (.soft .free 10 (.soft .free 11 (.soft .free 13 .leaf)))))))))))))) 14 (by kernel_rfl) (by kernel_rfl) (fun _ _ _ _ _ h => h) ⟨fd, ?_⟩
    generalize W.drew = wd at fd ⊢
    repeat (first
      | (refine' wpTree_free (x := _) rfl (by rfl) ?_ ?_
         rotate_left
         · (intro w'; skip; go_simp; try rfl)
         simp only [List.getElem_toArray, List.getElem_cons_zero, List.getElem_cons_succ, Act.put, List.setIfInBounds_toArray, List.set_cons_zero, List.set_cons_succ])
      | (refine' wpTree_held (x := _) rfl (by rfl) (fun w' hS => held_of (HLD.out w' hS).2.1) ?_
         simp only [List.getElem_toArray, List.getElem_cons_zero, List.getElem_cons_succ, Act.put, List.setIfInBounds_toArray, List.set_cons_zero, List.set_cons_succ])
      | (refine' wpTree_held (x := _) rfl (by rfl) ?_ ?_
         rotate_left
         · (intro w' hS; skip; have q1 := q2 w' hS; clear hS; go_simp; try rfl)
         simp only [List.getElem_toArray, List.getElem_cons_zero, List.getElem_cons_succ, Act.put, List.setIfInBounds_toArray, List.set_cons_zero, List.set_cons_succ])
      | (refine' wpTree_skip rfl (by rfl) ?_
         simp only [List.getElem_toArray, List.getElem_cons_zero, List.getElem_cons_succ, Act.put, List.setIfInBounds_toArray, List.set_cons_zero, List.set_cons_succ])
      | (refine' wpTree_skipHeld rfl (by rfl) ?_
         simp only [List.getElem_toArray, List.getElem_cons_zero, List.getElem_cons_succ, Act.put, List.setIfInBounds_toArray, List.set_cons_zero, List.set_cons_succ]))
    refine wpTree_two ?_ ?_
    · skip
      refine' wpTree_one rfl ?_
      intro K hK
      go_simp
      refine (HDO.out _ fd).mono ?_
      rintro e w8 ⟨xv, yv, rfl, hx8, hy8, f8⟩
      obtain ⟨yu, yw, rfl, hyu, hyv, _, _, _⟩ := hy8
      obtain ⟨ys, hys⟩ : ∃ ys, resCells D.2.1 yu yw = ys := ⟨_, rfl⟩
      have hyl : ys.length = 15 := by rw [← hys]; rfl
      have hone : ∀ z ∈ ys, z.oneCell' = true := by
        obtain ⟨p1, p2, rfl, _⟩ := hyu.frm
        obtain ⟨p3, p4, rfl, _⟩ := hyv.frm
        rw [← hys]
        intro z hz
        simp only [resCells, refCells, List.cons_append, List.nil_append, List.mem_cons, List.not_mem_nil, or_false] at hz
        rcases hz with rfl | rfl | rfl | rfl | rfl | rfl | rfl | rfl | rfl | rfl | rfl | rfl | rfl | rfl | rfl <;> rfl
      have HX := Lib.hid hx8
      have HY := Lib.hid (And.intro hyu hyv)
      have HYS := Lib.hid hys
      have HYL := Lib.hid hyl
      have HONE := Lib.hid hone
      rw [hys]
      clear hx8 hyu hyv hys hyl hone
      go_simp
      refine hK _ _ ⟨fd.trans f8, ?_⟩
      clear hK K
      repeat (first
        | (refine' wpTree_free (x := _) rfl (by rfl) ?_ ?_
           rotate_left
           · (intro w'; go_simp; try rfl)
           simp only [List.getElem_toArray, List.getElem_cons_zero, List.getElem_cons_succ, Act.put, List.setIfInBounds_toArray, List.set_cons_zero, List.set_cons_succ])
        | (refine' wpTree_held (x := _) rfl (by rfl) ?_ ?_
           rotate_left
           · (intro w' hS; clear hS; go_simp; try rfl)
           simp only [List.getElem_toArray, List.getElem_cons_zero, List.getElem_cons_succ, Act.put, List.setIfInBounds_toArray, List.set_cons_zero, List.set_cons_succ])
        | (refine' wpTree_skip rfl (by rfl) ?_
           simp only [List.getElem_toArray, List.getElem_cons_zero, List.getElem_cons_succ, Act.put, List.setIfInBounds_toArray, List.set_cons_zero, List.set_cons_succ])
        | (refine' wpTree_skipHeld rfl (by rfl) ?_
           simp only [List.getElem_toArray, List.getElem_cons_zero, List.getElem_cons_succ, Act.put, List.setIfInBounds_toArray, List.set_cons_zero, List.set_cons_succ]))
      refine' wpTree_one rfl ?_
      intro K hK
      go_simp
      refine hK _ _ ⟨(fd.trans f8).alloc _, ?_⟩
      clear hK K
      repeat (first
        | (refine' wpTree_free (x := _) rfl (by rfl) ?_ ?_
           rotate_left
           · (intro w'; go_simp; try rfl)
           simp only [List.getElem_toArray, List.getElem_cons_zero, List.getElem_cons_succ, Act.put, List.setIfInBounds_toArray, List.set_cons_zero, List.set_cons_succ])
        | (refine' wpTree_held (x := _) rfl (by rfl) ?_ ?_
           rotate_left
           · (intro w' hS; clear hS; go_simp; try rfl)
           simp only [List.getElem_toArray, List.getElem_cons_zero, List.getElem_cons_succ, Act.put, List.setIfInBounds_toArray, List.set_cons_zero, List.set_cons_succ])
        | (refine' wpTree_skip rfl (by rfl) ?_
           simp only [List.getElem_toArray, List.getElem_cons_zero, List.getElem_cons_succ, Act.put, List.setIfInBounds_toArray, List.set_cons_zero, List.set_cons_succ])
        | (refine' wpTree_skipHeld rfl (by rfl) ?_
           simp only [List.getElem_toArray, List.getElem_cons_zero, List.getElem_cons_succ, Act.put, List.setIfInBounds_toArray, List.set_cons_zero, List.set_cons_succ]))
      refine wpTree_leaf ?_
      simp only [List.drop_succ_cons, List.drop_zero]
      have F8 := Lib.hid (fd.trans f8)
      have HWD := Lib.hid fd.size
      clear fd f8 HDO
      go_wp2_with (refine wpList_store_block rfl 52 _ _ rfl w8.heap.size 0 rfl (.agg ys.toArray) rfl _ 52 (alloc_at w8 _) ?hfit ?hinf ?hone ?_)
      case hinf => rw [show (Value.agg ys.toArray).cells.size = 15 by simp [Value.cells, HYL.out]]; kernel_rfl
      case hfit => simp [Value.cells, HYL.out]
      case hone => intro u hu; exact HONE.out u (by simpa [Value.cells] using hu)
      intro w9 hbx f9
      rw [putAt_whole _ _ (by simp [HYL.out])] at hbx
      have f10 : Fr Non w8 w9 := ((Fr.refl Non w8).alloc _).trans2 f9 (fun b hb he => by omega)
      clear f9
      go_wp2_with fail
      go_meet
      exact Lib.hid ⟨w8.heap.size, xv, yu, yw, rfl, rfl, rfl, by rw [HYS.out]; simpa [Value.cells] using hbx, (HX.out.stay f10).mono fun b _ hb => by have := HWD.out; omega, (HY.out.1.stay f10).mono fun _ _ _ => trivial, (HY.out.2.stay f10).mono fun _ _ _ => trivial, F8.out.trans f10⟩
    · skip
      refine' wpTree_one rfl ?_
      intro K hK
      go_simp
      refine hK _ _ ⟨fd.alloc _, ?_⟩
      clear hK K
      repeat (first
        | (refine' wpTree_free (x := _) rfl (by rfl) ?_ ?_
           rotate_left
           · (intro w'; go_simp; try rfl)
           simp only [List.getElem_toArray, List.getElem_cons_zero, List.getElem_cons_succ, Act.put, List.setIfInBounds_toArray, List.set_cons_zero, List.set_cons_succ])
        | (refine' wpTree_held (x := _) rfl (by rfl) ?_ ?_
           rotate_left
           · (intro w' hS; clear hS; go_simp; try rfl)
           simp only [List.getElem_toArray, List.getElem_cons_zero, List.getElem_cons_succ, Act.put, List.setIfInBounds_toArray, List.set_cons_zero, List.set_cons_succ])
        | (refine' wpTree_skip rfl (by rfl) ?_
           simp only [List.getElem_toArray, List.getElem_cons_zero, List.getElem_cons_succ, Act.put, List.setIfInBounds_toArray, List.set_cons_zero, List.set_cons_succ])
        | (refine' wpTree_skipHeld rfl (by rfl) ?_
           simp only [List.getElem_toArray, List.getElem_cons_zero, List.getElem_cons_succ, Act.put, List.setIfInBounds_toArray, List.set_cons_zero, List.set_cons_succ]))
      refine' wpTree_one rfl ?_
      intro K hK
      go_simp
      refine (HDO.out _ (fd.alloc _)).mono ?_
      rintro e w8 ⟨xv, yv, rfl, hx8, hy8, f8⟩
      obtain ⟨yu, yw, rfl, hyu, hyv, _, _, _⟩ := hy8
      obtain ⟨ys, hys⟩ : ∃ ys, resCells D.2.1 yu yw = ys := ⟨_, rfl⟩
      have hyl : ys.length = 15 := by rw [← hys]; rfl
      have hone : ∀ z ∈ ys, z.oneCell' = true := by
        obtain ⟨p1, p2, rfl, _⟩ := hyu.frm
        obtain ⟨p3, p4, rfl, _⟩ := hyv.frm
        rw [← hys]
        intro z hz
        simp only [resCells, refCells, List.cons_append, List.nil_append, List.mem_cons, List.not_mem_nil, or_false] at hz
        rcases hz with rfl | rfl | rfl | rfl | rfl | rfl | rfl | rfl | rfl | rfl | rfl | rfl | rfl | rfl | rfl <;> rfl
      have HX := Lib.hid hx8
      have HY := Lib.hid (And.intro hyu hyv)
      have HYS := Lib.hid hys
      have HYL := Lib.hid hyl
      have HONE := Lib.hid hone
      rw [hys]
      clear hx8 hyu hyv hys hyl hone
      go_simp
      refine hK _ _ ⟨(fd.alloc _).trans f8, ?_⟩
      clear hK K
      repeat (first
        | (refine' wpTree_free (x := _) rfl (by rfl) ?_ ?_
           rotate_left
           · (intro w'; go_simp; try rfl)
           simp only [List.getElem_toArray, List.getElem_cons_zero, List.getElem_cons_succ, Act.put, List.setIfInBounds_toArray, List.set_cons_zero, List.set_cons_succ])
        | (refine' wpTree_held (x := _) rfl (by rfl) ?_ ?_
           rotate_left
           · (intro w' hS; clear hS; go_simp; try rfl)
           simp only [List.getElem_toArray, List.getElem_cons_zero, List.getElem_cons_succ, Act.put, List.setIfInBounds_toArray, List.set_cons_zero, List.set_cons_succ])
        | (refine' wpTree_skip rfl (by rfl) ?_
           simp only [List.getElem_toArray, List.getElem_cons_zero, List.getElem_cons_succ, Act.put, List.setIfInBounds_toArray, List.set_cons_zero, List.set_cons_succ])
        | (refine' wpTree_skipHeld rfl (by rfl) ?_
           simp only [List.getElem_toArray, List.getElem_cons_zero, List.getElem_cons_succ, Act.put, List.setIfInBounds_toArray, List.set_cons_zero, List.set_cons_succ]))
      refine wpTree_leaf ?_
      simp only [List.drop_succ_cons, List.drop_zero]
      have F8 := Lib.hid ((fd.alloc _).trans f8)
      have BZ := Lib.hid (f8.heap (alloc_at wd _) id)
      have HSZ := Lib.hid fd.size
      clear fd f8 HDO
      go_wp2_with (refine wpList_store_block rfl 52 _ _ rfl wd.heap.size 0 rfl (.agg ys.toArray) rfl _ 52 BZ.out ?hfit ?hinf ?hone ?_)
      case hinf => rw [show (Value.agg ys.toArray).cells.size = 15 by simp [Value.cells, HYL.out]]; kernel_rfl
      case hfit => simp [Value.cells, HYL.out]
      case hone => intro u hu; exact HONE.out u (by simpa [Value.cells] using hu)
      intro w9 hbx f9
      rw [putAt_whole _ _ (by simp [HYL.out])] at hbx
      have hsz := HSZ.out
      have hap : ∀ b, b < w8.heap.size → (b < D1 ∨ (wd.alloc (.cells #[.int .i64 0, .int .u64 0, .slice none 0 0, .slice none 0 0, .int .i64 0, .int .i64 0, .int .u64 0, .int .i64 0, .int .u64 0, .int .i64 0, .int .i64 0, .int .u64 0, .int .i64 0, .int .u64 0, .bool false] 52)).heap.size ≤ b) → ¬ b = wd.heap.size := fun b _ hb => by
        simp only [World.size_alloc] at hb
        have := lt_of_block B2.out
        omega
      have HX9 := Lib.hid (HX.out.frame f9 hap)
      have HY9 := Lib.hid (And.intro (HY.out.1.frame f9 hap) (HY.out.2.frame f9 hap))
      have F9 := Lib.hid (F8.out.trans2 f9 (fun b hb he => by omega))
      clear hap f9 hsz
      go_wp2_with fail
      go_meet
      exact Lib.hid ⟨wd.heap.size, xv, yu, yw, rfl, rfl, rfl, by rw [HYS.out]; simpa [Value.cells] using hbx, HX9.out.mono fun b _ hb => by have := HSZ.out; simp only [World.size_alloc] at hb; omega, HY9.out.1.mono fun _ _ _ => trivial, HY9.out.2.mono fun _ _ _ => trivial, F9.out⟩
  case rest =>
    obtain ⟨P, xv, yu, yw, rfl, rfl, rfl, hb, hxv, hyu, hyv, hF⟩ := hcut.out
    obtain ⟨xa, xc, rfl, _⟩ := hxv.frm
    have HXV := Lib.hid hxv
    have HYU := Lib.hid (And.intro hyu hyv)
    have FX := Lib.hid hF
    have HPB := Lib.hid hb
    clear hcut hb hxv hyu hyv hF HDO
    obtain ⟨dn, dr, de⟩ := D
    simp only at HXV HYU HPB HA ⊢
    have fd : Fr Non wc wc.drew := (Fr.refl _ _).drew
    by_cases h0 : de = 0
    rotate_left
    · have g0 : (de != 0) = true := by simpa using h0
      have HN := Lib.hid (show lAfter m x = none by rw [HA.out, if_neg (fun h => h0 h.1)])
      go_wp2_with fail
      refine wp_draw [((fun y => Fr Non wc y), [(.free, 0), (.free, 1), (.free, 2), (.free, 3), (.free, 4), (.free, 5), (.held, 6), (.kept, 7), (.free, 8), (.held, 9), (.free, 10), (.free, 11), (.free, 12), (.free, 13), (.held, 14), (.kept, 15), (.free, 16), (.free, 17), (.free, 18)])] 19 (by kernel_rfl) (by kernel_rfl) (fun _ _ _ _ _ h => h) ⟨fd, ?_⟩
      generalize wc.drew = wd at fd ⊢
      repeat (first
        | (refine' wpPlan_free (v := _) rfl (by rfl) ?_ ?_
           rotate_left
           · (intro w'; skip; go_simp; try rfl)
           simp only [List.getElem_toArray, List.getElem_cons_zero, List.getElem_cons_succ, Act.put, List.setIfInBounds_toArray, List.set_cons_zero, List.set_cons_succ])
        | (refine' wpPlan_held (v := _) rfl (by rfl) ?_ ?_
           rotate_left
           · (intro w' hS; skip; clear hS; go_simp; try rfl)
           simp only [List.getElem_toArray, List.getElem_cons_zero, List.getElem_cons_succ, Act.put, List.setIfInBounds_toArray, List.set_cons_zero, List.set_cons_succ])
        | (refine' wpPlan_skip rfl (by rfl) ?_
           simp only [List.getElem_toArray, List.getElem_cons_zero, List.getElem_cons_succ, Act.put, List.setIfInBounds_toArray, List.set_cons_zero, List.set_cons_succ])
        | (refine' wpPlan_skipHeld rfl (by rfl) ?_
           simp only [List.getElem_toArray, List.getElem_cons_zero, List.getElem_cons_succ, Act.put, List.setIfInBounds_toArray, List.set_cons_zero, List.set_cons_succ]))
      refine' wpPlan_kept rfl ?_
      intro K hK
      go_simp
      refine hK _ _ ⟨fd, ?_⟩
      clear hK K
      repeat (first
        | (refine' wpPlan_free (v := _) rfl (by rfl) ?_ ?_
           rotate_left
           · (intro w'; skip; go_simp; try rfl)
           simp only [List.getElem_toArray, List.getElem_cons_zero, List.getElem_cons_succ, Act.put, List.setIfInBounds_toArray, List.set_cons_zero, List.set_cons_succ])
        | (refine' wpPlan_held (v := _) rfl (by rfl) ?_ ?_
           rotate_left
           · (intro w' hS; skip; clear hS; go_simp; try rfl)
           simp only [List.getElem_toArray, List.getElem_cons_zero, List.getElem_cons_succ, Act.put, List.setIfInBounds_toArray, List.set_cons_zero, List.set_cons_succ])
        | (refine' wpPlan_skip rfl (by rfl) ?_
           simp only [List.getElem_toArray, List.getElem_cons_zero, List.getElem_cons_succ, Act.put, List.setIfInBounds_toArray, List.set_cons_zero, List.set_cons_succ])
        | (refine' wpPlan_skipHeld rfl (by rfl) ?_
           simp only [List.getElem_toArray, List.getElem_cons_zero, List.getElem_cons_succ, Act.put, List.setIfInBounds_toArray, List.set_cons_zero, List.set_cons_succ]))
      refine' wpPlan_kept rfl ?_
      intro K hK
      go_simp
      refine hK _ _ ⟨fd, ?_⟩
      clear hK K
      repeat (first
        | (refine' wpPlan_free (v := _) rfl (by rfl) ?_ ?_
           rotate_left
           · (intro w'; skip; go_simp; try rfl)
           simp only [List.getElem_toArray, List.getElem_cons_zero, List.getElem_cons_succ, Act.put, List.setIfInBounds_toArray, List.set_cons_zero, List.set_cons_succ])
        | (refine' wpPlan_held (v := _) rfl (by rfl) ?_ ?_
           rotate_left
           · (intro w' hS; skip; clear hS; go_simp; try rfl)
           simp only [List.getElem_toArray, List.getElem_cons_zero, List.getElem_cons_succ, Act.put, List.setIfInBounds_toArray, List.set_cons_zero, List.set_cons_succ])
        | (refine' wpPlan_skip rfl (by rfl) ?_
           simp only [List.getElem_toArray, List.getElem_cons_zero, List.getElem_cons_succ, Act.put, List.setIfInBounds_toArray, List.set_cons_zero, List.set_cons_succ])
        | (refine' wpPlan_skipHeld rfl (by rfl) ?_
           simp only [List.getElem_toArray, List.getElem_cons_zero, List.getElem_cons_succ, Act.put, List.setIfInBounds_toArray, List.set_cons_zero, List.set_cons_succ]))
      refine wpPlan_end ?_
      simp only [wpSegs, List.drop_succ_cons, List.drop_zero]
      have FD := Lib.hid (FX.out.trans fd)
      clear fd
      have B2D := Lib.hid (FD.out.heap B2.out id)
      obtain ⟨q1, z1⟩ := box_facts B2D.out
      go_wp2_with fail
      have FE := Lib.hid (((F0.out.trans FD.out).setCell (p := ⟨D1 + 1, 0, none⟩) (.inr (by have := HD1.out; simp only; omega)) (.slice none 0 0)).setCell (p := ⟨D1 + 1, 1, none⟩) (.inr (by have := HD1.out; simp only; omega)) (.slice none 0 0))
      have g1 := heap_setCell_same _ _ 1 _ 143 (.slice none 0 0) (heap_setCell_same wd _ 0 _ 143 (.slice none 0 0) B2D.out)
      generalize (wd.setCell { block := D1 + 1, off := 0 } (Value.slice none 0 0)).setCell { block := D1 + 1, off := 1 } (Value.slice none 0 0) = wz at FE g1 ⊢
      have LZ := run_loadVar_row wz (D1 + 1) 143 143 _ (0, 0) _ g1 Try.underlying143 rfl (by kernel_rfl)
      clear q1 z1
      refine bodyPost_ret (v := .tuple #[.agg #[.slice none 0 0, .slice none 0 0], .bool false]) (by rw [results_cell_tmp rfl]; simp [asAddr, LZ]) rfl ⟨?_, FE.out⟩
      unfold DoneR
      rw [HN.out]

    subst h0
    obtain ⟨mu, hmu⟩ : ∃ b, hSure x = b := ⟨_, rfl⟩
    have HM := Lib.hid (fun (y : World) (f : Fr Non W y) => lrmust_any (w := y) (HV.out.stay f))
    rw [hmu] at HM HA
    clear hmu
    cases mu with
    | false =>
      have HN := Lib.hid (show lAfter m x = some dn by rw [HA.out, if_pos ⟨by trivial, fun h => by cases h⟩])
      go_wp2_with fail
      refine wp_draw [((fun y => Fr Non wc y), [(.free, 0), (.free, 1), (.free, 2), (.free, 3), (.free, 4), (.free, 5), (.held, 6), (.kept, 7), (.free, 8), (.held, 9), (.free, 10), (.free, 11), (.free, 12), (.free, 13), (.held, 14), (.kept, 15), (.free, 16), (.free, 17), (.free, 18)])] 19 (by kernel_rfl) (by kernel_rfl) (fun _ _ _ _ _ h => h) ⟨fd, ?_⟩
      generalize wc.drew = wd at fd ⊢
      repeat (first
        | (refine' wpPlan_free (v := _) rfl (by rfl) ?_ ?_
           rotate_left
           · (intro w'; skip; go_simp; try rfl)
           simp only [List.getElem_toArray, List.getElem_cons_zero, List.getElem_cons_succ, Act.put, List.setIfInBounds_toArray, List.set_cons_zero, List.set_cons_succ])
        | (refine' wpPlan_held (v := _) rfl (by rfl) (fun w' hS => held_of (HLD.out w' (FX.out.trans hS)).1) ?_
           simp only [List.getElem_toArray, List.getElem_cons_zero, List.getElem_cons_succ, Act.put, List.setIfInBounds_toArray, List.set_cons_zero, List.set_cons_succ])
        | (refine' wpPlan_held (v := _) rfl (by rfl) ?_ ?_
           rotate_left
           · (intro w' hS; skip; clear hS; go_simp; try rfl)
           simp only [List.getElem_toArray, List.getElem_cons_zero, List.getElem_cons_succ, Act.put, List.setIfInBounds_toArray, List.set_cons_zero, List.set_cons_succ])
        | (refine' wpPlan_skip rfl (by rfl) ?_
           simp only [List.getElem_toArray, List.getElem_cons_zero, List.getElem_cons_succ, Act.put, List.setIfInBounds_toArray, List.set_cons_zero, List.set_cons_succ])
        | (refine' wpPlan_skipHeld rfl (by rfl) ?_
           simp only [List.getElem_toArray, List.getElem_cons_zero, List.getElem_cons_succ, Act.put, List.setIfInBounds_toArray, List.set_cons_zero, List.set_cons_succ]))
      refine' wpPlan_kept rfl ?_
      intro K hK
      go_simp
      refine (HM.out _ (FX.out.trans fd)).mono ?_
      rintro e y1 ⟨rfl, g1⟩
      go_simp
      have fd1 := fd.trans g1
      refine hK _ _ ⟨fd1, ?_⟩
      clear hK K fd g1
      repeat (first
        | (refine' wpPlan_free (v := _) rfl (by rfl) ?_ ?_
           rotate_left
           · (intro w'; skip; go_simp; try rfl)
           simp only [List.getElem_toArray, List.getElem_cons_zero, List.getElem_cons_succ, Act.put, List.setIfInBounds_toArray, List.set_cons_zero, List.set_cons_succ])
        | (refine' wpPlan_held (v := _) rfl (by rfl) ?_ ?_
           rotate_left
           · (intro w' hS; skip; clear hS; go_simp; try rfl)
           simp only [List.getElem_toArray, List.getElem_cons_zero, List.getElem_cons_succ, Act.put, List.setIfInBounds_toArray, List.set_cons_zero, List.set_cons_succ])
        | (refine' wpPlan_skip rfl (by rfl) ?_
           simp only [List.getElem_toArray, List.getElem_cons_zero, List.getElem_cons_succ, Act.put, List.setIfInBounds_toArray, List.set_cons_zero, List.set_cons_succ])
        | (refine' wpPlan_skipHeld rfl (by rfl) ?_
           simp only [List.getElem_toArray, List.getElem_cons_zero, List.getElem_cons_succ, Act.put, List.setIfInBounds_toArray, List.set_cons_zero, List.set_cons_succ]))
      refine' wpPlan_kept rfl ?_
      intro K hK
      go_simp
      refine hK _ _ ⟨fd1, ?_⟩
      clear hK K
      repeat (first
        | (refine' wpPlan_free (v := _) rfl (by rfl) ?_ ?_
           rotate_left
           · (intro w'; skip; go_simp; try rfl)
           simp only [List.getElem_toArray, List.getElem_cons_zero, List.getElem_cons_succ, Act.put, List.setIfInBounds_toArray, List.set_cons_zero, List.set_cons_succ])
        | (refine' wpPlan_held (v := _) rfl (by rfl) ?_ ?_
           rotate_left
           · (intro w' hS; skip; clear hS; go_simp; try rfl)
           simp only [List.getElem_toArray, List.getElem_cons_zero, List.getElem_cons_succ, Act.put, List.setIfInBounds_toArray, List.set_cons_zero, List.set_cons_succ])
        | (refine' wpPlan_skip rfl (by rfl) ?_
           simp only [List.getElem_toArray, List.getElem_cons_zero, List.getElem_cons_succ, Act.put, List.setIfInBounds_toArray, List.set_cons_zero, List.set_cons_succ])
        | (refine' wpPlan_skipHeld rfl (by rfl) ?_
           simp only [List.getElem_toArray, List.getElem_cons_zero, List.getElem_cons_succ, Act.put, List.setIfInBounds_toArray, List.set_cons_zero, List.set_cons_succ]))
      refine wpPlan_end ?_
      simp only [wpSegs, List.drop_succ_cons, List.drop_zero]
      have FD := Lib.hid (FX.out.trans fd1)
      have HXD := Lib.hid (HXV.out.stay fd1)
      clear fd1
      have B1D := Lib.hid (FD.out.heap B1.out id)
      obtain ⟨q1, z1⟩ := box_facts B1D.out
      have hlt1 := lt_of_block B1D.out
      have HSRC := Lib.hid (show Src y1 1 (.slice da l.length dc) l.length ((lBits d l.length).map Value.bool) by have := bools_src (HDV.out.stay FD.out); rwa [lBits_len] at this)
      have HSZ := Lib.hid FD.out.size
      have HSW := Lib.hid (lt_of_block B2.out)
      go_wp2_with (at_builtin; refine wpList_append_g rfl _ _ eI4 rfl (.slice (some ⟨y1.heap.size, 0, none⟩) 0 0) 0 [] rfl ⟨rfl, .inr ⟨_, 0, #[], rfl, alloc_at y1 _, Nat.le_refl _, by unfold maxLen; omega, by simp, by simp⟩⟩ _ l.length _ rfl (HSRC.out.alloc _) ?k2 ?k3 ?_)
      case k2 => unfold maxLen; omega
      case k3 => omega
      intro v' w7 r1 r2 r3 _
      clear q1 z1
      have hne : l.length ≠ 0 := by omega
      obtain ⟨g, cap, cur, rfl, hg, hcap, hcm, _, htake⟩ := r1.2.resolve_left (fun h => hne h.2)
      rw [Nat.mul_one] at htake
      have hgw : y1.heap.size ≤ g := by
        rcases r3 with r3 | ⟨r3, _⟩
        · simp [Value.ownBlock] at r3; omega
        · simp [Value.ownBlock] at r3; omega
      have F7 := Lib.hid (((Fr.refl Non y1).alloc (.cells #[] 4)).trans2 r2 (fun b hb he => by simp [Value.ownBlock] at he; omega))
      have q5 : w7.cell? ⟨g, i, none⟩ = some (.bool (d.testBit i)) := by
        rw [(box_facts hg).1]
        have := congrArg (fun x => x[i]?) htake
        simp only [List.getElem?_take, hi, if_true, Array.getElem?_toList, List.getElem?_map] at this
        rw [this, List.getElem?_eq_getElem (by rw [lBits_len]; exact hi), lBits_get]
        rfl
      have z5 := (box_facts hg).2 i
      have B27 := F7.out.heap (FD.out.heap B2.out id) id
      obtain ⟨q1, z1⟩ := box_facts B27
      have hsw := HSW.out
      have hsz := HSZ.out
      have n1 : D1 + 1 < g := by omega
      have HG := Lib.hid hg
      have HTK := Lib.hid htake
      have HCP := Lib.hid (And.intro hcap hcm)
      have HB27 := Lib.hid B27
      have HGW := Lib.hid hgw
      clear r1 r2 r3 hg htake hcap hcm B27 hsw hsz hgw
      go_wp2_with fail
      have FE := Lib.hid (((((F0.out.trans FD.out).trans F7.out).setCell (p := ⟨g, i, none⟩) (.inr (by have := HD1.out; simp only; omega)) (.bool true)).setCell (p := ⟨D1 + 1, 0, none⟩) (.inr (by have := HD1.out; simp only; omega)) (.slice (some ⟨g, 0, none⟩) l.length cap)).setCell (p := ⟨D1 + 1, 1, none⟩) (.inr (by have := HD1.out; simp only; omega)) (.slice xa dn.length xc))
      have FG := Lib.hid (((((Fr.refl (fun b => b = g ∨ b = D1 + 1) w7).setCell (p := ⟨g, i, none⟩) (.inl (.inl rfl)) (.bool true)).setCell (p := ⟨D1 + 1, 0, none⟩) (.inl (.inr rfl)) (.slice (some ⟨g, 0, none⟩) l.length cap))).setCell (p := ⟨D1 + 1, 1, none⟩) (.inl (.inr rfl)) (.slice xa dn.length xc))
      have g2 := heap_setCell_same _ _ 1 _ 143 (.slice xa dn.length xc) (heap_setCell_same (w7.setCell ⟨g, i, none⟩ (.bool true)) _ 0 _ 143 (.slice (some ⟨g, 0, none⟩) l.length cap) ((Below.heap_setCell _ _ _ _ (by simp only; omega)).trans HB27.out))
      have g1 := (Below.heap_setCell ((w7.setCell ⟨g, i, none⟩ (.bool true)).setCell ⟨D1 + 1, 0, none⟩ (.slice (some ⟨g, 0, none⟩) l.length cap)) ⟨D1 + 1, 1, none⟩ (.slice xa dn.length xc) g (by simp only; omega)).trans ((Below.heap_setCell (w7.setCell ⟨g, i, none⟩ (.bool true)) ⟨D1 + 1, 0, none⟩ (.slice (some ⟨g, 0, none⟩) l.length cap) g (by simp only; omega)).trans (heap_setCell_same w7 g i cur 4 (.bool true) HG.out))
      generalize ((w7.setCell ⟨g, i, none⟩ (.bool true)).setCell ⟨D1 + 1, 0, none⟩ (.slice (some ⟨g, 0, none⟩) l.length cap)).setCell ⟨D1 + 1, 1, none⟩ (.slice xa dn.length xc) = wz at FE FG g1 g2 ⊢
      have LZ := run_loadVar_row wz (D1 + 1) 143 143 _ (0, 0) _ g2 Try.underlying143 rfl (by kernel_rfl)
      clear q1 z1 q5 z5
      refine bodyPost_ret (v := .tuple #[.agg #[.slice (some ⟨g, 0, none⟩) l.length cap, .slice xa dn.length xc], .bool true]) (by rw [results_cell_tmp rfl]; simp [asAddr, LZ]) rfl ⟨?_, FE.out⟩
      unfold DoneR
      rw [HN.out]
      refine ⟨_, rfl, _, _, rfl, ?_, ?_⟩
      · have hb := bools_at g1 (bs := lBits (d ||| 2 ^ i) l.length) (n := l.length) (cap := cap) (by rw [Array.toList_setIfInBounds, List.take_set, HTK.out, lBits_set]) (lBits_len _ _) HCP.out.1 HCP.out.2
        exact hb
      · exact ((HXD.out.frame (Fr.trans2 (show Fr (fun b => b = D1 + 1) y1 w7 from F7.out.mono fun _ _ h => h.elim) FG.out (fun b hb he => by have := HGW.out; rcases he with he | he <;> omega)) (fun b hb hs => by have := HSZ.out; have := HSW.out; omega)).mono fun _ _ _ => trivial)

    | true =>
      have HSR := Lib.hid (fun (y : World) (f : Fr Non wc y) => rsres_any (w := y) dr x.2.1 (HYU.out.1.stay f) (HYU.out.2.stay f) (HSA.out.1.stay (FX.out.trans f)) (HSA.out.2.stay (FX.out.trans f)))
      have LP := Lib.hid (fun (y : World) (f : Fr Non wc y) => box52 (f.heap HPB.out id) rfl)
      obtain ⟨xs, hxs⟩ : ∃ xs, resCells x.2.1 (.slice a1 x.2.1.2.2.1.length n1) (.slice a2 x.2.1.2.2.2.1.length n2) = xs := ⟨_, rfl⟩
      obtain ⟨ys, hys⟩ : ∃ ys, resCells dr yu yw = ys := ⟨_, rfl⟩
      rw [hxs] at HLD HSR
      rw [hys] at LP HSR
      clear hxs hys
      go_wp2_with fail
      refine wp_draw [((fun y => Fr Non wc y), [(.free, 0), (.free, 1), (.free, 2), (.free, 3), (.free, 4), (.free, 5), (.held, 6), (.kept, 7), (.free, 8), (.held, 9), (.free, 10), (.free, 11), (.free, 12), (.free, 13), (.held, 14), (.kept, 15), (.free, 16), (.free, 17), (.free, 18)])] 19 (by kernel_rfl) (by kernel_rfl) (fun _ _ _ _ _ h => h) ⟨fd, ?_⟩
      generalize wc.drew = wd at fd ⊢
      repeat (first
        | (refine' wpPlan_free (v := _) rfl (by rfl) ?_ ?_
           rotate_left
           · (intro w'; skip; go_simp; try rfl)
           simp only [List.getElem_toArray, List.getElem_cons_zero, List.getElem_cons_succ, Act.put, List.setIfInBounds_toArray, List.set_cons_zero, List.set_cons_succ])
        | (refine' wpPlan_held (v := _) rfl (by rfl) (fun w' hS => held_of (HLD.out w' (FX.out.trans hS)).1) ?_
           simp only [List.getElem_toArray, List.getElem_cons_zero, List.getElem_cons_succ, Act.put, List.setIfInBounds_toArray, List.set_cons_zero, List.set_cons_succ])
        | (refine' wpPlan_held (v := _) rfl (by rfl) ?_ ?_
           rotate_left
           · (intro w' hS; skip; clear hS; go_simp; try rfl)
           simp only [List.getElem_toArray, List.getElem_cons_zero, List.getElem_cons_succ, Act.put, List.setIfInBounds_toArray, List.set_cons_zero, List.set_cons_succ])
        | (refine' wpPlan_skip rfl (by rfl) ?_
           simp only [List.getElem_toArray, List.getElem_cons_zero, List.getElem_cons_succ, Act.put, List.setIfInBounds_toArray, List.set_cons_zero, List.set_cons_succ])
        | (refine' wpPlan_skipHeld rfl (by rfl) ?_
           simp only [List.getElem_toArray, List.getElem_cons_zero, List.getElem_cons_succ, Act.put, List.setIfInBounds_toArray, List.set_cons_zero, List.set_cons_succ]))
      refine' wpPlan_kept rfl ?_
      intro K hK
      go_simp
      refine (HM.out _ (FX.out.trans fd)).mono ?_
      rintro e y1 ⟨rfl, g1⟩
      go_simp
      have fd1 := fd.trans g1
      refine hK _ _ ⟨fd1, ?_⟩
      clear hK K fd g1
      repeat (first
        | (refine' wpPlan_free (v := _) rfl (by rfl) ?_ ?_
           rotate_left
           · (intro w'; skip; go_simp; try rfl)
           simp only [List.getElem_toArray, List.getElem_cons_zero, List.getElem_cons_succ, Act.put, List.setIfInBounds_toArray, List.set_cons_zero, List.set_cons_succ])
        | (refine' wpPlan_held (v := _) rfl (by rfl) (fun w' hS => held_of (LP.out w' hS)) ?_
           simp only [List.getElem_toArray, List.getElem_cons_zero, List.getElem_cons_succ, Act.put, List.setIfInBounds_toArray, List.set_cons_zero, List.set_cons_succ])
        | (refine' wpPlan_held (v := _) rfl (by rfl) (fun w' hS => held_of (HLD.out w' (FX.out.trans hS)).2.2) ?_
           simp only [List.getElem_toArray, List.getElem_cons_zero, List.getElem_cons_succ, Act.put, List.setIfInBounds_toArray, List.set_cons_zero, List.set_cons_succ])
        | (refine' wpPlan_held (v := _) rfl (by rfl) ?_ ?_
           rotate_left
           · (intro w' hS; skip; clear hS; go_simp; try rfl)
           simp only [List.getElem_toArray, List.getElem_cons_zero, List.getElem_cons_succ, Act.put, List.setIfInBounds_toArray, List.set_cons_zero, List.set_cons_succ])
        | (refine' wpPlan_skip rfl (by rfl) ?_
           simp only [List.getElem_toArray, List.getElem_cons_zero, List.getElem_cons_succ, Act.put, List.setIfInBounds_toArray, List.set_cons_zero, List.set_cons_succ])
        | (refine' wpPlan_skipHeld rfl (by rfl) ?_
           simp only [List.getElem_toArray, List.getElem_cons_zero, List.getElem_cons_succ, Act.put, List.setIfInBounds_toArray, List.set_cons_zero, List.set_cons_succ]))
      refine' wpPlan_kept rfl ?_
      intro K hK
      go_simp
      refine (HSR.out _ fd1).mono ?_
      rintro e y2 ⟨rfl, g2⟩
      go_simp
      have fd2 := fd1.trans g2
      refine hK _ _ ⟨fd2, ?_⟩
      clear hK K fd1 g2
      repeat (first
        | (refine' wpPlan_free (v := _) rfl (by rfl) ?_ ?_
           rotate_left
           · (intro w'; skip; go_simp; try rfl)
           simp only [List.getElem_toArray, List.getElem_cons_zero, List.getElem_cons_succ, Act.put, List.setIfInBounds_toArray, List.set_cons_zero, List.set_cons_succ])
        | (refine' wpPlan_held (v := _) rfl (by rfl) ?_ ?_
           rotate_left
           · (intro w' hS; skip; clear hS; go_simp; try rfl)
           simp only [List.getElem_toArray, List.getElem_cons_zero, List.getElem_cons_succ, Act.put, List.setIfInBounds_toArray, List.set_cons_zero, List.set_cons_succ])
        | (refine' wpPlan_skip rfl (by rfl) ?_
           simp only [List.getElem_toArray, List.getElem_cons_zero, List.getElem_cons_succ, Act.put, List.setIfInBounds_toArray, List.set_cons_zero, List.set_cons_succ])
        | (refine' wpPlan_skipHeld rfl (by rfl) ?_
           simp only [List.getElem_toArray, List.getElem_cons_zero, List.getElem_cons_succ, Act.put, List.setIfInBounds_toArray, List.set_cons_zero, List.set_cons_succ]))
      refine wpPlan_end ?_
      simp only [wpSegs, List.drop_succ_cons, List.drop_zero]
      by_cases hr : dr = x.2.1
      · have HN := Lib.hid (show lAfter m x = some dn by rw [HA.out, if_pos ⟨by trivial, fun _ => hr⟩])
        rw [decide_eq_true hr]
        have FD := Lib.hid (FX.out.trans fd2)
        have HXD := Lib.hid (HXV.out.stay fd2)
        clear fd2
        have B1D := Lib.hid (FD.out.heap B1.out id)
        obtain ⟨q1, z1⟩ := box_facts B1D.out
        have hlt1 := lt_of_block B1D.out
        have HSRC := Lib.hid (show Src y2 1 (.slice da l.length dc) l.length ((lBits d l.length).map Value.bool) by have := bools_src (HDV.out.stay FD.out); rwa [lBits_len] at this)
        have HSZ := Lib.hid FD.out.size
        have HSW := Lib.hid (lt_of_block B2.out)
        go_wp2_with (at_builtin; refine wpList_append_g rfl _ _ eI4 rfl (.slice (some ⟨y2.heap.size, 0, none⟩) 0 0) 0 [] rfl ⟨rfl, .inr ⟨_, 0, #[], rfl, alloc_at y2 _, Nat.le_refl _, by unfold maxLen; omega, by simp, by simp⟩⟩ _ l.length _ rfl (HSRC.out.alloc _) ?k2 ?k3 ?_)
        case k2 => unfold maxLen; omega
        case k3 => omega
        intro v' w7 r1 r2 r3 _
        clear q1 z1
        have hne : l.length ≠ 0 := by omega
        obtain ⟨g, cap, cur, rfl, hg, hcap, hcm, _, htake⟩ := r1.2.resolve_left (fun h => hne h.2)
        rw [Nat.mul_one] at htake
        have hgw : y2.heap.size ≤ g := by
          rcases r3 with r3 | ⟨r3, _⟩
          · simp [Value.ownBlock] at r3; omega
          · simp [Value.ownBlock] at r3; omega
        have F7 := Lib.hid (((Fr.refl Non y2).alloc (.cells #[] 4)).trans2 r2 (fun b hb he => by simp [Value.ownBlock] at he; omega))
        have q5 : w7.cell? ⟨g, i, none⟩ = some (.bool (d.testBit i)) := by
          rw [(box_facts hg).1]
          have := congrArg (fun x => x[i]?) htake
          simp only [List.getElem?_take, hi, if_true, Array.getElem?_toList, List.getElem?_map] at this
          rw [this, List.getElem?_eq_getElem (by rw [lBits_len]; exact hi), lBits_get]
          rfl
        have z5 := (box_facts hg).2 i
        have B27 := F7.out.heap (FD.out.heap B2.out id) id
        obtain ⟨q1, z1⟩ := box_facts B27
        have hsw := HSW.out
        have hsz := HSZ.out
        have n1 : D1 + 1 < g := by omega
        have HG := Lib.hid hg
        have HTK := Lib.hid htake
        have HCP := Lib.hid (And.intro hcap hcm)
        have HB27 := Lib.hid B27
        have HGW := Lib.hid hgw
        clear r1 r2 r3 hg htake hcap hcm B27 hsw hsz hgw
        go_wp2_with fail
        have FE := Lib.hid (((((F0.out.trans FD.out).trans F7.out).setCell (p := ⟨g, i, none⟩) (.inr (by have := HD1.out; simp only; omega)) (.bool true)).setCell (p := ⟨D1 + 1, 0, none⟩) (.inr (by have := HD1.out; simp only; omega)) (.slice (some ⟨g, 0, none⟩) l.length cap)).setCell (p := ⟨D1 + 1, 1, none⟩) (.inr (by have := HD1.out; simp only; omega)) (.slice xa dn.length xc))
        have FG := Lib.hid (((((Fr.refl (fun b => b = g ∨ b = D1 + 1) w7).setCell (p := ⟨g, i, none⟩) (.inl (.inl rfl)) (.bool true)).setCell (p := ⟨D1 + 1, 0, none⟩) (.inl (.inr rfl)) (.slice (some ⟨g, 0, none⟩) l.length cap))).setCell (p := ⟨D1 + 1, 1, none⟩) (.inl (.inr rfl)) (.slice xa dn.length xc))
        have g2 := heap_setCell_same _ _ 1 _ 143 (.slice xa dn.length xc) (heap_setCell_same (w7.setCell ⟨g, i, none⟩ (.bool true)) _ 0 _ 143 (.slice (some ⟨g, 0, none⟩) l.length cap) ((Below.heap_setCell _ _ _ _ (by simp only; omega)).trans HB27.out))
        have g1 := (Below.heap_setCell ((w7.setCell ⟨g, i, none⟩ (.bool true)).setCell ⟨D1 + 1, 0, none⟩ (.slice (some ⟨g, 0, none⟩) l.length cap)) ⟨D1 + 1, 1, none⟩ (.slice xa dn.length xc) g (by simp only; omega)).trans ((Below.heap_setCell (w7.setCell ⟨g, i, none⟩ (.bool true)) ⟨D1 + 1, 0, none⟩ (.slice (some ⟨g, 0, none⟩) l.length cap) g (by simp only; omega)).trans (heap_setCell_same w7 g i cur 4 (.bool true) HG.out))
        generalize ((w7.setCell ⟨g, i, none⟩ (.bool true)).setCell ⟨D1 + 1, 0, none⟩ (.slice (some ⟨g, 0, none⟩) l.length cap)).setCell ⟨D1 + 1, 1, none⟩ (.slice xa dn.length xc) = wz at FE FG g1 g2 ⊢
        have LZ := run_loadVar_row wz (D1 + 1) 143 143 _ (0, 0) _ g2 Try.underlying143 rfl (by kernel_rfl)
        clear q1 z1 q5 z5
        refine bodyPost_ret (v := .tuple #[.agg #[.slice (some ⟨g, 0, none⟩) l.length cap, .slice xa dn.length xc], .bool true]) (by rw [results_cell_tmp rfl]; simp [asAddr, LZ]) rfl ⟨?_, FE.out⟩
        unfold DoneR
        rw [HN.out]
        refine ⟨_, rfl, _, _, rfl, ?_, ?_⟩
        · have hb := bools_at g1 (bs := lBits (d ||| 2 ^ i) l.length) (n := l.length) (cap := cap) (by rw [Array.toList_setIfInBounds, List.take_set, HTK.out, lBits_set]) (lBits_len _ _) HCP.out.1 HCP.out.2
          exact hb
        · exact ((HXD.out.frame (Fr.trans2 (show Fr (fun b => b = D1 + 1) y2 w7 from F7.out.mono fun _ _ h => h.elim) FG.out (fun b hb he => by have := HGW.out; rcases he with he | he <;> omega)) (fun b hb hs => by have := HSZ.out; have := HSW.out; omega)).mono fun _ _ _ => trivial)
  
      · have HN := Lib.hid (show lAfter m x = none by rw [HA.out, if_neg (fun h => hr (h.2 (by trivial)))])
        rw [decide_eq_false hr]
        have FD := Lib.hid (FX.out.trans fd2)
        clear fd2
        have B2D := Lib.hid (FD.out.heap B2.out id)
        obtain ⟨q1, z1⟩ := box_facts B2D.out
        go_wp2_with fail
        have FE := Lib.hid (((F0.out.trans FD.out).setCell (p := ⟨D1 + 1, 0, none⟩) (.inr (by have := HD1.out; simp only; omega)) (.slice none 0 0)).setCell (p := ⟨D1 + 1, 1, none⟩) (.inr (by have := HD1.out; simp only; omega)) (.slice none 0 0))
        have g1 := heap_setCell_same _ _ 1 _ 143 (.slice none 0 0) (heap_setCell_same y2 _ 0 _ 143 (.slice none 0 0) B2D.out)
        generalize (y2.setCell { block := D1 + 1, off := 0 } (Value.slice none 0 0)).setCell { block := D1 + 1, off := 1 } (Value.slice none 0 0) = wz at FE g1 ⊢
        have LZ := run_loadVar_row wz (D1 + 1) 143 143 _ (0, 0) _ g1 Try.underlying143 rfl (by kernel_rfl)
        clear q1 z1
        refine bodyPost_ret (v := .tuple #[.agg #[.slice none 0 0, .slice none 0 0], .bool false]) (by rw [results_cell_tmp rfl]; simp [asAddr, LZ]) rfl ⟨?_, FE.out⟩
        unfold DoneR
        rw [HN.out]
  
end Go.Proofs.Ytplhcfaonhkegaa

namespace Go.Proofs.Ytplhcfaonhkegaa
open Go.RowKit Go.Maps

theorem noInt_st {w : World} {b : Nat} {a a' : Option Addr} {n c n' c' : Nat} (hb : w.heap[b]? = some (.cells #[.slice a n c, .slice a' n' c'] 143 (0, 0))) : ∀ x, x = b → NoInt w x := by
  rintro x rfl j q n hc
  rw [(box_facts hb).1] at hc
  match j with
  | 0 => cases hc
  | 1 => cases hc
  | j + 2 => simp at hc
theorem avoid_bool {w : World} {v : Value} {bs : List Bool} {b : Nat} {a a' : Option Addr} {n c n' c' : Nat} (h : Sl kBool All w v bs) (hb : w.heap[b]? = some (.cells #[.slice a n c, .slice a' n' c'] 143 (0, 0))) : Sl kBool (fun x => ¬ x = b) w v bs := by
  rcases h with h | ⟨⟨g, o, sp⟩, k, rfl, h1, h2, h3, h4⟩
  · exact .inl h
  · refine .inr ⟨_, k, rfl, h1, h2, fun hn => ?_, fun i hi => ?_⟩
    · have h5 := (h3 hn).1
      simp only at h5
      subst h5
      refine ⟨rfl, fun ht => ?_⟩
      simp only at ht
      subst ht
      have h0 : 0 < bs.length := by cases bs with | nil => exact absurd rfl hn | cons x xs => simp
      obtain ⟨cs, hr, hc⟩ := h4 0 h0
      have e : cs = [.bool (bs[0]'h0)] := hr
      subst e
      have q := hc 0 (by simp)
      rw [(box_facts hb).1] at q
      generalize o + 0 * kBool.sz + 0 = j at q
      match j with
      | 0 => cases q
      | 1 => cases q
      | j + 2 => simp at q
    · obtain ⟨cs, hr, hc⟩ := h4 i hi
      exact ⟨cs, hr, hc⟩
/-- What is told of one that is done, opened. -/
theorem DoneR.open {L d i : Nat} {m : List MItem} {x : MHap} {e : Ending} {w' : World} (h : DoneR L d i m x e w') : ∃ a1 n1 c1 a2 n2 c2 b, e = .returned (.tuple #[.agg #[.slice a1 n1 c1, .slice a2 n2 c2], .bool b]) ∧
    Hid (match lAfter m x with | none => b = false | some n => b = true ∧ Sl kBool All w' (.slice a1 n1 c1) (lBits (d ||| 2 ^ i) L) ∧ Sl kItem All w' (.slice a2 n2 c2) n) := by
  unfold DoneR at h
  cases ha : lAfter m x with
  | none =>
    rw [ha] at h
    exact ⟨_, _, _, _, _, _, _, h, Lib.hid rfl⟩
  | some n =>
    rw [ha] at h
    obtain ⟨v, rfl, dv, lv, rfl, h1, h2⟩ := h
    obtain ⟨a1, c1, rfl, _⟩ := h1.frm
    obtain ⟨a2, c2, rfl, _⟩ := h2.frm
    exact ⟨_, _, _, _, _, _, _, rfl, Lib.hid ⟨rfl, h1, h2⟩⟩
def DoneIn (L d i : Nat) (m : List MItem) (x : MHap) (a1 : Option Addr) (n1 c1 : Nat) (a2 : Option Addr) (n2 c2 : Nat) (b : Bool) (w' : World) : Prop :=
  match lAfter m x with | none => b = false | some n => b = true ∧ Sl kBool All w' (.slice a1 n1 c1) (lBits (d ||| 2 ^ i) L) ∧ Sl kItem All w' (.slice a2 n2 c2) n
theorem DoneIn.fr {L d i : Nat} {m : List MItem} {x : MHap} {a1 : Option Addr} {n1 c1 : Nat} {a2 : Option Addr} {n2 c2 : Nat} {b : Bool} {w w' : World} (h : DoneIn L d i m x a1 n1 c1 a2 n2 c2 b w) {g : Nat} {u u' : Option Addr} {p q p' q' : Nat}
    (hg : w.heap[g]? = some (.cells #[.slice u p q, .slice u' p' q'] 143 (0, 0))) (f : Fr (fun y => y = g) w w') : DoneIn L d i m x a1 n1 c1 a2 n2 c2 b w' := by
  unfold DoneIn at h ⊢
  cases ha : lAfter m x with
  | none => rw [ha] at h; exact h
  | some n =>
    rw [ha] at h
    obtain ⟨h1, h2, h3⟩ := h
    exact ⟨h1, ((avoid_bool h2 hg).frame f fun _ _ hn => hn).mono fun _ _ _ => trivial, ((avoid_item (T := fun y => y = g) h3 (noInt_st hg)).frame f fun _ _ hn => hn).mono fun _ _ _ => trivial⟩
theorem DoneIn.stay {L d i : Nat} {m : List MItem} {x : MHap} {a1 : Option Addr} {n1 c1 : Nat} {a2 : Option Addr} {n2 c2 : Nat} {b : Bool} {w w' : World} (h : DoneIn L d i m x a1 n1 c1 a2 n2 c2 b w) (f : Fr Non w w') : DoneIn L d i m x a1 n1 c1 a2 n2 c2 b w' := by
  unfold DoneIn at h ⊢
  cases ha : lAfter m x with
  | none => rw [ha] at h; exact h
  | some n =>
    rw [ha] at h
    exact ⟨h.1, h.2.1.stay f, h.2.2.stay f⟩
/-- Behind one that is done. -/
def CutF (W : World) (L d i : Nat) (m : List MItem) (x : MHap) (p b : Value) (wx : World) : Prop := ∃ D a1 n1 c1 a2 n2 c2 bb, p = .pointer (some ⟨D, 0, none⟩) ∧ b = .bool bb ∧
  wx.heap[D]? = some (.cells #[.slice a1 n1 c1, .slice a2 n2 c2] 143 (0, 0)) ∧ DoneIn L d i m x a1 n1 c1 a2 n2 c2 bb wx ∧ Fr Non W wx
theorem load143 {w : World} {D : Nat} {x y : Value} (h : w.heap[D]? = some (.cells #[x, y] 143 (0, 0))) : (Instr.loadAt 143 (.pointer (some ⟨D, 0, none⟩))).run Try.prog w = .ok (.agg #[x, y]) w := by
  have := run_loadAt_list (P := Try.prog) (w := w) (t := 143) (b := D) (o := 0) [x, y] _ Try.underlying143 rfl (by kernel_rfl) (fun j v hv => by
    rw [Nat.zero_add, (box_facts h).1]
    simpa using hv)
  simpa using this
set_option maxRecDepth 100000 in
set_option maxHeartbeats 4000000 in
theorem rfollows_any {w : World} {u ov : Value} {l : List MHap} {o : List Int} (hl : Sl kHap All w u l) (hlen : l.length ≤ 100) (ho : Sl kI All w ov o) (hol : o.length ≤ 100) :
    Calls Try.prog 62 #[u, ov] w fun e w' => e = .returned (.bool (lFollows l o)) ∧ Fr Non w w' := by
  obtain ⟨ua, uc, rfl, _⟩ := hl.frm
  obtain ⟨oa, oc, rfl, _, hoc, _⟩ := ho.frm
  unfold maxLen at hoc
  have HC := Lib.hid (lrcheck_any hl)
  have HL := Lib.hid hl
  have HO := Lib.hid ho
  clear hl ho
  obtain ⟨R, hR⟩ : ∃ R, lFollows l o = R := ⟨_, rfl⟩
  have HR := Lib.hid (show R = (decide (lCheck l = 0) && (match lRun l 0 [] o with | some x => lWhole l x.1 | none => false)) from hR.symm)
  rw [hR]
  clear hR
  go_enter Try.func62, Try.ntmps62
  go_wp2_with fail
  refine HC.out.mono ?_
  rintro e w1 ⟨rfl, f1⟩
  have F1 := Lib.hid f1
  clear f1 HC
  by_cases hc : lCheck l = 0
  rotate_left
  · have n0 : (lCheck l != 0) = true := by simpa using hc
    have HE := Lib.hid (show R = false by rw [HR.out, decide_eq_false hc]; rfl)
    obtain ⟨C, hC⟩ : ∃ C, lCheck l = C := ⟨_, rfl⟩
    rw [hC] at n0 ⊢
    clear hc hC HR
    go_wp2_with fail
    go_ret
    exact ⟨by rw [HE.out]; rfl, F1.out⟩
  have h64 := (lCheck_iff.1 hc).1
  have HMAY := Lib.hid (lCheck_iff.1 hc).2
  replace HR := Lib.hid (show R = (match lRun l 0 [] o with | some x => lWhole l x.1 | none => false) by rw [HR.out, decide_eq_true hc]; rfl)
  rw [hc]
  clear hc
  go_wp2_with fail
  refine (begin_any w1 l.length hlen).mono ?_
  rintro e w2 ⟨bv, rfl, ⟨dv, lv, rfl, hdv, hlv⟩, f2⟩
  obtain ⟨da, dc, rfl, _⟩ := hdv.frm
  obtain ⟨ma, mc, rfl, _⟩ := hlv.frm
  rw [lBits_len] at hdv ⊢
  have HDV := Lib.hid hdv
  have HLV := Lib.hid hlv
  have F2 := Lib.hid (F1.out.trans f2)
  clear hdv hlv f2 F1
  go_wp2_with fail
  obtain ⟨C, hC⟩ : ∃ C, w2.heap.size = C := ⟨_, rfl⟩
  have hCw : w.heap.size ≤ C := by rw [← hC]; exact F2.out.size
  have f3 : Fr Non w2 (w2.alloc (.cells #[.slice da l.length dc, .slice ma ([] : List MItem).length mc] 143)) := (Fr.refl _ _).alloc _
  have b3 := alloc_at w2 (.cells #[.slice da l.length dc, .slice ma ([] : List MItem).length mc] 143)
  rw [hC] at b3 ⊢
  generalize (w2.alloc (.cells #[.slice da l.length dc, .slice ma ([] : List MItem).length mc] 143)) = w4 at f3 b3 ⊢
  clear hC
  go_loopw [6] (fun iv wr => ∃ (d j : Nat) (m : List MItem) (da : Option Addr) (dc : Nat) (ma : Option Addr) (mc : Nat), j ≤ o.length ∧ iv = .int .i64 j ∧ Hid (Fr Non w wr ∧ wr.heap[C]? = some (.cells #[.slice da l.length dc, .slice ma m.length mc] 143 (0, 0)) ∧ Sl kBool All wr (.slice da l.length dc) (lBits d l.length) ∧ Sl kItem All wr (.slice ma m.length mc) m ∧ m.length ≤ j ∧ R = (match lRun l d m (o.drop j) with | some x => lWhole l x.1 | none => false))) (fun iv _ => o.length - (intOf iv).toNat)
  case atStart => exact ⟨0, 0, [], da, dc, ma, mc, by omega, rfl, F2.out.trans f3, b3, HDV.out.stay f3, HLV.out.stay f3, by simp, HR.out⟩
  case round =>
    clear HDV HLV HR f3 b3
    obtain ⟨d, j, m, da, dc, ma, mc, hj, rfl, HI⟩ := hrel
    have j0 : (0 : Int) ≤ (j : Int) := by omega
    obtain ⟨fw, hb, hdv, hm, hml, hRj⟩ := HI.out
    have FW := Lib.hid fw
    have HB := Lib.hid hb
    have HDV := Lib.hid hdv
    have HM := Lib.hid hm
    have HML := Lib.hid hml
    have HRJ := Lib.hid hRj
    clear fw hb hdv hm hml hRj HI
    have LC := Lib.hid (fun (y : World) (f : Fr Non wr y) => load143 (f.heap HB.out id))
    by_cases hlt : j < o.length
    · have j1 : (j : Int) < (o.length : Int) := by omega
      have HAT := Lib.hid (lRun_at (l := l) (d := d) (m := m) hlt)
      obtain ⟨b, a, cs, e, _, _, _, hr, hcs⟩ := (HO.out.stay FW.out).at j hlt
      cases e
      have e2 : cs = [.int .i64 o[j]] := hr.1
      have q0 := hcs 0 (by rw [e2]; simp)
      have hsz : kI.sz = 1 := rfl
      rw [hsz] at q0
      simp only [e2, Nat.mul_one, Nat.add_zero, List.getElem_cons_zero] at q0
      obtain ⟨x, hx⟩ : ∃ x, o[j] = x := ⟨_, rfl⟩
      rw [hx] at q0 HAT
      have Q0 := Lib.hid (fun (y : World) (f : Fr Non wr y) => f.cell q0 id)
      clear e2 hr hcs hsz hx q0
      have fd : Fr Non wr wr.drew := (Fr.refl _ _).drew
      by_cases hin : 0 ≤ x ∧ x < (l.length : Int)
      rotate_left
      · have HE := Lib.hid (show R = false by rw [HRJ.out, HAT.out, if_neg hin])
        by_cases hx0 : x < 0
        · have x6 : decide (x < 0) = true := decide_eq_true hx0
          go_wp2_with fail
          refine wp_draw [((fun y => Fr Non wr y), [(.free, 0), (.free, 1), (.free, 2), (.held, 3), (.free, 4), (.free, 5), (.free, 6), (.free, 7), (.free, 8), (.held, 9), (.free, 10), (.free, 11), (.free, 12), (.free, 13), (.free, 14), (.free, 15), (.held, 16), (.free, 17), (.free, 18), (.free, 19), (.held, 20), (.kept, 21), (.free, 22), (.free, 23)])] 24 (by kernel_rfl) (by kernel_rfl) (fun _ _ _ _ _ h => h) ⟨fd, ?_⟩
          generalize wr.drew = wd at fd ⊢
          repeat (first
            | (refine' wpPlan_free (v := _) rfl (by rfl) ?_ ?_
               rotate_left
               · (intro w'; skip; go_simp; try rfl)
               simp only [List.getElem_toArray, List.getElem_cons_zero, List.getElem_cons_succ, Act.put, List.setIfInBounds_toArray, List.set_cons_zero, List.set_cons_succ])
            | (refine' wpPlan_held (v := _) rfl (by rfl) ?_ ?_
               rotate_left
               · (intro w' hS; skip; have q0 := Q0.out w' hS; clear hS; go_simp; try rfl)
               simp only [List.getElem_toArray, List.getElem_cons_zero, List.getElem_cons_succ, Act.put, List.setIfInBounds_toArray, List.set_cons_zero, List.set_cons_succ])
            | (refine' wpPlan_skip rfl (by rfl) ?_
               simp only [List.getElem_toArray, List.getElem_cons_zero, List.getElem_cons_succ, Act.put, List.setIfInBounds_toArray, List.set_cons_zero, List.set_cons_succ])
            | (refine' wpPlan_skipHeld rfl (by rfl) ?_
               simp only [List.getElem_toArray, List.getElem_cons_zero, List.getElem_cons_succ, Act.put, List.setIfInBounds_toArray, List.set_cons_zero, List.set_cons_succ]))
          refine' wpPlan_kept rfl ?_
          intro K hK
          go_simp
          refine hK _ _ ⟨fd, ?_⟩
          clear hK K
          repeat (first
            | (refine' wpPlan_free (v := _) rfl (by rfl) ?_ ?_
               rotate_left
               · (intro w'; skip; go_simp; try rfl)
               simp only [List.getElem_toArray, List.getElem_cons_zero, List.getElem_cons_succ, Act.put, List.setIfInBounds_toArray, List.set_cons_zero, List.set_cons_succ])
            | (refine' wpPlan_held (v := _) rfl (by rfl) ?_ ?_
               rotate_left
               · (intro w' hS; skip; have q0 := Q0.out w' hS; clear hS; go_simp; try rfl)
               simp only [List.getElem_toArray, List.getElem_cons_zero, List.getElem_cons_succ, Act.put, List.setIfInBounds_toArray, List.set_cons_zero, List.set_cons_succ])
            | (refine' wpPlan_skip rfl (by rfl) ?_
               simp only [List.getElem_toArray, List.getElem_cons_zero, List.getElem_cons_succ, Act.put, List.setIfInBounds_toArray, List.set_cons_zero, List.set_cons_succ])
            | (refine' wpPlan_skipHeld rfl (by rfl) ?_
               simp only [List.getElem_toArray, List.getElem_cons_zero, List.getElem_cons_succ, Act.put, List.setIfInBounds_toArray, List.set_cons_zero, List.set_cons_succ]))
          refine wpPlan_end ?_
          simp only [wpSegs, List.drop_succ_cons, List.drop_zero]
          go_wp2_with fail
          go_ret
          exact ⟨by rw [HE.out]; rfl, FW.out.trans fd⟩
        · have hx1 : (l.length : Int) ≤ x := by omega
          have x6 : decide (x < 0) = false := decide_eq_false hx0
          have x7 : decide ((l.length : Int) ≤ x) = true := decide_eq_true hx1
          go_wp2_with fail
          refine wp_draw [((fun y => Fr Non wr y), [(.free, 0), (.free, 1), (.free, 2), (.held, 3), (.free, 4), (.free, 5), (.free, 6), (.free, 7), (.free, 8), (.held, 9), (.free, 10), (.free, 11), (.free, 12), (.free, 13), (.free, 14), (.free, 15), (.held, 16), (.free, 17), (.free, 18), (.free, 19), (.held, 20), (.kept, 21), (.free, 22), (.free, 23)])] 24 (by kernel_rfl) (by kernel_rfl) (fun _ _ _ _ _ h => h) ⟨fd, ?_⟩
          generalize wr.drew = wd at fd ⊢
          repeat (first
            | (refine' wpPlan_free (v := _) rfl (by rfl) ?_ ?_
               rotate_left
               · (intro w'; skip; go_simp; try rfl)
               simp only [List.getElem_toArray, List.getElem_cons_zero, List.getElem_cons_succ, Act.put, List.setIfInBounds_toArray, List.set_cons_zero, List.set_cons_succ])
            | (refine' wpPlan_held (v := _) rfl (by rfl) ?_ ?_
               rotate_left
               · (intro w' hS; skip; have q0 := Q0.out w' hS; clear hS; go_simp; try rfl)
               simp only [List.getElem_toArray, List.getElem_cons_zero, List.getElem_cons_succ, Act.put, List.setIfInBounds_toArray, List.set_cons_zero, List.set_cons_succ])
            | (refine' wpPlan_skip rfl (by rfl) ?_
               simp only [List.getElem_toArray, List.getElem_cons_zero, List.getElem_cons_succ, Act.put, List.setIfInBounds_toArray, List.set_cons_zero, List.set_cons_succ])
            | (refine' wpPlan_skipHeld rfl (by rfl) ?_
               simp only [List.getElem_toArray, List.getElem_cons_zero, List.getElem_cons_succ, Act.put, List.setIfInBounds_toArray, List.set_cons_zero, List.set_cons_succ]))
          refine' wpPlan_kept rfl ?_
          intro K hK
          go_simp
          refine hK _ _ ⟨fd, ?_⟩
          clear hK K
          repeat (first
            | (refine' wpPlan_free (v := _) rfl (by rfl) ?_ ?_
               rotate_left
               · (intro w'; skip; go_simp; try rfl)
               simp only [List.getElem_toArray, List.getElem_cons_zero, List.getElem_cons_succ, Act.put, List.setIfInBounds_toArray, List.set_cons_zero, List.set_cons_succ])
            | (refine' wpPlan_held (v := _) rfl (by rfl) ?_ ?_
               rotate_left
               · (intro w' hS; skip; have q0 := Q0.out w' hS; clear hS; go_simp; try rfl)
               simp only [List.getElem_toArray, List.getElem_cons_zero, List.getElem_cons_succ, Act.put, List.setIfInBounds_toArray, List.set_cons_zero, List.set_cons_succ])
            | (refine' wpPlan_skip rfl (by rfl) ?_
               simp only [List.getElem_toArray, List.getElem_cons_zero, List.getElem_cons_succ, Act.put, List.setIfInBounds_toArray, List.set_cons_zero, List.set_cons_succ])
            | (refine' wpPlan_skipHeld rfl (by rfl) ?_
               simp only [List.getElem_toArray, List.getElem_cons_zero, List.getElem_cons_succ, Act.put, List.setIfInBounds_toArray, List.set_cons_zero, List.set_cons_succ]))
          refine wpPlan_end ?_
          simp only [wpSegs, List.drop_succ_cons, List.drop_zero]
          go_wp2_with fail
          go_ret
          exact ⟨by rw [HE.out]; rfl, FW.out.trans fd⟩
      obtain ⟨q, rfl⟩ : ∃ q : Nat, x = (q : Int) := ⟨x.toNat, by omega⟩
      have hq : q < l.length := by omega
      have x0 : ¬ (q : Int) < 0 := by omega
      have x6 : decide ((q : Int) < 0) = false := decide_eq_false x0
      have x1 : ¬ (l.length : Int) ≤ (q : Int) := by omega
      have x2 : ¬ l.length ≤ q := by omega
      have x3 : (q : Int) < (l.length : Int) := by omega
      have x5 : (0 : Int) ≤ (q : Int) := by omega
      replace HAT := Lib.hid (show R = (match (match lStep l d m q with | none => none | some n => lRun l (d ||| 2 ^ q) n (o.drop (j + 1))) with | some x => lWhole l x.1 | none => false) by rw [HRJ.out, HAT.out, if_pos hin, Int.toNat_natCast] <;> cases lStep l d m q <;> rfl)
      rw [lStep_at hq] at HAT
      have HN := Lib.hid (fun (y : World) (f : Fr Non wr y) => rnext_any (lv := .slice ma m.length mc) (HL.out.stay (FW.out.trans f)) HMAY.out d (HDV.out.stay f) q hq)
      have HDO := Lib.hid (fun (y : World) (f : Fr Non wr y) => rdo24_any (HL.out.stay (FW.out.trans f)) hlen d (HDV.out.stay f) (HM.out.stay f) (by have := HML.out; omega) q hq)
      obtain ⟨nx, hnx⟩ : ∃ b, lNext l d q l[q] = b := ⟨_, rfl⟩
      obtain ⟨X, hX⟩ : ∃ X, l[q] = X := ⟨_, rfl⟩
      rw [hnx] at HAT HN
      rw [hX] at HAT HDO
      clear hnx hX HRJ hin
      go_wp2_with fail
      refine wp_draw [((fun y => Fr Non wr y), [(.free, 0), (.free, 1), (.free, 2), (.held, 3), (.free, 4), (.free, 5), (.free, 6), (.free, 7), (.free, 8), (.held, 9), (.free, 10), (.free, 11), (.free, 12), (.free, 13), (.free, 14), (.free, 15), (.held, 16), (.free, 17), (.free, 18), (.free, 19), (.held, 20), (.kept, 21), (.free, 22), (.free, 23)])] 24 (by kernel_rfl) (by kernel_rfl) (fun _ _ _ _ _ h => h) ⟨fd, ?_⟩
      generalize wr.drew = wd at fd ⊢
      repeat (first
        | (refine' wpPlan_free (v := _) rfl (by rfl) ?_ ?_
           rotate_left
           · (intro w'; skip; go_simp; try rfl)
           simp only [List.getElem_toArray, List.getElem_cons_zero, List.getElem_cons_succ, Act.put, List.setIfInBounds_toArray, List.set_cons_zero, List.set_cons_succ])
        | (refine' wpPlan_held (v := _) rfl (by rfl) (fun w' hS => held_of (LC.out w' hS)) ?_
           simp only [List.getElem_toArray, List.getElem_cons_zero, List.getElem_cons_succ, Act.put, List.setIfInBounds_toArray, List.set_cons_zero, List.set_cons_succ])
        | (refine' wpPlan_held (v := _) rfl (by rfl) ?_ ?_
           rotate_left
           · (intro w' hS; skip; have q0 := Q0.out w' hS; clear hS; go_simp; try rfl)
           simp only [List.getElem_toArray, List.getElem_cons_zero, List.getElem_cons_succ, Act.put, List.setIfInBounds_toArray, List.set_cons_zero, List.set_cons_succ])
        | (refine' wpPlan_skip rfl (by rfl) ?_
           simp only [List.getElem_toArray, List.getElem_cons_zero, List.getElem_cons_succ, Act.put, List.setIfInBounds_toArray, List.set_cons_zero, List.set_cons_succ])
        | (refine' wpPlan_skipHeld rfl (by rfl) ?_
           simp only [List.getElem_toArray, List.getElem_cons_zero, List.getElem_cons_succ, Act.put, List.setIfInBounds_toArray, List.set_cons_zero, List.set_cons_succ]))
      refine' wpPlan_kept rfl ?_
      intro K hK
      go_simp
      refine (HN.out _ fd).mono ?_
      rintro e y1 ⟨rfl, g1⟩
      go_simp
      have fd1 := fd.trans g1
      refine hK _ _ ⟨fd1, ?_⟩
      clear hK K fd g1
      repeat (first
        | (refine' wpPlan_free (v := _) rfl (by rfl) ?_ ?_
           rotate_left
           · (intro w'; skip; go_simp; try rfl)
           simp only [List.getElem_toArray, List.getElem_cons_zero, List.getElem_cons_succ, Act.put, List.setIfInBounds_toArray, List.set_cons_zero, List.set_cons_succ])
        | (refine' wpPlan_held (v := _) rfl (by rfl) ?_ ?_
           rotate_left
           · (intro w' hS; skip; clear hS; go_simp; try rfl)
           simp only [List.getElem_toArray, List.getElem_cons_zero, List.getElem_cons_succ, Act.put, List.setIfInBounds_toArray, List.set_cons_zero, List.set_cons_succ])
        | (refine' wpPlan_skip rfl (by rfl) ?_
           simp only [List.getElem_toArray, List.getElem_cons_zero, List.getElem_cons_succ, Act.put, List.setIfInBounds_toArray, List.set_cons_zero, List.set_cons_succ])
        | (refine' wpPlan_skipHeld rfl (by rfl) ?_
           simp only [List.getElem_toArray, List.getElem_cons_zero, List.getElem_cons_succ, Act.put, List.setIfInBounds_toArray, List.set_cons_zero, List.set_cons_succ]))
      refine wpPlan_end ?_
      simp only [wpSegs, List.drop_succ_cons, List.drop_zero]
      cases nx with
      | false =>
        have HE := Lib.hid (show R = false by rw [HAT.out]; rfl)
        go_wp2_with fail
        go_ret
        exact ⟨by rw [HE.out]; rfl, FW.out.trans fd1⟩
      | true =>
      go_upto_region 9 with (fail)
      go_cut [7, 8] (fun p b wx => Hid (CutF wr l.length d q m X p b wx))
      case first =>
        go_wp2_with fail
        have fd : Fr Non wr y1.drew := fd1.drew
        refine wp_drawT ((fun y => Fr Non wr y)) (fun i => ([.free, .held, .free, .free, .free, .held, .kept, .free, .free, .free, .kept, .kept, .free] : List Way).getD i .last) (.soft .free 0 (.soft .held 1 (.soft .free 2 (.soft .free 3 (.soft .free 4 (.soft .held 5 (.two 6 (.soft .free 7 (.soft .free 8 (.soft .free 9 (.one 10 (.one 11 (.soft .free 12 .leaf)))))) 10 (.one 6 (.soft .free 7 (.soft .free 8 (.soft .free 9 (.one 11 (.soft .free 12 .leaf))))))))))))) 13 (by kernel_rfl) (by kernel_rfl) (fun _ _ _ _ _ h => h) ⟨fd, ?_⟩
        generalize y1.drew = wd at fd ⊢
        repeat (first
          | (refine' wpTree_free (x := _) rfl (by rfl) ?_ ?_
             rotate_left
             · (intro w'; skip; go_simp; try rfl)
             simp only [List.getElem_toArray, List.getElem_cons_zero, List.getElem_cons_succ, Act.put, List.setIfInBounds_toArray, List.set_cons_zero, List.set_cons_succ])
          | (refine' wpTree_held (x := _) rfl (by rfl) (fun w' hS => held_of (LC.out w' hS)) ?_
             simp only [List.getElem_toArray, List.getElem_cons_zero, List.getElem_cons_succ, Act.put, List.setIfInBounds_toArray, List.set_cons_zero, List.set_cons_succ])
          | (refine' wpTree_held (x := _) rfl (by rfl) ?_ ?_
             rotate_left
             · (intro w' hS; skip; have q0 := Q0.out w' hS; clear hS; go_simp; try rfl)
             simp only [List.getElem_toArray, List.getElem_cons_zero, List.getElem_cons_succ, Act.put, List.setIfInBounds_toArray, List.set_cons_zero, List.set_cons_succ])
          | (refine' wpTree_skip rfl (by rfl) ?_
             simp only [List.getElem_toArray, List.getElem_cons_zero, List.getElem_cons_succ, Act.put, List.setIfInBounds_toArray, List.set_cons_zero, List.set_cons_succ])
          | (refine' wpTree_skipHeld rfl (by rfl) ?_
             simp only [List.getElem_toArray, List.getElem_cons_zero, List.getElem_cons_succ, Act.put, List.setIfInBounds_toArray, List.set_cons_zero, List.set_cons_succ]))
        refine wpTree_two ?_ ?_
        · skip
          refine' wpTree_one rfl ?_
          intro K hK
          go_simp
          refine (HDO.out _ fd).mono ?_
          rintro e w8 ⟨hd8, f8⟩
          obtain ⟨a1, n1, c1, a2, n2, c2, bb, rfl, hh⟩ := hd8.open
          have HH := Lib.hid (show DoneIn l.length d q m X a1 n1 c1 a2 n2 c2 bb w8 from hh.out)
          clear hd8 hh
          go_simp
          refine hK _ _ ⟨fd.trans f8, ?_⟩
          clear hK K
          repeat (first
            | (refine' wpTree_free (x := _) rfl (by rfl) ?_ ?_
               rotate_left
               · (intro w'; go_simp; try rfl)
               simp only [List.getElem_toArray, List.getElem_cons_zero, List.getElem_cons_succ, Act.put, List.setIfInBounds_toArray, List.set_cons_zero, List.set_cons_succ])
            | (refine' wpTree_held (x := _) rfl (by rfl) ?_ ?_
               rotate_left
               · (intro w' hS; clear hS; go_simp; try rfl)
               simp only [List.getElem_toArray, List.getElem_cons_zero, List.getElem_cons_succ, Act.put, List.setIfInBounds_toArray, List.set_cons_zero, List.set_cons_succ])
            | (refine' wpTree_skip rfl (by rfl) ?_
               simp only [List.getElem_toArray, List.getElem_cons_zero, List.getElem_cons_succ, Act.put, List.setIfInBounds_toArray, List.set_cons_zero, List.set_cons_succ])
            | (refine' wpTree_skipHeld rfl (by rfl) ?_
               simp only [List.getElem_toArray, List.getElem_cons_zero, List.getElem_cons_succ, Act.put, List.setIfInBounds_toArray, List.set_cons_zero, List.set_cons_succ]))
          refine' wpTree_one rfl ?_
          intro K hK
          go_simp
          refine hK _ _ ⟨(fd.trans f8).alloc _, ?_⟩
          clear hK K
          refine' wpTree_one rfl ?_
          intro K hK
          go_simp
          refine hK _ _ ⟨(fd.trans f8).alloc _, ?_⟩
          clear hK K
          repeat (first
            | (refine' wpTree_free (x := _) rfl (by rfl) ?_ ?_
               rotate_left
               · (intro w'; go_simp; try rfl)
               simp only [List.getElem_toArray, List.getElem_cons_zero, List.getElem_cons_succ, Act.put, List.setIfInBounds_toArray, List.set_cons_zero, List.set_cons_succ])
            | (refine' wpTree_held (x := _) rfl (by rfl) ?_ ?_
               rotate_left
               · (intro w' hS; clear hS; go_simp; try rfl)
               simp only [List.getElem_toArray, List.getElem_cons_zero, List.getElem_cons_succ, Act.put, List.setIfInBounds_toArray, List.set_cons_zero, List.set_cons_succ])
            | (refine' wpTree_skip rfl (by rfl) ?_
               simp only [List.getElem_toArray, List.getElem_cons_zero, List.getElem_cons_succ, Act.put, List.setIfInBounds_toArray, List.set_cons_zero, List.set_cons_succ])
            | (refine' wpTree_skipHeld rfl (by rfl) ?_
               simp only [List.getElem_toArray, List.getElem_cons_zero, List.getElem_cons_succ, Act.put, List.setIfInBounds_toArray, List.set_cons_zero, List.set_cons_succ]))
          refine wpTree_leaf ?_
          simp only [List.drop_succ_cons, List.drop_zero]
          have F8 := Lib.hid (fd.trans f8)
          clear fd f8 HDO
          go_wp2_with fail
          go_meet
          exact Lib.hid ⟨w8.heap.size, a1, n1, c1, a2, n2, c2, bb, rfl, rfl, alloc_at w8 _, HH.out.stay ((Fr.refl _ _).alloc _), F8.out.alloc _⟩
        · skip
          refine' wpTree_one rfl ?_
          intro K hK
          go_simp
          refine hK _ _ ⟨fd.alloc _, ?_⟩
          clear hK K
          refine' wpTree_one rfl ?_
          intro K hK
          go_simp
          refine (HDO.out _ (fd.alloc _)).mono ?_
          rintro e w8 ⟨hd8, f8⟩
          obtain ⟨a1, n1, c1, a2, n2, c2, bb, rfl, hh⟩ := hd8.open
          have HH := Lib.hid (show DoneIn l.length d q m X a1 n1 c1 a2 n2 c2 bb w8 from hh.out)
          have BZ := Lib.hid (f8.heap (alloc_at wd _) id)
          have HSZ := Lib.hid fd.size
          clear hd8 hh
          go_simp
          refine hK _ _ ⟨(fd.alloc _).trans f8, ?_⟩
          clear hK K
          repeat (first
            | (refine' wpTree_free (x := _) rfl (by rfl) ?_ ?_
               rotate_left
               · (intro w'; go_simp; try rfl)
               simp only [List.getElem_toArray, List.getElem_cons_zero, List.getElem_cons_succ, Act.put, List.setIfInBounds_toArray, List.set_cons_zero, List.set_cons_succ])
            | (refine' wpTree_held (x := _) rfl (by rfl) ?_ ?_
               rotate_left
               · (intro w' hS; clear hS; go_simp; try rfl)
               simp only [List.getElem_toArray, List.getElem_cons_zero, List.getElem_cons_succ, Act.put, List.setIfInBounds_toArray, List.set_cons_zero, List.set_cons_succ])
            | (refine' wpTree_skip rfl (by rfl) ?_
               simp only [List.getElem_toArray, List.getElem_cons_zero, List.getElem_cons_succ, Act.put, List.setIfInBounds_toArray, List.set_cons_zero, List.set_cons_succ])
            | (refine' wpTree_skipHeld rfl (by rfl) ?_
               simp only [List.getElem_toArray, List.getElem_cons_zero, List.getElem_cons_succ, Act.put, List.setIfInBounds_toArray, List.set_cons_zero, List.set_cons_succ]))
          obtain ⟨qz, zz⟩ := box_facts BZ.out
          have F9 := Lib.hid (((fd.alloc _).trans f8).setCell (p := ⟨wd.heap.size, 0, none⟩) (.inr HSZ.out) (.slice a1 n1 c1) |>.setCell (p := ⟨wd.heap.size, 1, none⟩) (.inr HSZ.out) (.slice a2 n2 c2))
          have FG := Lib.hid (((Fr.refl (fun b => b = wd.heap.size) w8).setCell (p := ⟨wd.heap.size, 0, none⟩) (.inl rfl) (.slice a1 n1 c1)).setCell (p := ⟨wd.heap.size, 1, none⟩) (.inl rfl) (.slice a2 n2 c2))
          refine' wpTree_one rfl ?_
          intro K hK
          go_simp
          refine hK _ _ ⟨F9.out, ?_⟩
          clear hK K
          have g9 := heap_setCell_same _ _ 1 _ 143 (.slice a2 n2 c2) (heap_setCell_same w8 wd.heap.size 0 _ 143 (.slice a1 n1 c1) BZ.out)
          generalize (w8.setCell { block := wd.heap.size, off := 0 } (Value.slice a1 n1 c1)).setCell { block := wd.heap.size, off := 1 } (Value.slice a2 n2 c2) = w9 at F9 FG g9 ⊢
          clear qz zz fd f8 HDO
          repeat (first
            | (refine' wpTree_free (x := _) rfl (by rfl) ?_ ?_
               rotate_left
               · (intro w'; go_simp; try rfl)
               simp only [List.getElem_toArray, List.getElem_cons_zero, List.getElem_cons_succ, Act.put, List.setIfInBounds_toArray, List.set_cons_zero, List.set_cons_succ])
            | (refine' wpTree_held (x := _) rfl (by rfl) ?_ ?_
               rotate_left
               · (intro w' hS; clear hS; go_simp; try rfl)
               simp only [List.getElem_toArray, List.getElem_cons_zero, List.getElem_cons_succ, Act.put, List.setIfInBounds_toArray, List.set_cons_zero, List.set_cons_succ])
            | (refine' wpTree_skip rfl (by rfl) ?_
               simp only [List.getElem_toArray, List.getElem_cons_zero, List.getElem_cons_succ, Act.put, List.setIfInBounds_toArray, List.set_cons_zero, List.set_cons_succ])
            | (refine' wpTree_skipHeld rfl (by rfl) ?_
               simp only [List.getElem_toArray, List.getElem_cons_zero, List.getElem_cons_succ, Act.put, List.setIfInBounds_toArray, List.set_cons_zero, List.set_cons_succ]))
          refine wpTree_leaf ?_
          simp only [List.drop_succ_cons, List.drop_zero]
          go_wp2_with fail
          go_meet
          exact Lib.hid ⟨wd.heap.size, a1, n1, c1, a2, n2, c2, bb, rfl, rfl, g9, HH.out.fr BZ.out FG.out, F9.out⟩
      case rest =>
        obtain ⟨D, a1, n1, c1, a2, n2, c2, bb, rfl, rfl, hbD, hin, hfx⟩ := hcut.out
        have FX := Lib.hid hfx
        have HBD := Lib.hid hbD
        have HBC := Lib.hid (hfx.heap HB.out id)
        have LDD := Lib.hid (load143 hbD)
        unfold DoneIn at hin
        obtain ⟨na, hna⟩ : ∃ b, lAfter m X = b := ⟨_, rfl⟩
        rw [hna] at hin HAT
        clear hcut hbD hfx HDO HN LC Q0 fd1 x0 x1 x2 x6
        cases na with
        | none =>
          simp only at hin
          subst hin
          have HE := Lib.hid (show R = false by rw [HAT.out]; rfl)
          go_wp2_with fail
          go_ret
          exact ⟨by rw [HE.out]; rfl, FW.out.trans FX.out⟩
        | some n' =>
        obtain ⟨rfl, h1, h2⟩ := hin
        obtain ⟨_, _, e1, _⟩ := h1.frm
        cases e1
        obtain ⟨_, _, e2, _⟩ := h2.frm
        cases e2
        rw [lBits_len] at h1 HBD LDD
        have H1 := Lib.hid (avoid_bool h1 HBC.out)
        have H2 := Lib.hid (avoid_item (T := fun y => y = C) h2 (noInt_st HBC.out))
        have HNL := Lib.hid (show n'.length ≤ j + 1 by rw [(lAfter_some hna).2.2.1]; have := mDone_len m X.1; have := HML.out; omega)
        have HE := Lib.hid (show R = (match lRun l (d ||| 2 ^ q) n' (o.drop (j + 1)) with | some x => lWhole l x.1 | none => false) by rw [HAT.out]; rfl)
        clear h1 h2 hna HAT
        obtain ⟨qC, zC⟩ := box_facts HBC.out
        go_wp2_with (refine wpList_load_w 143 (.pointer (some ⟨D, 0, none⟩)) _ LDD.out _ rfl rfl (by rfl) ?_)
        have FG := Lib.hid (((Fr.refl (fun b => b = C) wc).setCell (p := ⟨C, 0, none⟩) (.inl rfl) (.slice a1 l.length c1)).setCell (p := ⟨C, 1, none⟩) (.inl rfl) (.slice a2 n'.length c2))
        have g9 := Lib.hid (heap_setCell_same _ _ 1 _ 143 (.slice a2 n'.length c2) (heap_setCell_same wc C 0 _ 143 (.slice a1 l.length c1) HBC.out))
        clear qC zC
        go_roundw
        case rel =>
          exact ⟨d ||| 2 ^ q, j + 1, n', a1, c1, a2, c2, by omega, by go_num, (FW.out.trans FX.out).trans2 FG.out (fun b hb e => by omega), g9.out, (H1.out.frame FG.out fun _ _ hn => hn).mono fun _ _ _ => trivial, (H2.out.frame FG.out fun _ _ hn => hn).mono fun _ _ _ => trivial, HNL.out, HE.out⟩
        case measure => simp [intOf]; omega
    · obtain rfl : j = o.length := by omega
      have HE := Lib.hid (show R = lWhole l d by rw [HRJ.out, List.drop_length, lRun])
      have HW := Lib.hid (rall_any (lv := .slice ma m.length mc) (HL.out.stay FW.out) d HDV.out)
      have LC0 := Lib.hid (LC.out wr (Fr.refl _ _))
      clear HRJ LC
      go_wp2_with (refine wpList_load_w 143 (.pointer (some ⟨C, 0, none⟩)) _ LC0.out _ rfl rfl (by rfl) ?_)
      refine HW.out.mono ?_
      rintro e w5 ⟨rfl, f5⟩
      go_wp2_with fail
      go_ret
      exact ⟨by rw [HE.out]; rfl, FW.out.trans f5⟩
end Go.Proofs.Ytplhcfaonhkegaa
