/-
  Model: ModelForms.
-/
import Derived.Test.YtplhcfaonhkegaaM18
import Derived.Test.YtplhcfaonhkegaaF
namespace Go.Proofs.Ytplhcfaonhkegaa
open Go.RowKit Go.Maps

set_option maxRecDepth 100000 in
set_option maxHeartbeats 8000000 in
theorem forms_any {w : World} {vl vm : Value} {l m : List MItem} (hl : Sl kItem All w vl l) (hm : Sl kItem All w vm m) (c : MCall) {ca : Option Addr} {cc : Nat} (k : Int) :
    Calls Try.prog 7 #[vl, vm, .agg #[.int .i64 c.1, .int .u64 c.2.1, .int .u64 c.2.2.1, .slice ca c.2.2.2.length cc], .int .u64 k] w fun e w' => e = .returned (.bool true) ∧ Fr Non w w' := by
  obtain ⟨a1, n1, rfl, _⟩ := hl.frm
  obtain ⟨a2, n2, rfl, _⟩ := hm.frm
  have f0 : Fr Non w (w.alloc (.cells #[.int .i64 c.1, .int .u64 c.2.1, .int .u64 c.2.2.1, .slice ca c.2.2.2.length cc] 39)) := (Fr.refl _ _).alloc _
  have b0 := alloc_at w (.cells #[.int .i64 c.1, .int .u64 c.2.1, .int .u64 c.2.2.1, .slice ca c.2.2.2.length cc] 39)
  have HL := Lib.hid (hl.stay f0)
  have HM := Lib.hid (hm.stay f0)
  clear hl hm
  go_enter Try.func7, Try.ntmps7
  go_wp2_with fail
  refine (few_any HL.out).mono ?_
  rintro e w1 ⟨x1, y1, rfl, h1, hw⟩
  obtain rfl := hw.symm
  generalize l.take 200 = l at h1 ⊢
  go_wp2_with fail
  refine (few_any HM.out).mono ?_
  rintro e w1 ⟨x2, y2, rfl, h2, hw⟩
  obtain rfl := hw.symm
  generalize m.take 200 = m at h2 ⊢
  have H1 := Lib.hid h1
  have H2 := Lib.hid h2
  clear h1 h2
  go_wp2_with fail
  generalize w.alloc (.cells #[.int .i64 c.1, .int .u64 c.2.1, .int .u64 c.2.2.1, .slice ca c.2.2.2.length cc] 39) = w1 at f0 b0 H1 H2 ⊢
  obtain ⟨B, hBk⟩ : ∃ B, (mKey k l).getD [] = B := ⟨_, rfl⟩
  obtain ⟨t, ht⟩ : ∃ t, (mKey k l).isSome = t := ⟨_, rfl⟩
  have hk1 := fun (w : World) (h : Sl kItem All w (.slice x1 l.length y1) l) => key_any h k
  have hk2 := fun (w : World) (h : Sl kItem All w (.slice x1 l.length y1) l) => rkey_any h k
  rw [hBk, ht] at hk1 hk2
  have HK1 := Lib.hid hk1
  have HK2 := Lib.hid hk2
  clear hk1 hk2 hBk ht
  refine (HK1.out _ H1.out).mono ?_
  rintro e w2 ⟨u1, v1, rfl, g1, f2⟩
  go_wp2_with fail
  refine (HK2.out _ (H1.out.stay f2)).mono ?_
  rintro e w3 ⟨u2, v2, rfl, g2, f3⟩
  have f4 := f2.trans f3
  have g1' := g1.stay f3
  have b3 := f4.heap b0 id
  have hl3 := Lib.hid (H1.out.stay f4)
  have hm3 := Lib.hid (H2.out.stay f4)
  have HC1 := Lib.hid g1'
  have HC2 := Lib.hid g2
  have fw3 := f0.trans f4
  clear g1 g1' g2 b0 f2 f3
  obtain ⟨R, hR⟩ : ∃ R, w.heap.size = R := ⟨_, rfl⟩
  rw [hR] at b3 ⊢
  clear hR
  obtain ⟨p, hp⟩ : ∃ p, mCheck l = p := ⟨_, rfl⟩
  have q1 := fun (w : World) (h : Sl kItem All w (.slice x1 l.length y1) l) => check_any h
  have q2 := fun (w : World) (h : Sl kItem All w (.slice x1 l.length y1) l) => rcheck_any h
  rw [hp] at q1 q2
  have Q1 := Lib.hid q1
  have Q2 := Lib.hid q2
  obtain ⟨d, hd⟩ : ∃ d, decide (l = m) = d := ⟨_, rfl⟩
  have q3 := fun (w : World) (h : Sl kItem All w (.slice x1 l.length y1) l) (h2 : Sl kItem All w (.slice x2 m.length y2) m) => msame_any h h2
  have q4 := fun (w : World) (h : Sl kItem All w (.slice x1 l.length y1) l) (h2 : Sl kItem All w (.slice x2 m.length y2) m) => rsame_any h h2
  rw [hd] at q3 q4
  have Q3 := Lib.hid q3
  have Q4 := Lib.hid q4
  have q5 := fun (w : World) (h : Sl kItem All w (.slice x1 l.length y1) l) => msame_any h h
  have h55 : decide (l = l) = true := decide_eq_true rfl
  rw [h55] at q5
  have Q5 := Lib.hid q5
  clear q1 q2 q3 q4 q5 hp hd h55
  go_wp2_with fail
  refine wp_drawL ((Fr Non w3)) [(.free, 0), (.free, 2), (.kept, 1), (.kept, 3), (.free, 4), (.free, 5), (.held, 6), (.held, 8), (.kept, 7), (.kept, 9), (.free, 10), (.free, 11), (.free, 12), (.held, 13), (.held, 15), (.kept, 14), (.kept, 16), (.free, 17), (.free, 18), (.free, 19), (.free, 20), (.free, 21), (.free, 23), (.free, 24), (.kept, 22), (.kept, 25), (.free, 26), (.free, 27), (.free, 28), (.free, 29), (.free, 30), (.kept, 31), (.free, 32), (.free, 33), (.free, 34), (.held, 35), (.free, 36), (.held, 37), (.free, 38), (.free, 39), (.free, 40), (.free, 41), (.free, 42), (.free, 43), (.free, 44), (.free, 45), (.kept, 46), (.free, 47), (.free, 48)] 49 (fun i => ([#[], #[], #[], #[], #[], #[], #[true, true, true, true, true, true, false, false, true, false, false, false, false, false, false, false, false, false, false, false, false, false, false, false, false, false, false, false, false, false, false, false, false, false, false, false, false, false, false, false, false, false, false, false, false, false, false, false, false], #[], #[true, true, true, true, true, true, true, true, false, false, false, false, false, false, false, false, false, false, false, false, false, false, false, false, false, false, false, false, false, false, false, false, false, false, false, false, false, false, false, false, false, false, false, false, false, false, false, false, false], #[], #[], #[], #[], #[true, true, true, true, true, true, true, true, true, true, true, true, true, false, false, true, false, false, false, false, false, false, false, false, false, false, false, false, false, false, false, false, false, false, false, false, false, false, false, false, false, false, false, false, false, false, false, false, false], #[], #[true, true, true, true, true, true, true, true, true, true, true, true, true, true, true, false, false, false, false, false, false, false, false, false, false, false, false, false, false, false, false, false, false, false, false, false, false, false, false, false, false, false, false, false, false, false, false, false, false], #[], #[], #[], #[], #[], #[], #[], #[], #[], #[], #[], #[], #[], #[], #[], #[], #[], #[], #[], #[true, true, true, true, true, true, true, true, true, true, true, true, true, true, true, true, true, true, true, true, true, true, true, true, true, true, true, true, true, true, true, true, true, true, true, false, true, true, false, false, false, false, false, false, false, false, false, false, false], #[], #[true, true, true, true, true, true, true, true, true, true, true, true, true, true, true, true, true, true, true, true, true, true, true, true, true, true, true, true, true, true, true, true, true, true, true, true, true, false, false, false, false, false, false, false, false, false, false, false, false], #[], #[], #[], #[], #[], #[], #[], #[], #[], #[], #[]] : List (Array Bool)).getD i #[]) (by kernel_rfl) (by kernel_rfl) (fun _ _ _ _ _ h => h) ⟨(Fr.refl _ _).drew, ?_⟩
  have fd : Fr Non w3 w3.drew := (Fr.refl _ _).drew
  generalize w3.drew = wd at fd ⊢
  repeat (first
    | (refine' wpPlan_free (v := _) rfl (by rfl) ?_ ?_
       rotate_left
       · (intro w'; go_simp; try rfl)
       simp only [List.getElem_toArray, List.getElem_cons_zero, List.getElem_cons_succ, Act.put, List.setIfInBounds_toArray, List.set_cons_zero, List.set_cons_succ])
    | (refine' wpPlan_held (v := _) rfl (by rfl) ?_ ?_
       rotate_left
       · (intro w' hS; obtain ⟨e0, _⟩ := hS.box b3 id; have e1 := conv_src (sl_src (HC1.out.stay hS)); have e2 := conv_src (sl_src (HC2.out.stay hS)); clear hS; go_simp; try rfl)
       simp only [List.getElem_toArray, List.getElem_cons_zero, List.getElem_cons_succ, Act.put, List.setIfInBounds_toArray, List.set_cons_zero, List.set_cons_succ])
    | (refine' wpPlan_skip rfl (by rfl) ?_
       simp only [List.getElem_toArray, List.getElem_cons_zero, List.getElem_cons_succ, Act.put, List.setIfInBounds_toArray, List.set_cons_zero, List.set_cons_succ])
    | (refine' wpPlan_skipHeld rfl (by rfl) ?_
       simp only [List.getElem_toArray, List.getElem_cons_zero, List.getElem_cons_succ, Act.put, List.setIfInBounds_toArray, List.set_cons_zero, List.set_cons_succ]))
  refine' wpPlan_kept rfl ?_
  intro K hK
  go_simp
  refine (Q1.out _ (hl3.out.stay fd)).mono ?_
  rintro e w4 ⟨rfl, f5⟩
  have s5 := fd.trans f5
  go_simp
  refine hK _ _ ⟨s5, ?_⟩
  clear hK K
  repeat (first
    | (refine' wpPlan_free (v := _) rfl (by rfl) ?_ ?_
       rotate_left
       · (intro w'; go_simp; try rfl)
       simp only [List.getElem_toArray, List.getElem_cons_zero, List.getElem_cons_succ, Act.put, List.setIfInBounds_toArray, List.set_cons_zero, List.set_cons_succ])
    | (refine' wpPlan_held (v := _) rfl (by rfl) ?_ ?_
       rotate_left
       · (intro w' hS; obtain ⟨e0, _⟩ := hS.box b3 id; have e1 := conv_src (sl_src (HC1.out.stay hS)); have e2 := conv_src (sl_src (HC2.out.stay hS)); clear hS; go_simp; try rfl)
       simp only [List.getElem_toArray, List.getElem_cons_zero, List.getElem_cons_succ, Act.put, List.setIfInBounds_toArray, List.set_cons_zero, List.set_cons_succ])
    | (refine' wpPlan_skip rfl (by rfl) ?_
       simp only [List.getElem_toArray, List.getElem_cons_zero, List.getElem_cons_succ, Act.put, List.setIfInBounds_toArray, List.set_cons_zero, List.set_cons_succ])
    | (refine' wpPlan_skipHeld rfl (by rfl) ?_
       simp only [List.getElem_toArray, List.getElem_cons_zero, List.getElem_cons_succ, Act.put, List.setIfInBounds_toArray, List.set_cons_zero, List.set_cons_succ]))
  refine' wpPlan_kept rfl ?_
  intro K hK
  go_simp
  refine (Q2.out _ (hl3.out.stay s5)).mono ?_
  rintro e w5 ⟨rfl, f6⟩
  have s6 := s5.trans f6
  go_simp
  refine hK _ _ ⟨s6, ?_⟩
  clear hK K
  repeat (first
    | (refine' wpPlan_free (v := _) rfl (by rfl) ?_ ?_
       rotate_left
       · (intro w'; go_simp; try rfl)
       simp only [List.getElem_toArray, List.getElem_cons_zero, List.getElem_cons_succ, Act.put, List.setIfInBounds_toArray, List.set_cons_zero, List.set_cons_succ])
    | (refine' wpPlan_held (v := _) rfl (by rfl) ?_ ?_
       rotate_left
       · (intro w' hS; obtain ⟨e0, _⟩ := hS.box b3 id; have e1 := conv_src (sl_src (HC1.out.stay hS)); have e2 := conv_src (sl_src (HC2.out.stay hS)); clear hS; go_simp; try rfl)
       simp only [List.getElem_toArray, List.getElem_cons_zero, List.getElem_cons_succ, Act.put, List.setIfInBounds_toArray, List.set_cons_zero, List.set_cons_succ])
    | (refine' wpPlan_skip rfl (by rfl) ?_
       simp only [List.getElem_toArray, List.getElem_cons_zero, List.getElem_cons_succ, Act.put, List.setIfInBounds_toArray, List.set_cons_zero, List.set_cons_succ])
    | (refine' wpPlan_skipHeld rfl (by rfl) ?_
       simp only [List.getElem_toArray, List.getElem_cons_zero, List.getElem_cons_succ, Act.put, List.setIfInBounds_toArray, List.set_cons_zero, List.set_cons_succ]))
  refine' wpPlan_kept rfl ?_
  intro K hK
  go_simp
  refine (call_any _ c ca cc).mono ?_
  rintro e w6 ⟨rfl, f7⟩
  have s7 := s6.trans f7
  go_simp
  refine hK _ _ ⟨s7, ?_⟩
  clear hK K
  repeat (first
    | (refine' wpPlan_free (v := _) rfl (by rfl) ?_ ?_
       rotate_left
       · (intro w'; go_simp; try rfl)
       simp only [List.getElem_toArray, List.getElem_cons_zero, List.getElem_cons_succ, Act.put, List.setIfInBounds_toArray, List.set_cons_zero, List.set_cons_succ])
    | (refine' wpPlan_held (v := _) rfl (by rfl) ?_ ?_
       rotate_left
       · (intro w' hS; obtain ⟨e0, _⟩ := hS.box b3 id; have e1 := conv_src (sl_src (HC1.out.stay hS)); have e2 := conv_src (sl_src (HC2.out.stay hS)); clear hS; go_simp; try rfl)
       simp only [List.getElem_toArray, List.getElem_cons_zero, List.getElem_cons_succ, Act.put, List.setIfInBounds_toArray, List.set_cons_zero, List.set_cons_succ])
    | (refine' wpPlan_skip rfl (by rfl) ?_
       simp only [List.getElem_toArray, List.getElem_cons_zero, List.getElem_cons_succ, Act.put, List.setIfInBounds_toArray, List.set_cons_zero, List.set_cons_succ])
    | (refine' wpPlan_skipHeld rfl (by rfl) ?_
       simp only [List.getElem_toArray, List.getElem_cons_zero, List.getElem_cons_succ, Act.put, List.setIfInBounds_toArray, List.set_cons_zero, List.set_cons_succ]))
  refine' wpPlan_kept rfl ?_
  intro K hK
  go_simp
  refine (rcall_any _ c ca cc).mono ?_
  rintro e w7 ⟨rfl, f8⟩
  have s8 := s7.trans f8
  go_simp
  refine hK _ _ ⟨s8, ?_⟩
  clear hK K
  generalize mCall c = mc
  repeat (first
    | (refine' wpPlan_free (v := _) rfl (by rfl) ?_ ?_
       rotate_left
       · (intro w'; go_simp; try rfl)
       simp only [List.getElem_toArray, List.getElem_cons_zero, List.getElem_cons_succ, Act.put, List.setIfInBounds_toArray, List.set_cons_zero, List.set_cons_succ])
    | (refine' wpPlan_held (v := _) rfl (by rfl) ?_ ?_
       rotate_left
       · (intro w' hS; obtain ⟨e0, _⟩ := hS.box b3 id; have e1 := conv_src (sl_src (HC1.out.stay hS)); have e2 := conv_src (sl_src (HC2.out.stay hS)); clear hS; go_simp; try rfl)
       simp only [List.getElem_toArray, List.getElem_cons_zero, List.getElem_cons_succ, Act.put, List.setIfInBounds_toArray, List.set_cons_zero, List.set_cons_succ])
    | (refine' wpPlan_skip rfl (by rfl) ?_
       simp only [List.getElem_toArray, List.getElem_cons_zero, List.getElem_cons_succ, Act.put, List.setIfInBounds_toArray, List.set_cons_zero, List.set_cons_succ])
    | (refine' wpPlan_skipHeld rfl (by rfl) ?_
       simp only [List.getElem_toArray, List.getElem_cons_zero, List.getElem_cons_succ, Act.put, List.setIfInBounds_toArray, List.set_cons_zero, List.set_cons_succ]))
  refine' wpPlan_kept rfl ?_
  intro K hK
  go_simp
  refine (writes_any _ c _ ⟨_, _, _, rfl⟩).mono ?_
  rintro e w8 ⟨rfl, f9⟩
  have s9 := s8.trans f9
  go_simp
  refine hK _ _ ⟨s9, ?_⟩
  clear hK K
  repeat (first
    | (refine' wpPlan_free (v := _) rfl (by rfl) ?_ ?_
       rotate_left
       · (intro w'; go_simp; try rfl)
       simp only [List.getElem_toArray, List.getElem_cons_zero, List.getElem_cons_succ, Act.put, List.setIfInBounds_toArray, List.set_cons_zero, List.set_cons_succ])
    | (refine' wpPlan_held (v := _) rfl (by rfl) ?_ ?_
       rotate_left
       · (intro w' hS; obtain ⟨e0, _⟩ := hS.box b3 id; have e1 := conv_src (sl_src (HC1.out.stay hS)); have e2 := conv_src (sl_src (HC2.out.stay hS)); clear hS; go_simp; try rfl)
       simp only [List.getElem_toArray, List.getElem_cons_zero, List.getElem_cons_succ, Act.put, List.setIfInBounds_toArray, List.set_cons_zero, List.set_cons_succ])
    | (refine' wpPlan_skip rfl (by rfl) ?_
       simp only [List.getElem_toArray, List.getElem_cons_zero, List.getElem_cons_succ, Act.put, List.setIfInBounds_toArray, List.set_cons_zero, List.set_cons_succ])
    | (refine' wpPlan_skipHeld rfl (by rfl) ?_
       simp only [List.getElem_toArray, List.getElem_cons_zero, List.getElem_cons_succ, Act.put, List.setIfInBounds_toArray, List.set_cons_zero, List.set_cons_succ]))
  refine' wpPlan_kept rfl ?_
  intro K hK
  go_simp
  refine (rwrites_any _ c _ ⟨_, _, _, rfl⟩).mono ?_
  rintro e w9 ⟨rfl, f10⟩
  have s10 := s9.trans f10
  go_simp
  refine hK _ _ ⟨s10, ?_⟩
  clear hK K
  generalize mWrites c = mw
  repeat (first
    | (refine' wpPlan_free (v := _) rfl (by rfl) ?_ ?_
       rotate_left
       · (intro w'; go_simp; try rfl)
       simp only [List.getElem_toArray, List.getElem_cons_zero, List.getElem_cons_succ, Act.put, List.setIfInBounds_toArray, List.set_cons_zero, List.set_cons_succ])
    | (refine' wpPlan_held (v := _) rfl (by rfl) ?_ ?_
       rotate_left
       · (intro w' hS; obtain ⟨e0, _⟩ := hS.box b3 id; have e1 := conv_src (sl_src (HC1.out.stay hS)); have e2 := conv_src (sl_src (HC2.out.stay hS)); clear hS; go_simp; try rfl)
       simp only [List.getElem_toArray, List.getElem_cons_zero, List.getElem_cons_succ, Act.put, List.setIfInBounds_toArray, List.set_cons_zero, List.set_cons_succ])
    | (refine' wpPlan_skip rfl (by rfl) ?_
       simp only [List.getElem_toArray, List.getElem_cons_zero, List.getElem_cons_succ, Act.put, List.setIfInBounds_toArray, List.set_cons_zero, List.set_cons_succ])
    | (refine' wpPlan_skipHeld rfl (by rfl) ?_
       simp only [List.getElem_toArray, List.getElem_cons_zero, List.getElem_cons_succ, Act.put, List.setIfInBounds_toArray, List.set_cons_zero, List.set_cons_succ]))
  refine' wpPlan_kept rfl ?_
  intro K hK
  go_simp
  refine (Q3.out _ (hl3.out.stay s10) (hm3.out.stay s10)).mono ?_
  rintro e w10 ⟨rfl, f11⟩
  have s11 := s10.trans f11
  go_simp
  refine hK _ _ ⟨s11, ?_⟩
  clear hK K
  repeat (first
    | (refine' wpPlan_free (v := _) rfl (by rfl) ?_ ?_
       rotate_left
       · (intro w'; go_simp; try rfl)
       simp only [List.getElem_toArray, List.getElem_cons_zero, List.getElem_cons_succ, Act.put, List.setIfInBounds_toArray, List.set_cons_zero, List.set_cons_succ])
    | (refine' wpPlan_held (v := _) rfl (by rfl) ?_ ?_
       rotate_left
       · (intro w' hS; obtain ⟨e0, _⟩ := hS.box b3 id; have e1 := conv_src (sl_src (HC1.out.stay hS)); have e2 := conv_src (sl_src (HC2.out.stay hS)); clear hS; go_simp; try rfl)
       simp only [List.getElem_toArray, List.getElem_cons_zero, List.getElem_cons_succ, Act.put, List.setIfInBounds_toArray, List.set_cons_zero, List.set_cons_succ])
    | (refine' wpPlan_skip rfl (by rfl) ?_
       simp only [List.getElem_toArray, List.getElem_cons_zero, List.getElem_cons_succ, Act.put, List.setIfInBounds_toArray, List.set_cons_zero, List.set_cons_succ])
    | (refine' wpPlan_skipHeld rfl (by rfl) ?_
       simp only [List.getElem_toArray, List.getElem_cons_zero, List.getElem_cons_succ, Act.put, List.setIfInBounds_toArray, List.set_cons_zero, List.set_cons_succ]))
  refine' wpPlan_kept rfl ?_
  intro K hK
  go_simp
  refine (Q4.out _ (hl3.out.stay s11) (hm3.out.stay s11)).mono ?_
  rintro e w11 ⟨rfl, f12⟩
  have s12 := s11.trans f12
  go_simp
  refine hK _ _ ⟨s12, ?_⟩
  clear hK K
  repeat (first
    | (refine' wpPlan_free (v := _) rfl (by rfl) ?_ ?_
       rotate_left
       · (intro w'; go_simp; try rfl)
       simp only [List.getElem_toArray, List.getElem_cons_zero, List.getElem_cons_succ, Act.put, List.setIfInBounds_toArray, List.set_cons_zero, List.set_cons_succ])
    | (refine' wpPlan_held (v := _) rfl (by rfl) ?_ ?_
       rotate_left
       · (intro w' hS; obtain ⟨e0, _⟩ := hS.box b3 id; have e1 := conv_src (sl_src (HC1.out.stay hS)); have e2 := conv_src (sl_src (HC2.out.stay hS)); clear hS; go_simp; try rfl)
       simp only [List.getElem_toArray, List.getElem_cons_zero, List.getElem_cons_succ, Act.put, List.setIfInBounds_toArray, List.set_cons_zero, List.set_cons_succ])
    | (refine' wpPlan_skip rfl (by rfl) ?_
       simp only [List.getElem_toArray, List.getElem_cons_zero, List.getElem_cons_succ, Act.put, List.setIfInBounds_toArray, List.set_cons_zero, List.set_cons_succ])
    | (refine' wpPlan_skipHeld rfl (by rfl) ?_
       simp only [List.getElem_toArray, List.getElem_cons_zero, List.getElem_cons_succ, Act.put, List.setIfInBounds_toArray, List.set_cons_zero, List.set_cons_succ]))
  refine' wpPlan_kept rfl ?_
  intro K hK
  go_simp
  refine (Q5.out _ (hl3.out.stay s12)).mono ?_
  rintro e w12 ⟨rfl, f13⟩
  have s13 := s12.trans f13
  go_simp
  refine hK _ _ ⟨s13, ?_⟩
  clear hK K
  repeat (first
    | (refine' wpPlan_free (v := _) rfl (by rfl) ?_ ?_
       rotate_left
       · (intro w'; go_simp; try rfl)
       simp only [List.getElem_toArray, List.getElem_cons_zero, List.getElem_cons_succ, Act.put, List.setIfInBounds_toArray, List.set_cons_zero, List.set_cons_succ])
    | (refine' wpPlan_held (v := _) rfl (by rfl) ?_ ?_
       rotate_left
       · (intro w' hS; obtain ⟨e0, _⟩ := hS.box b3 id; have e1 := conv_src (sl_src (HC1.out.stay hS)); have e2 := conv_src (sl_src (HC2.out.stay hS)); clear hS; go_simp; try rfl)
       simp only [List.getElem_toArray, List.getElem_cons_zero, List.getElem_cons_succ, Act.put, List.setIfInBounds_toArray, List.set_cons_zero, List.set_cons_succ])
    | (refine' wpPlan_skip rfl (by rfl) ?_
       simp only [List.getElem_toArray, List.getElem_cons_zero, List.getElem_cons_succ, Act.put, List.setIfInBounds_toArray, List.set_cons_zero, List.set_cons_succ])
    | (refine' wpPlan_skipHeld rfl (by rfl) ?_
       simp only [List.getElem_toArray, List.getElem_cons_zero, List.getElem_cons_succ, Act.put, List.setIfInBounds_toArray, List.set_cons_zero, List.set_cons_succ]))
  refine' wpPlan_kept rfl ?_
  intro K hK
  go_simp
  refine (awake_any _).mono ?_
  rintro e w13 ⟨rfl, f14⟩
  have s14 := s13.trans f14
  go_simp
  refine hK _ _ ⟨s14, ?_⟩
  clear hK K
  repeat (first
    | (refine' wpPlan_free (v := _) rfl (by rfl) ?_ ?_
       rotate_left
       · (intro w'; go_simp; try rfl)
       simp only [List.getElem_toArray, List.getElem_cons_zero, List.getElem_cons_succ, Act.put, List.setIfInBounds_toArray, List.set_cons_zero, List.set_cons_succ])
    | (refine' wpPlan_held (v := _) rfl (by rfl) ?_ ?_
       rotate_left
       · (intro w' hS; clear hS; go_simp; try rfl)
       simp only [List.getElem_toArray, List.getElem_cons_zero, List.getElem_cons_succ, Act.put, List.setIfInBounds_toArray, List.set_cons_zero, List.set_cons_succ])
    | (refine' wpPlan_skip rfl (by rfl) ?_
       simp only [List.getElem_toArray, List.getElem_cons_zero, List.getElem_cons_succ, Act.put, List.setIfInBounds_toArray, List.set_cons_zero, List.set_cons_succ])
    | (refine' wpPlan_skipHeld rfl (by rfl) ?_
       simp only [List.getElem_toArray, List.getElem_cons_zero, List.getElem_cons_succ, Act.put, List.setIfInBounds_toArray, List.set_cons_zero, List.set_cons_succ]))
  refine wpPlan_end ?_
  simp only [wpSegsX, List.drop_succ_cons, List.drop_zero]
  go_wp2_with fail
  go_ret
  exact ⟨by trivial, fw3.trans s14⟩
end Go.Proofs.Ytplhcfaonhkegaa
