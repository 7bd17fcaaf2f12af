/-
  Model: ModelDoes.
-/
import Derived.Test.YtplhcfaonhkegaaM24
import Derived.Test.YtplhcfaonhkegaaF
import Derived.Deep.DeepCutAuto
namespace Go.Proofs.Ytplhcfaonhkegaa
open Go.RowKit Go.Maps

theorem cells_of {w : World} {b : Nat} {cs : Array Value} {t : TypeId} (h : w.heap[b]? = some (.cells cs t (0, 0))) : ∀ j x, cs[j]? = some x → w.cell? ⟨b, j, none⟩ = some x :=
  fun j _ hx => (cell_of_row w b j cs t (0, 0) h).trans hx
/-- What holds behind the reference's Do. -/
def DoesCut (w5 : World) (m : List MItem) (e4 k4 : Int) (b4 : List UInt8) (i4 : List MItem) (t4 : Bool) (ee : Int) (v10 v11 v12 : Value) (wx : World) : Prop :=
  ∃ (xa6 : Option Addr) (xc6 Q : Nat) (q1 : Option Addr) (q2 : Nat) (q3 : Option Addr) (q4 : Nat), v10 = .slice xa6 m.length xc6 ∧ v11 = .pointer (some ⟨Q, 0, none⟩) ∧ v12 = .int .i64 ee ∧
    wx.heap[Q]? = some (.cells (#[.int .i64 e4, .int .u64 k4, .slice q1 b4.length q2, .slice q3 i4.length q4, .int .i64 0, .int .i64 0, .int .u64 0, .int .i64 0, .int .u64 0, .int .i64 0, .int .i64 0, .int .u64 0, .int .i64 0, .int .u64 0, .bool t4] : Array Value) 52 (0, 0)) ∧ Sl kItem All wx (.slice xa6 m.length xc6) m ∧ Sl kByte All wx (.slice q1 b4.length q2) b4 ∧ Sl kItem All wx (.slice q3 i4.length q4) i4 ∧ Fr Non w5 wx
theorem few_S {S : Nat → Prop} {w : World} {v : Value} {l : List MItem} (h : Sl kItem S w v l) :
    Calls Try.prog 21 #[v] w fun e w' => ∃ a c, e = .returned (.slice a (l.take 200).length c) ∧ Sl kItem S w (.slice a (l.take 200).length c) (l.take 200) ∧ w' = w := by
  obtain ⟨va, vc, rfl, hc, hm, hn⟩ := h.frm
  by_cases h1 : 200 < l.length
  · obtain ⟨B, O, u, rfl, _⟩ := item_at h 0 (by omega)
    have hs := h.sub 0 200 vc (by omega) (by omega) hm
    have ht : (l.take 200).length = 200 := by rw [List.length_take]; omega
    rw [ht]
    simp only [Nat.zero_mul, Nat.add_zero, List.drop_zero] at hs
    have g1 : (200 : Int) < (l.length : Int) := by omega
    have g2 : (200 : Int) ≤ (vc : Int) := by omega
    unfold maxLen at hm
    clear h
    go_enter Try.func21, Try.ntmps21
    go_wp2_with fail
    go_ret
    exact ⟨_, _, by trivial, hs, rfl⟩
  · have ht : l.take 200 = l := List.take_of_length_le (by omega)
    rw [ht]
    have g1 : ¬ (200 : Int) < (l.length : Int) := by omega
    go_enter Try.func21, Try.ntmps21
    go_wp2_with fail
    go_ret
    exact ⟨va, vc, by trivial, h, rfl⟩

set_option maxRecDepth 100000 in
set_option maxHeartbeats 4000000 in
theorem does0 {w : World} {vl : Value} {l : List MItem} (hl : Sl kItem All w vl l) (k key high : Int) {ca : Option Addr} {cc : Nat} {bs : List UInt8} (hv : Sl kByte All w (.slice ca bs.length cc) bs) (hk : 0 ≤ key ∧ key ≤ 18446744073709551615)
    (r : MRes) {u1 v1 : Value} (hu1 : Sl kByte All w u1 r.2.2.1) (hv1 : Sl kItem All w v1 r.2.2.2.1) (he : (mDo (l.take 200) (k, key, high, bs)).2.2 = 0) :
    Calls Try.prog 8 #[vl, .agg #[.int .i64 k, .int .u64 key, .int .u64 high, .slice ca bs.length cc], .agg (resCells r u1 v1).toArray] w fun e w' => e = .returned (.bool true) ∧ Fr Non w w' := by
  obtain ⟨va, vn, rfl, _⟩ := hl.frm
  obtain ⟨ga, gc, rfl, _⟩ := hu1.frm
  obtain ⟨ha, hc, rfl, _⟩ := hv1.frm
  obtain ⟨e1, k1, b1, l1, ⟨a1, ⟨a2, a3⟩, a4, a5⟩, ⟨c1, ⟨c2, c3⟩, c4, c5⟩, t1⟩ := r
  simp only [resCells, refCells, List.cons_append, List.nil_append] at hu1 hv1 ⊢
  have f0 : Fr Non w ((w.alloc (.cells #[.int .i64 k, .int .u64 key, .int .u64 high, .slice ca bs.length cc] 39)).alloc (.cells #[.int .i64 e1, .int .u64 k1, .slice ga b1.length gc, .slice ha l1.length hc, .int .i64 a1, .int .i64 a2, .int .u64 a3, .int .i64 a4, .int .u64 a5, .int .i64 c1, .int .i64 c2, .int .u64 c3, .int .i64 c4, .int .u64 c5, .bool t1] 52)) := ((Fr.refl _ _).alloc _).alloc _
  have bC := alloc_at2 w (.cells #[.int .i64 k, .int .u64 key, .int .u64 high, .slice ca bs.length cc] 39) (.cells #[.int .i64 e1, .int .u64 k1, .slice ga b1.length gc, .slice ha l1.length hc, .int .i64 a1, .int .i64 a2, .int .u64 a3, .int .i64 a4, .int .u64 a5, .int .i64 c1, .int .i64 c2, .int .u64 c3, .int .i64 c4, .int .u64 c5, .bool t1] 52)
  have bR := alloc_at2' w (.cells #[.int .i64 k, .int .u64 key, .int .u64 high, .slice ca bs.length cc] 39) (.cells #[.int .i64 e1, .int .u64 k1, .slice ga b1.length gc, .slice ha l1.length hc, .int .i64 a1, .int .i64 a2, .int .u64 a3, .int .i64 a4, .int .u64 a5, .int .i64 c1, .int .i64 c2, .int .u64 c3, .int .i64 c4, .int .u64 c5, .bool t1] 52)
  obtain ⟨C, hC⟩ : ∃ C, w.heap.size = C := ⟨_, rfl⟩
  rw [hC] at bC bR
  have hl' := hl.there.stay f0
  have hv' := hv.there.stay f0
  have hu' := hu1.there.stay f0
  have hw' := hv1.there.stay f0
  rw [hC] at hl' hv' hu' hw'
  have HL := Lib.hid hl'
  have HV := Lib.hid hv'
  have HU := Lib.hid hu'
  have HW := Lib.hid hw'
  have HCC := Lib.hid hC
  clear hl hv hu1 hv1 hl' hv' hu' hw'
  obtain ⟨qR, zR⟩ := box_facts bR
  go_enter Try.func8, Try.ntmps8
  go_wp2_with fail
  generalize hw1 : ((w.alloc (.cells #[.int .i64 k, .int .u64 key, .int .u64 high, .slice ca bs.length cc] 39)).alloc (.cells #[.int .i64 e1, .int .u64 k1, .slice ga b1.length gc, .slice ha l1.length hc, .int .i64 a1, .int .i64 a2, .int .u64 a3, .int .i64 a4, .int .u64 a5, .int .i64 c1, .int .i64 c2, .int .u64 c3, .int .i64 c4, .int .u64 c5, .bool t1] 52)) = w1 at f0 bC bR HL HV HU HW qR zR ⊢
  have fd : Fr Non w1 w1.drew := (Fr.refl _ _).drew
  refine wp_draw [((fun y => y = w1.drew), [(.free, 0), (.free, 2), (.held, 3), (.kept, 1), (.kept, 4), (.free, 5), (.free, 6)])] 7 (by kernel_rfl) (by as_aux_lemma => kernel_rfl) (fun _ _ _ _ _ h => h) ⟨rfl, ?_⟩
  repeat (first
    | (refine' wpPlan_free (v := _) rfl (by rfl) ?_ ?_
       rotate_left
       · (intro w'; go_simp; try rfl)
       simp only [List.getElem_toArray, List.getElem_cons_zero, List.getElem_cons_succ, Act.put, List.setIfInBounds_toArray, List.set_cons_zero, List.set_cons_succ])
    | (refine' wpPlan_held (v := _) rfl (by rfl) ?_ ?_
       rotate_left
       · (intro w' hS; subst hS; go_simp; try rfl)
       simp only [List.getElem_toArray, List.getElem_cons_zero, List.getElem_cons_succ, Act.put, List.setIfInBounds_toArray, List.set_cons_zero, List.set_cons_succ])
    | (refine' wpPlan_skip rfl (by rfl) ?_
       simp only [List.getElem_toArray, List.getElem_cons_zero, List.getElem_cons_succ, Act.put, List.setIfInBounds_toArray, List.set_cons_zero, List.set_cons_succ])
    | (refine' wpPlan_skipHeld rfl (by rfl) ?_
       simp only [List.getElem_toArray, List.getElem_cons_zero, List.getElem_cons_succ, Act.put, List.setIfInBounds_toArray, List.set_cons_zero, List.set_cons_succ]))
  refine' wpPlan_kept rfl ?_
  intro K hK
  go_simp
  refine (few_S (HL.out.stay fd)).mono ?_
  rintro e w2 ⟨x1, y1, rfl, h1, hw⟩
  obtain rfl := hw
  have hl200 : (l.take 200).length ≤ 200 := by rw [List.length_take]; omega
  obtain ⟨L, hL⟩ : ∃ L, l.take 200 = L := ⟨_, rfl⟩
  rw [hL] at h1 hl200 he ⊢
  have H1 := Lib.hid h1
  clear h1 hL
  go_simp
  refine hK _ _ ⟨rfl, ?_⟩
  clear hK K
  repeat (first
    | (refine' wpPlan_free (v := _) rfl (by rfl) ?_ ?_
       rotate_left
       · (intro w'; go_simp; try rfl)
       simp only [List.getElem_toArray, List.getElem_cons_zero, List.getElem_cons_succ, Act.put, List.setIfInBounds_toArray, List.set_cons_zero, List.set_cons_succ])
    | (refine' wpPlan_held (v := _) rfl (by rfl) ?_ ?_
       rotate_left
       · (intro w' hS; subst hS; go_simp; try rfl)
       simp only [List.getElem_toArray, List.getElem_cons_zero, List.getElem_cons_succ, Act.put, List.setIfInBounds_toArray, List.set_cons_zero, List.set_cons_succ])
    | (refine' wpPlan_skip rfl (by rfl) ?_
       simp only [List.getElem_toArray, List.getElem_cons_zero, List.getElem_cons_succ, Act.put, List.setIfInBounds_toArray, List.set_cons_zero, List.set_cons_succ])
    | (refine' wpPlan_skipHeld rfl (by rfl) ?_
       simp only [List.getElem_toArray, List.getElem_cons_zero, List.getElem_cons_succ, Act.put, List.setIfInBounds_toArray, List.set_cons_zero, List.set_cons_succ]))
  refine' wpPlan_kept rfl ?_
  intro K hK
  go_simp
  refine (few_S (HW.out.stay fd)).mono ?_
  rintro e w2 ⟨ia, ic, rfl, h2, hw⟩
  obtain rfl := hw
  obtain ⟨it, hit⟩ : ∃ L, l1.take 200 = L := ⟨_, rfl⟩
  rw [hit] at h2 ⊢
  have H2 := Lib.hid h2
  clear h2 hit
  go_simp
  refine hK _ _ ⟨rfl, ?_⟩
  clear hK K
  repeat (first
    | (refine' wpPlan_free (v := _) rfl (by rfl) ?_ ?_
       rotate_left
       · (intro w'; go_simp; try rfl)
       simp only [List.getElem_toArray, List.getElem_cons_zero, List.getElem_cons_succ, Act.put, List.setIfInBounds_toArray, List.set_cons_zero, List.set_cons_succ])
    | (refine' wpPlan_held (v := _) rfl (by rfl) ?_ ?_
       rotate_left
       · (intro w' hS; clear hS; go_simp; try rfl)
       simp only [List.getElem_toArray, List.getElem_cons_zero, List.getElem_cons_succ, Act.put, List.setIfInBounds_toArray, List.set_cons_zero, List.set_cons_succ])
    | (refine' wpPlan_skip rfl (by rfl) ?_
       simp only [List.getElem_toArray, List.getElem_cons_zero, List.getElem_cons_succ, Act.put, List.setIfInBounds_toArray, List.set_cons_zero, List.set_cons_succ])
    | (refine' wpPlan_skipHeld rfl (by rfl) ?_
       simp only [List.getElem_toArray, List.getElem_cons_zero, List.getElem_cons_succ, Act.put, List.setIfInBounds_toArray, List.set_cons_zero, List.set_cons_succ]))
  refine wpPlan_end ?_
  simp only [wpSegs, List.drop_succ_cons, List.drop_zero]
  obtain ⟨qC, zC⟩ := box_facts bC
  go_wp2_with fail
  have fs : Fr (fun b => b = C + 1) w1 (w1.setCell ⟨C + 1, 3, none⟩ (.slice ia it.length ic)) := Fr.setCell (T := fun b => b = C + 1) (Fr.refl _ w1) (p := ⟨C + 1, 3, none⟩) (.inl rfl) _
  have bR2 := block_set bR 3 (.slice ia it.length ic)
  simp only [List.setIfInBounds_toArray, List.set_cons_succ, List.set_cons_zero] at bR2
  have fs2 := fs.drew
  have fs4 : Fr (fun b => b = C + 1) w1.drew (w1.setCell ⟨C + 1, 3, none⟩ (.slice ia it.length ic)).drew := ⟨fs2.os, fs2.tape, fs2.output, fs2.size, fs2.block⟩
  have bR3 : (w1.setCell ⟨C + 1, 3, none⟩ (.slice ia it.length ic)).drew.heap[C + 1]? = some (.cells (#[.int .i64 e1, .int .u64 k1, .slice ga b1.length gc, .slice ia it.length ic, .int .i64 a1, .int .i64 a2, .int .u64 a3, .int .i64 a4, .int .u64 a5, .int .i64 c1, .int .i64 c2, .int .u64 c3, .int .i64 c4, .int .u64 c5, .bool t1] : Array Value) 52 (0, 0)) := bR2
  have bC3 := fs2.heap bC (by omega)
  have H3 := Lib.hid ((H1.out.frame fs4 (fun b _ hb e => by omega)).all)
  have HV3 := Lib.hid ((HV.out.frame fs2 (fun b _ hb e => by omega)).all)
  have HU3 := Lib.hid ((HU.out.frame fs2 (fun b _ hb e => by omega)).all)
  have HW3 := Lib.hid ((H2.out.frame fs4 (fun b _ hb e => by omega)).all)
  have fw3 : Fr Non w _ := f0.trans2 fs2 (fun b hb e => by have := HCC.out; omega)
  clear fs fs4 bR2 bR bC qR zR qC zC H1 H2 HL HV HU HW fd hw1 fs2
  generalize (w1.setCell ⟨C + 1, 3, none⟩ (.slice ia it.length ic)).drew = w3 at bR3 bC3 H3 HV3 HU3 HW3 fw3 ⊢
  obtain ⟨D, hD⟩ : ∃ D, mDo L (k, key, high, bs) = D := ⟨_, rfl⟩
  have hrefs := mDo_refs L (k, key, high, bs)
  have hd1 := fun (w : World) (h : Sl kItem All w (.slice x1 L.length y1) L) (hv : Sl kByte All w (.slice ca bs.length cc) bs) => do_any h (by omega) (k, key, high, bs) hv hk
  have hd2 := fun (w : World) (h : Sl kItem All w (.slice x1 L.length y1) L) (hv : Sl kByte All w (.slice ca bs.length cc) bs) => rdo_any h (by omega) k key high hv hk
  rw [hD] at hd1 hd2 hrefs he
  have HD := Lib.hid hD
  have HD1 := Lib.hid hd1
  have HD2 := Lib.hid hd2
  obtain ⟨hr1, hr2, _⟩ := hrefs
  obtain ⟨m, ⟨e4, k4, b4, i4, rl, rr, t4⟩, ee⟩ := D
  simp only at hr1 hr2 he
  subst hr1 hr2
  have HE := Lib.hid he
  clear hd1 hd2 hD he
  refine (HD1.out _ H3.out HV3.out).mono ?_
  rintro e w4 ⟨x4, y4, rfl, hx4, hy4, f4⟩
  obtain ⟨u4, v4, rfl, hu4, hv4, _⟩ := hy4
  obtain ⟨p1, p2, rfl, _⟩ := hu4.frm
  obtain ⟨p3, p4, rfl, _⟩ := hv4.frm
  obtain ⟨xa4, xc4, rfl⟩ := hx4.form
  simp only [resCells, refCells, r0, List.cons_append, List.nil_append] at hu4 hv4 ⊢
  have fy4 : Fr Non w4 (w4.alloc (.cells #[.int .i64 e4, .int .u64 k4, .slice p1 b4.length p2, .slice p3 i4.length p4, .int .i64 0, .int .i64 0, .int .u64 0, .int .i64 0, .int .u64 0, .int .i64 0, .int .i64 0, .int .u64 0, .int .i64 0, .int .u64 0, .bool t4] 52)) := (Fr.refl _ _).alloc _
  have bP := alloc_at w4 (.cells #[.int .i64 e4, .int .u64 k4, .slice p1 b4.length p2, .slice p3 i4.length p4, .int .i64 0, .int .i64 0, .int .u64 0, .int .i64 0, .int .u64 0, .int .i64 0, .int .i64 0, .int .u64 0, .int .i64 0, .int .u64 0, .bool t4] 52)
  obtain ⟨P, hP⟩ : ∃ P, w4.heap.size = P := ⟨_, rfl⟩
  rw [hP] at bP
  have f5 := f4.trans fy4
  have HX5 := Lib.hid (hx4.sl.stay fy4)
  have HU5 := Lib.hid (hu4.stay fy4)
  have HI5 := Lib.hid (hv4.stay fy4)
  have bC5 := f5.heap bC3 id
  clear hx4 hu4 hv4
  obtain ⟨qC, zC⟩ := box_facts bC5
  go_upto_region 3 with (fail)
  generalize (w4.alloc (.cells #[.int .i64 e4, .int .u64 k4, .slice p1 b4.length p2, .slice p3 i4.length p4, .int .i64 0, .int .i64 0, .int .u64 0, .int .i64 0, .int .u64 0, .int .i64 0, .int .i64 0, .int .u64 0, .int .i64 0, .int .u64 0, .bool t4] 52)) = w5 at fy4 bP f5 HX5 HU5 HI5 bC5 qC zC ⊢
  go_cut [10, 11, 12] (fun v10 v11 v12 wx => DoesCut w5 m e4 k4 b4 i4 t4 ee v10 v11 v12 wx)
  case first =>
    go_wp2_with fail
    refine (HD2.out _ (H3.out.stay f5) (HV3.out.stay f5)).mono ?_
    rintro e w6 ⟨x6, y6, rfl, hx6, hy6, f6⟩
    obtain ⟨u6, v6, rfl, hu6, hv6, _⟩ := hy6
    obtain ⟨q1, q2, rfl, _⟩ := hu6.frm
    obtain ⟨q3, q4, rfl, _⟩ := hv6.frm
    obtain ⟨xa6, xc6, rfl, _⟩ := hx6.frm
    simp only [resCells, refCells, r0, List.cons_append, List.nil_append] at hu6 hv6 ⊢
    have fy6 : Fr Non w6 (w6.alloc (.cells #[.int .i64 e4, .int .u64 k4, .slice q1 b4.length q2, .slice q3 i4.length q4, .int .i64 0, .int .i64 0, .int .u64 0, .int .i64 0, .int .u64 0, .int .i64 0, .int .i64 0, .int .u64 0, .int .i64 0, .int .u64 0, .bool t4] 52)) := (Fr.refl _ _).alloc _
    have bQ := alloc_at w6 (.cells #[.int .i64 e4, .int .u64 k4, .slice q1 b4.length q2, .slice q3 i4.length q4, .int .i64 0, .int .i64 0, .int .u64 0, .int .i64 0, .int .u64 0, .int .i64 0, .int .i64 0, .int .u64 0, .int .i64 0, .int .u64 0, .bool t4] 52)
    go_wp2_with fail
    go_meet
    exact ⟨xa6, xc6, w6.heap.size, q1, q2, q3, q4, rfl, rfl, rfl, bQ, (hx6.stay fy6).all, (hu6.stay fy6).all, (hv6.stay fy6).all, f6.trans fy6⟩
  obtain ⟨xa6, xc6, Q, q1, q2, q3, q4, rfl, rfl, rfl, bQ, hx7, hu7, hv7, f67⟩ := hcut
  have f57 := f5.trans f67
  have g1 := Lib.hid (cells_of (f67.heap bC5 id))
  have g2 := Lib.hid (cells_of (f57.heap bR3 id))
  have g3 := Lib.hid (cells_of (f67.heap bP id))
  have g4 := Lib.hid (cells_of bQ)
  have K1 := Lib.hid (H3.out.stay f57)
  have K2 := Lib.hid (HV3.out.stay f57)
  have K3 := Lib.hid (HU3.out.stay f57)
  have K4 := Lib.hid (HW3.out.stay f57)
  have K5 := Lib.hid (HX5.out.stay f67)
  have K6 := Lib.hid (HU5.out.stay f67)
  have K7 := Lib.hid (HI5.out.stay f67)
  have K8 := Lib.hid hx7
  have K9 := Lib.hid hu7
  have K10 := Lib.hid hv7
  have fw7 := fw3.trans f57
  clear hx7 hu7 hv7 qC zC bC5 bP bQ bR3 bC3 HD1 HD2 H3 HV3 HU3 HW3 HX5 HU5 HI5
  generalize hww : wc = w7 at g1 g2 g3 g4 K1 K2 K3 K4 K5 K6 K7 K8 K9 K10 fw7 f57 f67 ⊢
  clear hww
  go_wp2_with fail
  have hq1 := fun (w : World) (h : Sl kItem All w (.slice xa4 m.length xc4) m) (h2 : Sl kItem All w (.slice xa6 m.length xc6) m) => rsame_any h h2
  rw [show decide (m = m) = true from decide_eq_true rfl] at hq1
  have hq2 := fun (w : World) (h1 : Sl kByte All w (.slice p1 b4.length p2) b4) (h2 : Sl kItem All w (.slice p3 i4.length p4) i4) (h3 : Sl kByte All w (.slice q1 b4.length q2) b4) (h4 : Sl kItem All w (.slice q3 i4.length q4) i4) => rsres_any (e4, k4, b4, i4, r0, r0, t4) (e4, k4, b4, i4, r0, r0, t4) h1 h2 h3 h4
  rw [show decide (((e4, k4, b4, i4, r0, r0, t4) : MRes) = (e4, k4, b4, i4, r0, r0, t4)) = true from decide_eq_true rfl] at hq2
  obtain ⟨T, hT⟩ : ∃ T, mTells L (k, key, high, bs) (e1, k1, b1, it, (a1, (a2, a3), a4, a5), (c1, (c2, c3), c4, c5), t1) = T := ⟨_, rfl⟩
  have hq3 := fun (w : World) (h : Sl kItem All w (.slice x1 L.length y1) L) (hv : Sl kByte All w (.slice ca bs.length cc) bs) (hu : Sl kByte All w (.slice ga b1.length gc) b1) (hi : Sl kItem All w (.slice ia it.length ic) it) => tells_any h (by omega) k key high hv hk (e1, k1, b1, it, (a1, (a2, a3), a4, a5), (c1, (c2, c3), c4, c5), t1) hu hi
  have hq4 := fun (w : World) (h : Sl kItem All w (.slice x1 L.length y1) L) (hv : Sl kByte All w (.slice ca bs.length cc) bs) (hu : Sl kByte All w (.slice ga b1.length gc) b1) (hi : Sl kItem All w (.slice ia it.length ic) it) => rtells_any h (by omega) k key high hv hk (e1, k1, b1, it, (a1, (a2, a3), a4, a5), (c1, (c2, c3), c4, c5), t1) hu hi
  rw [hT] at hq3 hq4
  have hq5 := fun (w : World) (h : Sl kItem All w (.slice x1 L.length y1) L) (hv : Sl kByte All w (.slice ca bs.length cc) bs) (hu : Sl kByte All w (.slice p1 b4.length p2) b4) (hi : Sl kItem All w (.slice p3 i4.length p4) i4) => tells_any h (by omega) k key high hv hk (e4, k4, b4, i4, r0, r0, t4) hu hi
  have hT5 : mTells L (k, key, high, bs) (e4, k4, b4, i4, r0, r0, t4) = decide (ee = 0) := by unfold mTells; rw [HD.out]; simp
  rw [hT5] at hq5
  obtain ⟨d, hd⟩ : ∃ d, decide (((e4, k4, b4, i4, r0, r0, t4) : MRes) = (e1, k1, b1, it, (a1, (a2, a3), a4, a5), (c1, (c2, c3), c4, c5), t1)) = d := ⟨_, rfl⟩
  have hq6 := fun (w : World) (h1 : Sl kByte All w (.slice p1 b4.length p2) b4) (h2 : Sl kItem All w (.slice p3 i4.length p4) i4) (h3 : Sl kByte All w (.slice ga b1.length gc) b1) (h4 : Sl kItem All w (.slice ia it.length ic) it) => msres_any (e4, k4, b4, i4, r0, r0, t4) (e1, k1, b1, it, (a1, (a2, a3), a4, a5), (c1, (c2, c3), c4, c5), t1) h1 h2 h3 h4
  have hq7 := fun (w : World) (h1 : Sl kByte All w (.slice p1 b4.length p2) b4) (h2 : Sl kItem All w (.slice p3 i4.length p4) i4) (h3 : Sl kByte All w (.slice ga b1.length gc) b1) (h4 : Sl kItem All w (.slice ia it.length ic) it) => rsres_any (e4, k4, b4, i4, r0, r0, t4) (e1, k1, b1, it, (a1, (a2, a3), a4, a5), (c1, (c2, c3), c4, c5), t1) h1 h2 h3 h4
  rw [hd] at hq6 hq7
  simp only [resCells, refCells, r0, List.cons_append, List.nil_append] at hq2 hq3 hq4 hq5 hq6 hq7
  have ld1 : ∀ y, Fr Non w7 y → (do pure (Next.value (← Instr.loadAt 39 (.pointer (some ⟨C, 0, none⟩)))) : Sem Next).run Try.prog y = .ok (.value (Value.agg #[.int .i64 k, .int .u64 key, .int .u64 high, .slice ca bs.length cc])) y := by
    intro y hS
    have c0' : y.cell? ⟨C, 0, none⟩ = some _ := hS.cell (g1.out 0 _ rfl) id; have c1' : y.cell? ⟨C, 1, none⟩ = some _ := hS.cell (g1.out 1 _ rfl) id; have c2' : y.cell? ⟨C, 2, none⟩ = some _ := hS.cell (g1.out 2 _ rfl) id; have c3' : y.cell? ⟨C, 3, none⟩ = some _ := hS.cell (g1.out 3 _ rfl) id
    clear hS
    go_simp
  obtain ⟨V1, hV1⟩ : ∃ V, (Value.agg #[.int .i64 k, .int .u64 key, .int .u64 high, .slice ca bs.length cc]) = V := ⟨_, rfl⟩
  rw [hV1] at ld1 hq3 hq4 hq5 ⊢
  have LD1 := Lib.hid ld1
  clear ld1 hV1
  have ld2 : ∀ y, Fr Non w7 y → (do pure (Next.value (← Instr.loadAt 52 (.pointer (some ⟨C + 1, 0, none⟩)))) : Sem Next).run Try.prog y = .ok (.value (Value.agg #[.int .i64 e1, .int .u64 k1, .slice ga b1.length gc, .slice ia it.length ic, .int .i64 a1, .int .i64 a2, .int .u64 a3, .int .i64 a4, .int .u64 a5, .int .i64 c1, .int .i64 c2, .int .u64 c3, .int .i64 c4, .int .u64 c5, .bool t1])) y := by
    intro y hS
    have c0' : y.cell? ⟨C + 1, 0, none⟩ = some _ := hS.cell (g2.out 0 _ rfl) id; have c1' : y.cell? ⟨C + 1, 1, none⟩ = some _ := hS.cell (g2.out 1 _ rfl) id; have c2' : y.cell? ⟨C + 1, 2, none⟩ = some _ := hS.cell (g2.out 2 _ rfl) id; have c3' : y.cell? ⟨C + 1, 3, none⟩ = some _ := hS.cell (g2.out 3 _ rfl) id; have c4' : y.cell? ⟨C + 1, 4, none⟩ = some _ := hS.cell (g2.out 4 _ rfl) id; have c5' : y.cell? ⟨C + 1, 5, none⟩ = some _ := hS.cell (g2.out 5 _ rfl) id; have c6' : y.cell? ⟨C + 1, 6, none⟩ = some _ := hS.cell (g2.out 6 _ rfl) id; have c7' : y.cell? ⟨C + 1, 7, none⟩ = some _ := hS.cell (g2.out 7 _ rfl) id; have c8' : y.cell? ⟨C + 1, 8, none⟩ = some _ := hS.cell (g2.out 8 _ rfl) id; have c9' : y.cell? ⟨C + 1, 9, none⟩ = some _ := hS.cell (g2.out 9 _ rfl) id; have c10' : y.cell? ⟨C + 1, 10, none⟩ = some _ := hS.cell (g2.out 10 _ rfl) id; have c11' : y.cell? ⟨C + 1, 11, none⟩ = some _ := hS.cell (g2.out 11 _ rfl) id; have c12' : y.cell? ⟨C + 1, 12, none⟩ = some _ := hS.cell (g2.out 12 _ rfl) id; have c13' : y.cell? ⟨C + 1, 13, none⟩ = some _ := hS.cell (g2.out 13 _ rfl) id; have c14' : y.cell? ⟨C + 1, 14, none⟩ = some _ := hS.cell (g2.out 14 _ rfl) id
    clear hS
    go_simp
  obtain ⟨V2, hV2⟩ : ∃ V, (Value.agg #[.int .i64 e1, .int .u64 k1, .slice ga b1.length gc, .slice ia it.length ic, .int .i64 a1, .int .i64 a2, .int .u64 a3, .int .i64 a4, .int .u64 a5, .int .i64 c1, .int .i64 c2, .int .u64 c3, .int .i64 c4, .int .u64 c5, .bool t1]) = V := ⟨_, rfl⟩
  rw [hV2] at ld2 hq3 hq4 hq6 hq7
  have LD2 := Lib.hid ld2
  clear ld2 hV2
  have ld3 : ∀ y, Fr Non w7 y → (do pure (Next.value (← Instr.loadAt 52 (.pointer (some ⟨P, 0, none⟩)))) : Sem Next).run Try.prog y = .ok (.value (Value.agg #[.int .i64 e4, .int .u64 k4, .slice p1 b4.length p2, .slice p3 i4.length p4, .int .i64 0, .int .i64 0, .int .u64 0, .int .i64 0, .int .u64 0, .int .i64 0, .int .i64 0, .int .u64 0, .int .i64 0, .int .u64 0, .bool t4])) y := by
    intro y hS
    have c0' : y.cell? ⟨P, 0, none⟩ = some _ := hS.cell (g3.out 0 _ rfl) id; have c1' : y.cell? ⟨P, 1, none⟩ = some _ := hS.cell (g3.out 1 _ rfl) id; have c2' : y.cell? ⟨P, 2, none⟩ = some _ := hS.cell (g3.out 2 _ rfl) id; have c3' : y.cell? ⟨P, 3, none⟩ = some _ := hS.cell (g3.out 3 _ rfl) id; have c4' : y.cell? ⟨P, 4, none⟩ = some _ := hS.cell (g3.out 4 _ rfl) id; have c5' : y.cell? ⟨P, 5, none⟩ = some _ := hS.cell (g3.out 5 _ rfl) id; have c6' : y.cell? ⟨P, 6, none⟩ = some _ := hS.cell (g3.out 6 _ rfl) id; have c7' : y.cell? ⟨P, 7, none⟩ = some _ := hS.cell (g3.out 7 _ rfl) id; have c8' : y.cell? ⟨P, 8, none⟩ = some _ := hS.cell (g3.out 8 _ rfl) id; have c9' : y.cell? ⟨P, 9, none⟩ = some _ := hS.cell (g3.out 9 _ rfl) id; have c10' : y.cell? ⟨P, 10, none⟩ = some _ := hS.cell (g3.out 10 _ rfl) id; have c11' : y.cell? ⟨P, 11, none⟩ = some _ := hS.cell (g3.out 11 _ rfl) id; have c12' : y.cell? ⟨P, 12, none⟩ = some _ := hS.cell (g3.out 12 _ rfl) id; have c13' : y.cell? ⟨P, 13, none⟩ = some _ := hS.cell (g3.out 13 _ rfl) id; have c14' : y.cell? ⟨P, 14, none⟩ = some _ := hS.cell (g3.out 14 _ rfl) id
    clear hS
    go_simp
  obtain ⟨V3, hV3⟩ : ∃ V, (Value.agg #[.int .i64 e4, .int .u64 k4, .slice p1 b4.length p2, .slice p3 i4.length p4, .int .i64 0, .int .i64 0, .int .u64 0, .int .i64 0, .int .u64 0, .int .i64 0, .int .i64 0, .int .u64 0, .int .i64 0, .int .u64 0, .bool t4]) = V := ⟨_, rfl⟩
  rw [hV3] at ld3 hq2 hq5 hq6 hq7
  have LD3 := Lib.hid ld3
  clear ld3 hV3
  have ld4 : ∀ y, Fr Non w7 y → (do pure (Next.value (← Instr.loadAt 52 (.pointer (some ⟨Q, 0, none⟩)))) : Sem Next).run Try.prog y = .ok (.value (Value.agg #[.int .i64 e4, .int .u64 k4, .slice q1 b4.length q2, .slice q3 i4.length q4, .int .i64 0, .int .i64 0, .int .u64 0, .int .i64 0, .int .u64 0, .int .i64 0, .int .i64 0, .int .u64 0, .int .i64 0, .int .u64 0, .bool t4])) y := by
    intro y hS
    have c0' : y.cell? ⟨Q, 0, none⟩ = some _ := hS.cell (g4.out 0 _ rfl) id; have c1' : y.cell? ⟨Q, 1, none⟩ = some _ := hS.cell (g4.out 1 _ rfl) id; have c2' : y.cell? ⟨Q, 2, none⟩ = some _ := hS.cell (g4.out 2 _ rfl) id; have c3' : y.cell? ⟨Q, 3, none⟩ = some _ := hS.cell (g4.out 3 _ rfl) id; have c4' : y.cell? ⟨Q, 4, none⟩ = some _ := hS.cell (g4.out 4 _ rfl) id; have c5' : y.cell? ⟨Q, 5, none⟩ = some _ := hS.cell (g4.out 5 _ rfl) id; have c6' : y.cell? ⟨Q, 6, none⟩ = some _ := hS.cell (g4.out 6 _ rfl) id; have c7' : y.cell? ⟨Q, 7, none⟩ = some _ := hS.cell (g4.out 7 _ rfl) id; have c8' : y.cell? ⟨Q, 8, none⟩ = some _ := hS.cell (g4.out 8 _ rfl) id; have c9' : y.cell? ⟨Q, 9, none⟩ = some _ := hS.cell (g4.out 9 _ rfl) id; have c10' : y.cell? ⟨Q, 10, none⟩ = some _ := hS.cell (g4.out 10 _ rfl) id; have c11' : y.cell? ⟨Q, 11, none⟩ = some _ := hS.cell (g4.out 11 _ rfl) id; have c12' : y.cell? ⟨Q, 12, none⟩ = some _ := hS.cell (g4.out 12 _ rfl) id; have c13' : y.cell? ⟨Q, 13, none⟩ = some _ := hS.cell (g4.out 13 _ rfl) id; have c14' : y.cell? ⟨Q, 14, none⟩ = some _ := hS.cell (g4.out 14 _ rfl) id
    clear hS
    go_simp
  obtain ⟨V4, hV4⟩ : ∃ V, (Value.agg #[.int .i64 e4, .int .u64 k4, .slice q1 b4.length q2, .slice q3 i4.length q4, .int .i64 0, .int .i64 0, .int .u64 0, .int .i64 0, .int .u64 0, .int .i64 0, .int .i64 0, .int .u64 0, .int .i64 0, .int .u64 0, .bool t4]) = V := ⟨_, rfl⟩
  rw [hV4] at ld4 hq2
  have LD4 := Lib.hid ld4
  clear ld4 hV4
  generalize (Value.agg #[.int .i64 e1, .int .u64 k1, .slice ga b1.length gc, .slice ha l1.length hc, .int .i64 a1, .int .i64 a2, .int .u64 a3, .int .i64 a4, .int .u64 a5, .int .i64 c1, .int .i64 c2, .int .u64 c3, .int .i64 c4, .int .u64 c5, .bool t1]) = V0
  have Q1 := Lib.hid hq1
  have Q2 := Lib.hid hq2
  have Q3 := Lib.hid hq3
  have Q4 := Lib.hid hq4
  have Q6 := Lib.hid hq6
  have Q7 := Lib.hid hq7
  clear hq1 hq2 hq3 hq4 hq6 hq7 hT hT5 hd HD
  have he := HE.out
  subst he
  rw [show decide ((0 : Int) = 0) = true from rfl] at hq5
  have Q5 := Lib.hid hq5
  clear hq5
  refine wp_drawL ((Fr Non w7)) [(.free, 0), (.free, 1), (.kept, 2), (.free, 3), (.held, 4), (.held, 5), (.kept, 6), (.free, 7), (.free, 8), (.free, 9), (.free, 10), (.free, 11), (.free, 12), (.free, 13), (.free, 14), (.held, 15), (.held, 16), (.free, 18), (.held, 19), (.held, 20), (.kept, 17), (.kept, 21), (.free, 22), (.free, 23), (.free, 24), (.free, 25), (.free, 26), (.free, 27), (.free, 28), (.held, 29), (.held, 30), (.kept, 31), (.free, 32), (.free, 33), (.free, 34), (.held, 35), (.held, 36), (.held, 38), (.held, 39), (.kept, 37), (.kept, 40), (.free, 41), (.free, 42), (.free, 43), (.kept, 44), (.free, 45), (.free, 46)] 47 (fun i => ([#[], #[], #[], #[], #[true, true, true, true, false, true, false, false, false, false, false, false, false, false, false, false, false, false, false, false, false, false, false, false, false, false, false, false, false, false, false, false, false, false, false, false, false, false, false, false, false, false, false, false, false, false, false], #[true, true, true, true, true, false, false, false, false, false, false, false, false, false, false, false, false, false, false, false, false, false, false, false, false, false, false, false, false, false, false, false, false, false, false, false, false, false, false, false, false, false, false, false, false, false, false], #[], #[], #[], #[], #[], #[], #[], #[], #[], #[true, true, true, true, true, true, true, true, true, true, true, true, true, true, true, false, true, false, true, true, true, false, false, false, false, false, false, false, false, false, false, false, false, false, false, false, false, false, false, false, false, false, false, false, false, false, false], #[true, true, true, true, true, true, true, true, true, true, true, true, true, true, true, true, false, false, true, true, true, false, false, false, false, false, false, false, false, false, false, false, false, false, false, false, false, false, false, false, false, false, false, false, false, false, false], #[], #[], #[true, true, true, true, true, true, true, true, true, true, true, true, true, true, true, true, true, true, true, false, true, false, false, false, false, false, false, false, false, false, false, false, false, false, false, false, false, false, false, false, false, false, false, false, false, false, false], #[true, true, true, true, true, true, true, true, true, true, true, true, true, true, true, true, true, true, true, true, false, false, false, false, false, false, false, false, false, false, false, false, false, false, false, false, false, false, false, false, false, false, false, false, false, false, false], #[], #[], #[], #[], #[], #[], #[], #[], #[true, true, true, true, true, true, true, true, true, true, true, true, true, true, true, true, true, true, true, true, true, true, true, true, true, true, true, true, true, false, true, false, false, false, false, false, false, false, false, false, false, false, false, false, false, false, false], #[true, true, true, true, true, true, true, true, true, true, true, true, true, true, true, true, true, true, true, true, true, true, true, true, true, true, true, true, true, true, false, false, false, false, false, false, false, false, false, false, false, false, false, false, false, false, false], #[], #[], #[], #[], #[true, true, true, true, true, true, true, true, true, true, true, true, true, true, true, true, true, true, true, true, true, true, true, true, true, true, true, true, true, true, true, true, true, true, true, false, true, false, true, true, false, false, false, false, false, false, false], #[true, true, true, true, true, true, true, true, true, true, true, true, true, true, true, true, true, true, true, true, true, true, true, true, true, true, true, true, true, true, true, true, true, true, true, true, false, false, true, true, false, false, false, false, false, false, false], #[], #[true, true, true, true, true, true, true, true, true, true, true, true, true, true, true, true, true, true, true, true, true, true, true, true, true, true, true, true, true, true, true, true, true, true, true, true, true, true, false, true, false, false, false, false, false, false, false], #[true, true, true, true, true, true, true, true, true, true, true, true, true, true, true, true, true, true, true, true, true, true, true, true, true, true, true, true, true, true, true, true, true, true, true, true, true, true, true, false, false, false, false, false, false, false, false], #[], #[], #[], #[], #[], #[], #[]] : List (Array Bool)).getD i #[]) (by kernel_rfl) (by as_aux_lemma => kernel_rfl) (fun _ _ _ _ _ h => h) ⟨(Fr.refl _ _).drew, ?_⟩
  have fd : Fr Non w7 w7.drew := (Fr.refl _ _).drew
  generalize w7.drew = wd at fd ⊢
  repeat (first
    | (refine' wpPlan_free (v := _) rfl (by rfl) ?_ ?_
       rotate_left
       · (intro w'; go_simp; try rfl)
       simp only [List.getElem_toArray, List.getElem_cons_zero, List.getElem_cons_succ, Act.put, List.setIfInBounds_toArray, List.set_cons_zero, List.set_cons_succ])
    | (refine' wpPlan_held (v := V1) rfl (by rfl) (fun w' hS => LD1.out w' hS) ?_
       simp only [List.getElem_toArray, List.getElem_cons_zero, List.getElem_cons_succ, Act.put, List.setIfInBounds_toArray, List.set_cons_zero, List.set_cons_succ])
    | (refine' wpPlan_held (v := V2) rfl (by rfl) (fun w' hS => LD2.out w' hS) ?_
       simp only [List.getElem_toArray, List.getElem_cons_zero, List.getElem_cons_succ, Act.put, List.setIfInBounds_toArray, List.set_cons_zero, List.set_cons_succ])
    | (refine' wpPlan_held (v := V3) rfl (by rfl) (fun w' hS => LD3.out w' hS) ?_
       simp only [List.getElem_toArray, List.getElem_cons_zero, List.getElem_cons_succ, Act.put, List.setIfInBounds_toArray, List.set_cons_zero, List.set_cons_succ])
    | (refine' wpPlan_held (v := V4) rfl (by rfl) (fun w' hS => LD4.out w' hS) ?_
       simp only [List.getElem_toArray, List.getElem_cons_zero, List.getElem_cons_succ, Act.put, List.setIfInBounds_toArray, List.set_cons_zero, List.set_cons_succ])
    | (refine' wpPlan_skip rfl (by rfl) ?_
       simp only [List.getElem_toArray, List.getElem_cons_zero, List.getElem_cons_succ, Act.put, List.setIfInBounds_toArray, List.set_cons_zero, List.set_cons_succ])
    | (refine' wpPlan_skipHeld rfl (by rfl) ?_
       simp only [List.getElem_toArray, List.getElem_cons_zero, List.getElem_cons_succ, Act.put, List.setIfInBounds_toArray, List.set_cons_zero, List.set_cons_succ]))
  refine' wpPlan_kept rfl ?_
  intro K hK
  go_simp
  refine (Q1.out _ (K5.out.stay fd) (K8.out.stay fd)).mono ?_
  rintro e wn0 ⟨rfl, fn0⟩
  have fm0 := Fr.trans fd fn0
  go_simp
  refine hK _ _ ⟨fm0, ?_⟩
  clear hK K
  repeat (first
    | (refine' wpPlan_free (v := _) rfl (by rfl) ?_ ?_
       rotate_left
       · (intro w'; go_simp; try rfl)
       simp only [List.getElem_toArray, List.getElem_cons_zero, List.getElem_cons_succ, Act.put, List.setIfInBounds_toArray, List.set_cons_zero, List.set_cons_succ])
    | (refine' wpPlan_held (v := V1) rfl (by rfl) (fun w' hS => LD1.out w' hS) ?_
       simp only [List.getElem_toArray, List.getElem_cons_zero, List.getElem_cons_succ, Act.put, List.setIfInBounds_toArray, List.set_cons_zero, List.set_cons_succ])
    | (refine' wpPlan_held (v := V2) rfl (by rfl) (fun w' hS => LD2.out w' hS) ?_
       simp only [List.getElem_toArray, List.getElem_cons_zero, List.getElem_cons_succ, Act.put, List.setIfInBounds_toArray, List.set_cons_zero, List.set_cons_succ])
    | (refine' wpPlan_held (v := V3) rfl (by rfl) (fun w' hS => LD3.out w' hS) ?_
       simp only [List.getElem_toArray, List.getElem_cons_zero, List.getElem_cons_succ, Act.put, List.setIfInBounds_toArray, List.set_cons_zero, List.set_cons_succ])
    | (refine' wpPlan_held (v := V4) rfl (by rfl) (fun w' hS => LD4.out w' hS) ?_
       simp only [List.getElem_toArray, List.getElem_cons_zero, List.getElem_cons_succ, Act.put, List.setIfInBounds_toArray, List.set_cons_zero, List.set_cons_succ])
    | (refine' wpPlan_skip rfl (by rfl) ?_
       simp only [List.getElem_toArray, List.getElem_cons_zero, List.getElem_cons_succ, Act.put, List.setIfInBounds_toArray, List.set_cons_zero, List.set_cons_succ])
    | (refine' wpPlan_skipHeld rfl (by rfl) ?_
       simp only [List.getElem_toArray, List.getElem_cons_zero, List.getElem_cons_succ, Act.put, List.setIfInBounds_toArray, List.set_cons_zero, List.set_cons_succ]))
  refine' wpPlan_kept rfl ?_
  intro K hK
  go_simp
  refine (Q2.out _ (K6.out.stay fm0) (K7.out.stay fm0) (K9.out.stay fm0) (K10.out.stay fm0)).mono ?_
  rintro e wn1 ⟨rfl, fn1⟩
  have fm1 := Fr.trans fm0 fn1
  go_simp
  refine hK _ _ ⟨fm1, ?_⟩
  clear hK K
  repeat (first
    | (refine' wpPlan_free (v := _) rfl (by rfl) ?_ ?_
       rotate_left
       · (intro w'; go_simp; try rfl)
       simp only [List.getElem_toArray, List.getElem_cons_zero, List.getElem_cons_succ, Act.put, List.setIfInBounds_toArray, List.set_cons_zero, List.set_cons_succ])
    | (refine' wpPlan_held (v := V1) rfl (by rfl) (fun w' hS => LD1.out w' hS) ?_
       simp only [List.getElem_toArray, List.getElem_cons_zero, List.getElem_cons_succ, Act.put, List.setIfInBounds_toArray, List.set_cons_zero, List.set_cons_succ])
    | (refine' wpPlan_held (v := V2) rfl (by rfl) (fun w' hS => LD2.out w' hS) ?_
       simp only [List.getElem_toArray, List.getElem_cons_zero, List.getElem_cons_succ, Act.put, List.setIfInBounds_toArray, List.set_cons_zero, List.set_cons_succ])
    | (refine' wpPlan_held (v := V3) rfl (by rfl) (fun w' hS => LD3.out w' hS) ?_
       simp only [List.getElem_toArray, List.getElem_cons_zero, List.getElem_cons_succ, Act.put, List.setIfInBounds_toArray, List.set_cons_zero, List.set_cons_succ])
    | (refine' wpPlan_held (v := V4) rfl (by rfl) (fun w' hS => LD4.out w' hS) ?_
       simp only [List.getElem_toArray, List.getElem_cons_zero, List.getElem_cons_succ, Act.put, List.setIfInBounds_toArray, List.set_cons_zero, List.set_cons_succ])
    | (refine' wpPlan_skip rfl (by rfl) ?_
       simp only [List.getElem_toArray, List.getElem_cons_zero, List.getElem_cons_succ, Act.put, List.setIfInBounds_toArray, List.set_cons_zero, List.set_cons_succ])
    | (refine' wpPlan_skipHeld rfl (by rfl) ?_
       simp only [List.getElem_toArray, List.getElem_cons_zero, List.getElem_cons_succ, Act.put, List.setIfInBounds_toArray, List.set_cons_zero, List.set_cons_succ]))
  refine' wpPlan_kept rfl ?_
  intro K hK
  go_simp
  refine (Q3.out _ (K1.out.stay fm1) (K2.out.stay fm1) (K3.out.stay fm1) (K4.out.stay fm1)).mono ?_
  rintro e wn2 ⟨rfl, fn2⟩
  have fm2 := Fr.trans fm1 fn2
  go_simp
  refine hK _ _ ⟨fm2, ?_⟩
  clear hK K
  repeat (first
    | (refine' wpPlan_free (v := _) rfl (by rfl) ?_ ?_
       rotate_left
       · (intro w'; go_simp; try rfl)
       simp only [List.getElem_toArray, List.getElem_cons_zero, List.getElem_cons_succ, Act.put, List.setIfInBounds_toArray, List.set_cons_zero, List.set_cons_succ])
    | (refine' wpPlan_held (v := V1) rfl (by rfl) (fun w' hS => LD1.out w' hS) ?_
       simp only [List.getElem_toArray, List.getElem_cons_zero, List.getElem_cons_succ, Act.put, List.setIfInBounds_toArray, List.set_cons_zero, List.set_cons_succ])
    | (refine' wpPlan_held (v := V2) rfl (by rfl) (fun w' hS => LD2.out w' hS) ?_
       simp only [List.getElem_toArray, List.getElem_cons_zero, List.getElem_cons_succ, Act.put, List.setIfInBounds_toArray, List.set_cons_zero, List.set_cons_succ])
    | (refine' wpPlan_held (v := V3) rfl (by rfl) (fun w' hS => LD3.out w' hS) ?_
       simp only [List.getElem_toArray, List.getElem_cons_zero, List.getElem_cons_succ, Act.put, List.setIfInBounds_toArray, List.set_cons_zero, List.set_cons_succ])
    | (refine' wpPlan_held (v := V4) rfl (by rfl) (fun w' hS => LD4.out w' hS) ?_
       simp only [List.getElem_toArray, List.getElem_cons_zero, List.getElem_cons_succ, Act.put, List.setIfInBounds_toArray, List.set_cons_zero, List.set_cons_succ])
    | (refine' wpPlan_skip rfl (by rfl) ?_
       simp only [List.getElem_toArray, List.getElem_cons_zero, List.getElem_cons_succ, Act.put, List.setIfInBounds_toArray, List.set_cons_zero, List.set_cons_succ])
    | (refine' wpPlan_skipHeld rfl (by rfl) ?_
       simp only [List.getElem_toArray, List.getElem_cons_zero, List.getElem_cons_succ, Act.put, List.setIfInBounds_toArray, List.set_cons_zero, List.set_cons_succ]))
  refine' wpPlan_kept rfl ?_
  intro K hK
  go_simp
  refine (Q4.out _ (K1.out.stay fm2) (K2.out.stay fm2) (K3.out.stay fm2) (K4.out.stay fm2)).mono ?_
  rintro e wn3 ⟨rfl, fn3⟩
  have fm3 := Fr.trans fm2 fn3
  go_simp
  refine hK _ _ ⟨fm3, ?_⟩
  clear hK K
  repeat (first
    | (refine' wpPlan_free (v := _) rfl (by rfl) ?_ ?_
       rotate_left
       · (intro w'; go_simp; try rfl)
       simp only [List.getElem_toArray, List.getElem_cons_zero, List.getElem_cons_succ, Act.put, List.setIfInBounds_toArray, List.set_cons_zero, List.set_cons_succ])
    | (refine' wpPlan_held (v := V1) rfl (by rfl) (fun w' hS => LD1.out w' hS) ?_
       simp only [List.getElem_toArray, List.getElem_cons_zero, List.getElem_cons_succ, Act.put, List.setIfInBounds_toArray, List.set_cons_zero, List.set_cons_succ])
    | (refine' wpPlan_held (v := V2) rfl (by rfl) (fun w' hS => LD2.out w' hS) ?_
       simp only [List.getElem_toArray, List.getElem_cons_zero, List.getElem_cons_succ, Act.put, List.setIfInBounds_toArray, List.set_cons_zero, List.set_cons_succ])
    | (refine' wpPlan_held (v := V3) rfl (by rfl) (fun w' hS => LD3.out w' hS) ?_
       simp only [List.getElem_toArray, List.getElem_cons_zero, List.getElem_cons_succ, Act.put, List.setIfInBounds_toArray, List.set_cons_zero, List.set_cons_succ])
    | (refine' wpPlan_held (v := V4) rfl (by rfl) (fun w' hS => LD4.out w' hS) ?_
       simp only [List.getElem_toArray, List.getElem_cons_zero, List.getElem_cons_succ, Act.put, List.setIfInBounds_toArray, List.set_cons_zero, List.set_cons_succ])
    | (refine' wpPlan_skip rfl (by rfl) ?_
       simp only [List.getElem_toArray, List.getElem_cons_zero, List.getElem_cons_succ, Act.put, List.setIfInBounds_toArray, List.set_cons_zero, List.set_cons_succ])
    | (refine' wpPlan_skipHeld rfl (by rfl) ?_
       simp only [List.getElem_toArray, List.getElem_cons_zero, List.getElem_cons_succ, Act.put, List.setIfInBounds_toArray, List.set_cons_zero, List.set_cons_succ]))
  refine' wpPlan_kept rfl ?_
  intro K hK
  go_simp
  refine (Q5.out _ (K1.out.stay fm3) (K2.out.stay fm3) (K6.out.stay fm3) (K7.out.stay fm3)).mono ?_
  rintro e wn4 ⟨rfl, fn4⟩
  have fm4 := Fr.trans fm3 fn4
  go_simp
  refine hK _ _ ⟨fm4, ?_⟩
  clear hK K
  repeat (first
    | (refine' wpPlan_free (v := _) rfl (by rfl) ?_ ?_
       rotate_left
       · (intro w'; go_simp; try rfl)
       simp only [List.getElem_toArray, List.getElem_cons_zero, List.getElem_cons_succ, Act.put, List.setIfInBounds_toArray, List.set_cons_zero, List.set_cons_succ])
    | (refine' wpPlan_held (v := V1) rfl (by rfl) (fun w' hS => LD1.out w' hS) ?_
       simp only [List.getElem_toArray, List.getElem_cons_zero, List.getElem_cons_succ, Act.put, List.setIfInBounds_toArray, List.set_cons_zero, List.set_cons_succ])
    | (refine' wpPlan_held (v := V2) rfl (by rfl) (fun w' hS => LD2.out w' hS) ?_
       simp only [List.getElem_toArray, List.getElem_cons_zero, List.getElem_cons_succ, Act.put, List.setIfInBounds_toArray, List.set_cons_zero, List.set_cons_succ])
    | (refine' wpPlan_held (v := V3) rfl (by rfl) (fun w' hS => LD3.out w' hS) ?_
       simp only [List.getElem_toArray, List.getElem_cons_zero, List.getElem_cons_succ, Act.put, List.setIfInBounds_toArray, List.set_cons_zero, List.set_cons_succ])
    | (refine' wpPlan_held (v := V4) rfl (by rfl) (fun w' hS => LD4.out w' hS) ?_
       simp only [List.getElem_toArray, List.getElem_cons_zero, List.getElem_cons_succ, Act.put, List.setIfInBounds_toArray, List.set_cons_zero, List.set_cons_succ])
    | (refine' wpPlan_skip rfl (by rfl) ?_
       simp only [List.getElem_toArray, List.getElem_cons_zero, List.getElem_cons_succ, Act.put, List.setIfInBounds_toArray, List.set_cons_zero, List.set_cons_succ])
    | (refine' wpPlan_skipHeld rfl (by rfl) ?_
       simp only [List.getElem_toArray, List.getElem_cons_zero, List.getElem_cons_succ, Act.put, List.setIfInBounds_toArray, List.set_cons_zero, List.set_cons_succ]))
  refine' wpPlan_kept rfl ?_
  intro K hK
  go_simp
  refine (Q6.out _ (K6.out.stay fm4) (K7.out.stay fm4) (K3.out.stay fm4) (K4.out.stay fm4)).mono ?_
  rintro e wn5 ⟨rfl, fn5⟩
  have fm5 := Fr.trans fm4 fn5
  go_simp
  refine hK _ _ ⟨fm5, ?_⟩
  clear hK K
  repeat (first
    | (refine' wpPlan_free (v := _) rfl (by rfl) ?_ ?_
       rotate_left
       · (intro w'; go_simp; try rfl)
       simp only [List.getElem_toArray, List.getElem_cons_zero, List.getElem_cons_succ, Act.put, List.setIfInBounds_toArray, List.set_cons_zero, List.set_cons_succ])
    | (refine' wpPlan_held (v := V1) rfl (by rfl) (fun w' hS => LD1.out w' hS) ?_
       simp only [List.getElem_toArray, List.getElem_cons_zero, List.getElem_cons_succ, Act.put, List.setIfInBounds_toArray, List.set_cons_zero, List.set_cons_succ])
    | (refine' wpPlan_held (v := V2) rfl (by rfl) (fun w' hS => LD2.out w' hS) ?_
       simp only [List.getElem_toArray, List.getElem_cons_zero, List.getElem_cons_succ, Act.put, List.setIfInBounds_toArray, List.set_cons_zero, List.set_cons_succ])
    | (refine' wpPlan_held (v := V3) rfl (by rfl) (fun w' hS => LD3.out w' hS) ?_
       simp only [List.getElem_toArray, List.getElem_cons_zero, List.getElem_cons_succ, Act.put, List.setIfInBounds_toArray, List.set_cons_zero, List.set_cons_succ])
    | (refine' wpPlan_held (v := V4) rfl (by rfl) (fun w' hS => LD4.out w' hS) ?_
       simp only [List.getElem_toArray, List.getElem_cons_zero, List.getElem_cons_succ, Act.put, List.setIfInBounds_toArray, List.set_cons_zero, List.set_cons_succ])
    | (refine' wpPlan_skip rfl (by rfl) ?_
       simp only [List.getElem_toArray, List.getElem_cons_zero, List.getElem_cons_succ, Act.put, List.setIfInBounds_toArray, List.set_cons_zero, List.set_cons_succ])
    | (refine' wpPlan_skipHeld rfl (by rfl) ?_
       simp only [List.getElem_toArray, List.getElem_cons_zero, List.getElem_cons_succ, Act.put, List.setIfInBounds_toArray, List.set_cons_zero, List.set_cons_succ]))
  refine' wpPlan_kept rfl ?_
  intro K hK
  go_simp
  refine (Q7.out _ (K6.out.stay fm5) (K7.out.stay fm5) (K3.out.stay fm5) (K4.out.stay fm5)).mono ?_
  rintro e wn6 ⟨rfl, fn6⟩
  have fm6 := Fr.trans fm5 fn6
  go_simp
  refine hK _ _ ⟨fm6, ?_⟩
  clear hK K
  repeat (first
    | (refine' wpPlan_free (v := _) rfl (by rfl) ?_ ?_
       rotate_left
       · (intro w'; go_simp; try rfl)
       simp only [List.getElem_toArray, List.getElem_cons_zero, List.getElem_cons_succ, Act.put, List.setIfInBounds_toArray, List.set_cons_zero, List.set_cons_succ])
    | (refine' wpPlan_held (v := V1) rfl (by rfl) (fun w' hS => LD1.out w' hS) ?_
       simp only [List.getElem_toArray, List.getElem_cons_zero, List.getElem_cons_succ, Act.put, List.setIfInBounds_toArray, List.set_cons_zero, List.set_cons_succ])
    | (refine' wpPlan_held (v := V2) rfl (by rfl) (fun w' hS => LD2.out w' hS) ?_
       simp only [List.getElem_toArray, List.getElem_cons_zero, List.getElem_cons_succ, Act.put, List.setIfInBounds_toArray, List.set_cons_zero, List.set_cons_succ])
    | (refine' wpPlan_held (v := V3) rfl (by rfl) (fun w' hS => LD3.out w' hS) ?_
       simp only [List.getElem_toArray, List.getElem_cons_zero, List.getElem_cons_succ, Act.put, List.setIfInBounds_toArray, List.set_cons_zero, List.set_cons_succ])
    | (refine' wpPlan_held (v := V4) rfl (by rfl) (fun w' hS => LD4.out w' hS) ?_
       simp only [List.getElem_toArray, List.getElem_cons_zero, List.getElem_cons_succ, Act.put, List.setIfInBounds_toArray, List.set_cons_zero, List.set_cons_succ])
    | (refine' wpPlan_skip rfl (by rfl) ?_
       simp only [List.getElem_toArray, List.getElem_cons_zero, List.getElem_cons_succ, Act.put, List.setIfInBounds_toArray, List.set_cons_zero, List.set_cons_succ])
    | (refine' wpPlan_skipHeld rfl (by rfl) ?_
       simp only [List.getElem_toArray, List.getElem_cons_zero, List.getElem_cons_succ, Act.put, List.setIfInBounds_toArray, List.set_cons_zero, List.set_cons_succ]))
  refine' wpPlan_kept rfl ?_
  intro K hK
  go_simp
  refine (awake_any _).mono ?_
  rintro e wn7 ⟨rfl, fn7⟩
  have fm7 := Fr.trans fm6 fn7
  go_simp
  refine hK _ _ ⟨fm7, ?_⟩
  clear hK K
  repeat (first
    | (refine' wpPlan_free (v := _) rfl (by rfl) ?_ ?_
       rotate_left
       · (intro w'; go_simp; try rfl)
       simp only [List.getElem_toArray, List.getElem_cons_zero, List.getElem_cons_succ, Act.put, List.setIfInBounds_toArray, List.set_cons_zero, List.set_cons_succ])
    | (refine' wpPlan_held (v := V1) rfl (by rfl) (fun w' hS => LD1.out w' hS) ?_
       simp only [List.getElem_toArray, List.getElem_cons_zero, List.getElem_cons_succ, Act.put, List.setIfInBounds_toArray, List.set_cons_zero, List.set_cons_succ])
    | (refine' wpPlan_held (v := V2) rfl (by rfl) (fun w' hS => LD2.out w' hS) ?_
       simp only [List.getElem_toArray, List.getElem_cons_zero, List.getElem_cons_succ, Act.put, List.setIfInBounds_toArray, List.set_cons_zero, List.set_cons_succ])
    | (refine' wpPlan_held (v := V3) rfl (by rfl) (fun w' hS => LD3.out w' hS) ?_
       simp only [List.getElem_toArray, List.getElem_cons_zero, List.getElem_cons_succ, Act.put, List.setIfInBounds_toArray, List.set_cons_zero, List.set_cons_succ])
    | (refine' wpPlan_held (v := V4) rfl (by rfl) (fun w' hS => LD4.out w' hS) ?_
       simp only [List.getElem_toArray, List.getElem_cons_zero, List.getElem_cons_succ, Act.put, List.setIfInBounds_toArray, List.set_cons_zero, List.set_cons_succ])
    | (refine' wpPlan_skip rfl (by rfl) ?_
       simp only [List.getElem_toArray, List.getElem_cons_zero, List.getElem_cons_succ, Act.put, List.setIfInBounds_toArray, List.set_cons_zero, List.set_cons_succ])
    | (refine' wpPlan_skipHeld rfl (by rfl) ?_
       simp only [List.getElem_toArray, List.getElem_cons_zero, List.getElem_cons_succ, Act.put, List.setIfInBounds_toArray, List.set_cons_zero, List.set_cons_succ]))
  refine wpPlan_end ?_
  simp only [wpSegsX, List.drop_succ_cons, List.drop_zero]
  go_wp2_with fail
  go_ret
  exact ⟨by trivial, fw7.trans fm7⟩

set_option maxRecDepth 100000 in
set_option maxHeartbeats 4000000 in
theorem does1 {w : World} {vl : Value} {l : List MItem} (hl : Sl kItem All w vl l) (k key high : Int) {ca : Option Addr} {cc : Nat} {bs : List UInt8} (hv : Sl kByte All w (.slice ca bs.length cc) bs) (hk : 0 ≤ key ∧ key ≤ 18446744073709551615)
    (r : MRes) {u1 v1 : Value} (hu1 : Sl kByte All w u1 r.2.2.1) (hv1 : Sl kItem All w v1 r.2.2.2.1) (he : ¬ (mDo (l.take 200) (k, key, high, bs)).2.2 = 0) :
    Calls Try.prog 8 #[vl, .agg #[.int .i64 k, .int .u64 key, .int .u64 high, .slice ca bs.length cc], .agg (resCells r u1 v1).toArray] w fun e w' => e = .returned (.bool true) ∧ Fr Non w w' := by
  obtain ⟨va, vn, rfl, _⟩ := hl.frm
  obtain ⟨ga, gc, rfl, _⟩ := hu1.frm
  obtain ⟨ha, hc, rfl, _⟩ := hv1.frm
  obtain ⟨e1, k1, b1, l1, ⟨a1, ⟨a2, a3⟩, a4, a5⟩, ⟨c1, ⟨c2, c3⟩, c4, c5⟩, t1⟩ := r
  simp only [resCells, refCells, List.cons_append, List.nil_append] at hu1 hv1 ⊢
  have f0 : Fr Non w ((w.alloc (.cells #[.int .i64 k, .int .u64 key, .int .u64 high, .slice ca bs.length cc] 39)).alloc (.cells #[.int .i64 e1, .int .u64 k1, .slice ga b1.length gc, .slice ha l1.length hc, .int .i64 a1, .int .i64 a2, .int .u64 a3, .int .i64 a4, .int .u64 a5, .int .i64 c1, .int .i64 c2, .int .u64 c3, .int .i64 c4, .int .u64 c5, .bool t1] 52)) := ((Fr.refl _ _).alloc _).alloc _
  have bC := alloc_at2 w (.cells #[.int .i64 k, .int .u64 key, .int .u64 high, .slice ca bs.length cc] 39) (.cells #[.int .i64 e1, .int .u64 k1, .slice ga b1.length gc, .slice ha l1.length hc, .int .i64 a1, .int .i64 a2, .int .u64 a3, .int .i64 a4, .int .u64 a5, .int .i64 c1, .int .i64 c2, .int .u64 c3, .int .i64 c4, .int .u64 c5, .bool t1] 52)
  have bR := alloc_at2' w (.cells #[.int .i64 k, .int .u64 key, .int .u64 high, .slice ca bs.length cc] 39) (.cells #[.int .i64 e1, .int .u64 k1, .slice ga b1.length gc, .slice ha l1.length hc, .int .i64 a1, .int .i64 a2, .int .u64 a3, .int .i64 a4, .int .u64 a5, .int .i64 c1, .int .i64 c2, .int .u64 c3, .int .i64 c4, .int .u64 c5, .bool t1] 52)
  obtain ⟨C, hC⟩ : ∃ C, w.heap.size = C := ⟨_, rfl⟩
  rw [hC] at bC bR
  have hl' := hl.there.stay f0
  have hv' := hv.there.stay f0
  have hu' := hu1.there.stay f0
  have hw' := hv1.there.stay f0
  rw [hC] at hl' hv' hu' hw'
  have HL := Lib.hid hl'
  have HV := Lib.hid hv'
  have HU := Lib.hid hu'
  have HW := Lib.hid hw'
  have HCC := Lib.hid hC
  clear hl hv hu1 hv1 hl' hv' hu' hw'
  obtain ⟨qR, zR⟩ := box_facts bR
  go_enter Try.func8, Try.ntmps8
  go_wp2_with fail
  generalize hw1 : ((w.alloc (.cells #[.int .i64 k, .int .u64 key, .int .u64 high, .slice ca bs.length cc] 39)).alloc (.cells #[.int .i64 e1, .int .u64 k1, .slice ga b1.length gc, .slice ha l1.length hc, .int .i64 a1, .int .i64 a2, .int .u64 a3, .int .i64 a4, .int .u64 a5, .int .i64 c1, .int .i64 c2, .int .u64 c3, .int .i64 c4, .int .u64 c5, .bool t1] 52)) = w1 at f0 bC bR HL HV HU HW qR zR ⊢
  have fd : Fr Non w1 w1.drew := (Fr.refl _ _).drew
  refine wp_draw [((fun y => y = w1.drew), [(.free, 0), (.free, 2), (.held, 3), (.kept, 1), (.kept, 4), (.free, 5), (.free, 6)])] 7 (by kernel_rfl) (by as_aux_lemma => kernel_rfl) (fun _ _ _ _ _ h => h) ⟨rfl, ?_⟩
  repeat (first
    | (refine' wpPlan_free (v := _) rfl (by rfl) ?_ ?_
       rotate_left
       · (intro w'; go_simp; try rfl)
       simp only [List.getElem_toArray, List.getElem_cons_zero, List.getElem_cons_succ, Act.put, List.setIfInBounds_toArray, List.set_cons_zero, List.set_cons_succ])
    | (refine' wpPlan_held (v := _) rfl (by rfl) ?_ ?_
       rotate_left
       · (intro w' hS; subst hS; go_simp; try rfl)
       simp only [List.getElem_toArray, List.getElem_cons_zero, List.getElem_cons_succ, Act.put, List.setIfInBounds_toArray, List.set_cons_zero, List.set_cons_succ])
    | (refine' wpPlan_skip rfl (by rfl) ?_
       simp only [List.getElem_toArray, List.getElem_cons_zero, List.getElem_cons_succ, Act.put, List.setIfInBounds_toArray, List.set_cons_zero, List.set_cons_succ])
    | (refine' wpPlan_skipHeld rfl (by rfl) ?_
       simp only [List.getElem_toArray, List.getElem_cons_zero, List.getElem_cons_succ, Act.put, List.setIfInBounds_toArray, List.set_cons_zero, List.set_cons_succ]))
  refine' wpPlan_kept rfl ?_
  intro K hK
  go_simp
  refine (few_S (HL.out.stay fd)).mono ?_
  rintro e w2 ⟨x1, y1, rfl, h1, hw⟩
  obtain rfl := hw
  have hl200 : (l.take 200).length ≤ 200 := by rw [List.length_take]; omega
  obtain ⟨L, hL⟩ : ∃ L, l.take 200 = L := ⟨_, rfl⟩
  rw [hL] at h1 hl200 he ⊢
  have H1 := Lib.hid h1
  clear h1 hL
  go_simp
  refine hK _ _ ⟨rfl, ?_⟩
  clear hK K
  repeat (first
    | (refine' wpPlan_free (v := _) rfl (by rfl) ?_ ?_
       rotate_left
       · (intro w'; go_simp; try rfl)
       simp only [List.getElem_toArray, List.getElem_cons_zero, List.getElem_cons_succ, Act.put, List.setIfInBounds_toArray, List.set_cons_zero, List.set_cons_succ])
    | (refine' wpPlan_held (v := _) rfl (by rfl) ?_ ?_
       rotate_left
       · (intro w' hS; subst hS; go_simp; try rfl)
       simp only [List.getElem_toArray, List.getElem_cons_zero, List.getElem_cons_succ, Act.put, List.setIfInBounds_toArray, List.set_cons_zero, List.set_cons_succ])
    | (refine' wpPlan_skip rfl (by rfl) ?_
       simp only [List.getElem_toArray, List.getElem_cons_zero, List.getElem_cons_succ, Act.put, List.setIfInBounds_toArray, List.set_cons_zero, List.set_cons_succ])
    | (refine' wpPlan_skipHeld rfl (by rfl) ?_
       simp only [List.getElem_toArray, List.getElem_cons_zero, List.getElem_cons_succ, Act.put, List.setIfInBounds_toArray, List.set_cons_zero, List.set_cons_succ]))
  refine' wpPlan_kept rfl ?_
  intro K hK
  go_simp
  refine (few_S (HW.out.stay fd)).mono ?_
  rintro e w2 ⟨ia, ic, rfl, h2, hw⟩
  obtain rfl := hw
  obtain ⟨it, hit⟩ : ∃ L, l1.take 200 = L := ⟨_, rfl⟩
  rw [hit] at h2 ⊢
  have H2 := Lib.hid h2
  clear h2 hit
  go_simp
  refine hK _ _ ⟨rfl, ?_⟩
  clear hK K
  repeat (first
    | (refine' wpPlan_free (v := _) rfl (by rfl) ?_ ?_
       rotate_left
       · (intro w'; go_simp; try rfl)
       simp only [List.getElem_toArray, List.getElem_cons_zero, List.getElem_cons_succ, Act.put, List.setIfInBounds_toArray, List.set_cons_zero, List.set_cons_succ])
    | (refine' wpPlan_held (v := _) rfl (by rfl) ?_ ?_
       rotate_left
       · (intro w' hS; clear hS; go_simp; try rfl)
       simp only [List.getElem_toArray, List.getElem_cons_zero, List.getElem_cons_succ, Act.put, List.setIfInBounds_toArray, List.set_cons_zero, List.set_cons_succ])
    | (refine' wpPlan_skip rfl (by rfl) ?_
       simp only [List.getElem_toArray, List.getElem_cons_zero, List.getElem_cons_succ, Act.put, List.setIfInBounds_toArray, List.set_cons_zero, List.set_cons_succ])
    | (refine' wpPlan_skipHeld rfl (by rfl) ?_
       simp only [List.getElem_toArray, List.getElem_cons_zero, List.getElem_cons_succ, Act.put, List.setIfInBounds_toArray, List.set_cons_zero, List.set_cons_succ]))
  refine wpPlan_end ?_
  simp only [wpSegs, List.drop_succ_cons, List.drop_zero]
  obtain ⟨qC, zC⟩ := box_facts bC
  go_wp2_with fail
  have fs : Fr (fun b => b = C + 1) w1 (w1.setCell ⟨C + 1, 3, none⟩ (.slice ia it.length ic)) := Fr.setCell (T := fun b => b = C + 1) (Fr.refl _ w1) (p := ⟨C + 1, 3, none⟩) (.inl rfl) _
  have bR2 := block_set bR 3 (.slice ia it.length ic)
  simp only [List.setIfInBounds_toArray, List.set_cons_succ, List.set_cons_zero] at bR2
  have fs2 := fs.drew
  have fs4 : Fr (fun b => b = C + 1) w1.drew (w1.setCell ⟨C + 1, 3, none⟩ (.slice ia it.length ic)).drew := ⟨fs2.os, fs2.tape, fs2.output, fs2.size, fs2.block⟩
  have bR3 : (w1.setCell ⟨C + 1, 3, none⟩ (.slice ia it.length ic)).drew.heap[C + 1]? = some (.cells (#[.int .i64 e1, .int .u64 k1, .slice ga b1.length gc, .slice ia it.length ic, .int .i64 a1, .int .i64 a2, .int .u64 a3, .int .i64 a4, .int .u64 a5, .int .i64 c1, .int .i64 c2, .int .u64 c3, .int .i64 c4, .int .u64 c5, .bool t1] : Array Value) 52 (0, 0)) := bR2
  have bC3 := fs2.heap bC (by omega)
  have H3 := Lib.hid ((H1.out.frame fs4 (fun b _ hb e => by omega)).all)
  have HV3 := Lib.hid ((HV.out.frame fs2 (fun b _ hb e => by omega)).all)
  have HU3 := Lib.hid ((HU.out.frame fs2 (fun b _ hb e => by omega)).all)
  have HW3 := Lib.hid ((H2.out.frame fs4 (fun b _ hb e => by omega)).all)
  have fw3 : Fr Non w _ := f0.trans2 fs2 (fun b hb e => by have := HCC.out; omega)
  clear fs fs4 bR2 bR bC qR zR qC zC H1 H2 HL HV HU HW fd hw1 fs2
  generalize (w1.setCell ⟨C + 1, 3, none⟩ (.slice ia it.length ic)).drew = w3 at bR3 bC3 H3 HV3 HU3 HW3 fw3 ⊢
  obtain ⟨D, hD⟩ : ∃ D, mDo L (k, key, high, bs) = D := ⟨_, rfl⟩
  have hrefs := mDo_refs L (k, key, high, bs)
  have hd1 := fun (w : World) (h : Sl kItem All w (.slice x1 L.length y1) L) (hv : Sl kByte All w (.slice ca bs.length cc) bs) => do_any h (by omega) (k, key, high, bs) hv hk
  have hd2 := fun (w : World) (h : Sl kItem All w (.slice x1 L.length y1) L) (hv : Sl kByte All w (.slice ca bs.length cc) bs) => rdo_any h (by omega) k key high hv hk
  rw [hD] at hd1 hd2 hrefs he
  have HD := Lib.hid hD
  have HD1 := Lib.hid hd1
  have HD2 := Lib.hid hd2
  obtain ⟨hr1, hr2, _⟩ := hrefs
  obtain ⟨m, ⟨e4, k4, b4, i4, rl, rr, t4⟩, ee⟩ := D
  simp only at hr1 hr2 he
  subst hr1 hr2
  have HE := Lib.hid he
  clear hd1 hd2 hD he
  refine (HD1.out _ H3.out HV3.out).mono ?_
  rintro e w4 ⟨x4, y4, rfl, hx4, hy4, f4⟩
  obtain ⟨u4, v4, rfl, hu4, hv4, _⟩ := hy4
  obtain ⟨p1, p2, rfl, _⟩ := hu4.frm
  obtain ⟨p3, p4, rfl, _⟩ := hv4.frm
  obtain ⟨xa4, xc4, rfl⟩ := hx4.form
  simp only [resCells, refCells, r0, List.cons_append, List.nil_append] at hu4 hv4 ⊢
  have fy4 : Fr Non w4 (w4.alloc (.cells #[.int .i64 e4, .int .u64 k4, .slice p1 b4.length p2, .slice p3 i4.length p4, .int .i64 0, .int .i64 0, .int .u64 0, .int .i64 0, .int .u64 0, .int .i64 0, .int .i64 0, .int .u64 0, .int .i64 0, .int .u64 0, .bool t4] 52)) := (Fr.refl _ _).alloc _
  have bP := alloc_at w4 (.cells #[.int .i64 e4, .int .u64 k4, .slice p1 b4.length p2, .slice p3 i4.length p4, .int .i64 0, .int .i64 0, .int .u64 0, .int .i64 0, .int .u64 0, .int .i64 0, .int .i64 0, .int .u64 0, .int .i64 0, .int .u64 0, .bool t4] 52)
  obtain ⟨P, hP⟩ : ∃ P, w4.heap.size = P := ⟨_, rfl⟩
  rw [hP] at bP
  have f5 := f4.trans fy4
  have HX5 := Lib.hid (hx4.sl.stay fy4)
  have HU5 := Lib.hid (hu4.stay fy4)
  have HI5 := Lib.hid (hv4.stay fy4)
  have bC5 := f5.heap bC3 id
  clear hx4 hu4 hv4
  obtain ⟨qC, zC⟩ := box_facts bC5
  go_upto_region 3 with (fail)
  generalize (w4.alloc (.cells #[.int .i64 e4, .int .u64 k4, .slice p1 b4.length p2, .slice p3 i4.length p4, .int .i64 0, .int .i64 0, .int .u64 0, .int .i64 0, .int .u64 0, .int .i64 0, .int .i64 0, .int .u64 0, .int .i64 0, .int .u64 0, .bool t4] 52)) = w5 at fy4 bP f5 HX5 HU5 HI5 bC5 qC zC ⊢
  go_cut [10, 11, 12] (fun v10 v11 v12 wx => DoesCut w5 m e4 k4 b4 i4 t4 ee v10 v11 v12 wx)
  case first =>
    go_wp2_with fail
    refine (HD2.out _ (H3.out.stay f5) (HV3.out.stay f5)).mono ?_
    rintro e w6 ⟨x6, y6, rfl, hx6, hy6, f6⟩
    obtain ⟨u6, v6, rfl, hu6, hv6, _⟩ := hy6
    obtain ⟨q1, q2, rfl, _⟩ := hu6.frm
    obtain ⟨q3, q4, rfl, _⟩ := hv6.frm
    obtain ⟨xa6, xc6, rfl, _⟩ := hx6.frm
    simp only [resCells, refCells, r0, List.cons_append, List.nil_append] at hu6 hv6 ⊢
    have fy6 : Fr Non w6 (w6.alloc (.cells #[.int .i64 e4, .int .u64 k4, .slice q1 b4.length q2, .slice q3 i4.length q4, .int .i64 0, .int .i64 0, .int .u64 0, .int .i64 0, .int .u64 0, .int .i64 0, .int .i64 0, .int .u64 0, .int .i64 0, .int .u64 0, .bool t4] 52)) := (Fr.refl _ _).alloc _
    have bQ := alloc_at w6 (.cells #[.int .i64 e4, .int .u64 k4, .slice q1 b4.length q2, .slice q3 i4.length q4, .int .i64 0, .int .i64 0, .int .u64 0, .int .i64 0, .int .u64 0, .int .i64 0, .int .i64 0, .int .u64 0, .int .i64 0, .int .u64 0, .bool t4] 52)
    go_wp2_with fail
    go_meet
    exact ⟨xa6, xc6, w6.heap.size, q1, q2, q3, q4, rfl, rfl, rfl, bQ, (hx6.stay fy6).all, (hu6.stay fy6).all, (hv6.stay fy6).all, f6.trans fy6⟩
  obtain ⟨xa6, xc6, Q, q1, q2, q3, q4, rfl, rfl, rfl, bQ, hx7, hu7, hv7, f67⟩ := hcut
  have f57 := f5.trans f67
  have g1 := Lib.hid (cells_of (f67.heap bC5 id))
  have g2 := Lib.hid (cells_of (f57.heap bR3 id))
  have g3 := Lib.hid (cells_of (f67.heap bP id))
  have g4 := Lib.hid (cells_of bQ)
  have K1 := Lib.hid (H3.out.stay f57)
  have K2 := Lib.hid (HV3.out.stay f57)
  have K3 := Lib.hid (HU3.out.stay f57)
  have K4 := Lib.hid (HW3.out.stay f57)
  have K5 := Lib.hid (HX5.out.stay f67)
  have K6 := Lib.hid (HU5.out.stay f67)
  have K7 := Lib.hid (HI5.out.stay f67)
  have K8 := Lib.hid hx7
  have K9 := Lib.hid hu7
  have K10 := Lib.hid hv7
  have fw7 := fw3.trans f57
  clear hx7 hu7 hv7 qC zC bC5 bP bQ bR3 bC3 HD1 HD2 H3 HV3 HU3 HW3 HX5 HU5 HI5
  generalize hww : wc = w7 at g1 g2 g3 g4 K1 K2 K3 K4 K5 K6 K7 K8 K9 K10 fw7 f57 f67 ⊢
  clear hww
  go_wp2_with fail
  have hq1 := fun (w : World) (h : Sl kItem All w (.slice xa4 m.length xc4) m) (h2 : Sl kItem All w (.slice xa6 m.length xc6) m) => rsame_any h h2
  rw [show decide (m = m) = true from decide_eq_true rfl] at hq1
  have hq2 := fun (w : World) (h1 : Sl kByte All w (.slice p1 b4.length p2) b4) (h2 : Sl kItem All w (.slice p3 i4.length p4) i4) (h3 : Sl kByte All w (.slice q1 b4.length q2) b4) (h4 : Sl kItem All w (.slice q3 i4.length q4) i4) => rsres_any (e4, k4, b4, i4, r0, r0, t4) (e4, k4, b4, i4, r0, r0, t4) h1 h2 h3 h4
  rw [show decide (((e4, k4, b4, i4, r0, r0, t4) : MRes) = (e4, k4, b4, i4, r0, r0, t4)) = true from decide_eq_true rfl] at hq2
  obtain ⟨T, hT⟩ : ∃ T, mTells L (k, key, high, bs) (e1, k1, b1, it, (a1, (a2, a3), a4, a5), (c1, (c2, c3), c4, c5), t1) = T := ⟨_, rfl⟩
  have hq3 := fun (w : World) (h : Sl kItem All w (.slice x1 L.length y1) L) (hv : Sl kByte All w (.slice ca bs.length cc) bs) (hu : Sl kByte All w (.slice ga b1.length gc) b1) (hi : Sl kItem All w (.slice ia it.length ic) it) => tells_any h (by omega) k key high hv hk (e1, k1, b1, it, (a1, (a2, a3), a4, a5), (c1, (c2, c3), c4, c5), t1) hu hi
  have hq4 := fun (w : World) (h : Sl kItem All w (.slice x1 L.length y1) L) (hv : Sl kByte All w (.slice ca bs.length cc) bs) (hu : Sl kByte All w (.slice ga b1.length gc) b1) (hi : Sl kItem All w (.slice ia it.length ic) it) => rtells_any h (by omega) k key high hv hk (e1, k1, b1, it, (a1, (a2, a3), a4, a5), (c1, (c2, c3), c4, c5), t1) hu hi
  rw [hT] at hq3 hq4
  have hq5 := fun (w : World) (h : Sl kItem All w (.slice x1 L.length y1) L) (hv : Sl kByte All w (.slice ca bs.length cc) bs) (hu : Sl kByte All w (.slice p1 b4.length p2) b4) (hi : Sl kItem All w (.slice p3 i4.length p4) i4) => tells_any h (by omega) k key high hv hk (e4, k4, b4, i4, r0, r0, t4) hu hi
  have hT5 : mTells L (k, key, high, bs) (e4, k4, b4, i4, r0, r0, t4) = decide (ee = 0) := by unfold mTells; rw [HD.out]; simp
  rw [hT5] at hq5
  obtain ⟨d, hd⟩ : ∃ d, decide (((e4, k4, b4, i4, r0, r0, t4) : MRes) = (e1, k1, b1, it, (a1, (a2, a3), a4, a5), (c1, (c2, c3), c4, c5), t1)) = d := ⟨_, rfl⟩
  have hq6 := fun (w : World) (h1 : Sl kByte All w (.slice p1 b4.length p2) b4) (h2 : Sl kItem All w (.slice p3 i4.length p4) i4) (h3 : Sl kByte All w (.slice ga b1.length gc) b1) (h4 : Sl kItem All w (.slice ia it.length ic) it) => msres_any (e4, k4, b4, i4, r0, r0, t4) (e1, k1, b1, it, (a1, (a2, a3), a4, a5), (c1, (c2, c3), c4, c5), t1) h1 h2 h3 h4
  have hq7 := fun (w : World) (h1 : Sl kByte All w (.slice p1 b4.length p2) b4) (h2 : Sl kItem All w (.slice p3 i4.length p4) i4) (h3 : Sl kByte All w (.slice ga b1.length gc) b1) (h4 : Sl kItem All w (.slice ia it.length ic) it) => rsres_any (e4, k4, b4, i4, r0, r0, t4) (e1, k1, b1, it, (a1, (a2, a3), a4, a5), (c1, (c2, c3), c4, c5), t1) h1 h2 h3 h4
  rw [hd] at hq6 hq7
  simp only [resCells, refCells, r0, List.cons_append, List.nil_append] at hq2 hq3 hq4 hq5 hq6 hq7
  have ld1 : ∀ y, Fr Non w7 y → (do pure (Next.value (← Instr.loadAt 39 (.pointer (some ⟨C, 0, none⟩)))) : Sem Next).run Try.prog y = .ok (.value (Value.agg #[.int .i64 k, .int .u64 key, .int .u64 high, .slice ca bs.length cc])) y := by
    intro y hS
    have c0' : y.cell? ⟨C, 0, none⟩ = some _ := hS.cell (g1.out 0 _ rfl) id; have c1' : y.cell? ⟨C, 1, none⟩ = some _ := hS.cell (g1.out 1 _ rfl) id; have c2' : y.cell? ⟨C, 2, none⟩ = some _ := hS.cell (g1.out 2 _ rfl) id; have c3' : y.cell? ⟨C, 3, none⟩ = some _ := hS.cell (g1.out 3 _ rfl) id
    clear hS
    go_simp
  obtain ⟨V1, hV1⟩ : ∃ V, (Value.agg #[.int .i64 k, .int .u64 key, .int .u64 high, .slice ca bs.length cc]) = V := ⟨_, rfl⟩
  rw [hV1] at ld1 hq3 hq4 hq5 ⊢
  have LD1 := Lib.hid ld1
  clear ld1 hV1
  have ld2 : ∀ y, Fr Non w7 y → (do pure (Next.value (← Instr.loadAt 52 (.pointer (some ⟨C + 1, 0, none⟩)))) : Sem Next).run Try.prog y = .ok (.value (Value.agg #[.int .i64 e1, .int .u64 k1, .slice ga b1.length gc, .slice ia it.length ic, .int .i64 a1, .int .i64 a2, .int .u64 a3, .int .i64 a4, .int .u64 a5, .int .i64 c1, .int .i64 c2, .int .u64 c3, .int .i64 c4, .int .u64 c5, .bool t1])) y := by
    intro y hS
    have c0' : y.cell? ⟨C + 1, 0, none⟩ = some _ := hS.cell (g2.out 0 _ rfl) id; have c1' : y.cell? ⟨C + 1, 1, none⟩ = some _ := hS.cell (g2.out 1 _ rfl) id; have c2' : y.cell? ⟨C + 1, 2, none⟩ = some _ := hS.cell (g2.out 2 _ rfl) id; have c3' : y.cell? ⟨C + 1, 3, none⟩ = some _ := hS.cell (g2.out 3 _ rfl) id; have c4' : y.cell? ⟨C + 1, 4, none⟩ = some _ := hS.cell (g2.out 4 _ rfl) id; have c5' : y.cell? ⟨C + 1, 5, none⟩ = some _ := hS.cell (g2.out 5 _ rfl) id; have c6' : y.cell? ⟨C + 1, 6, none⟩ = some _ := hS.cell (g2.out 6 _ rfl) id; have c7' : y.cell? ⟨C + 1, 7, none⟩ = some _ := hS.cell (g2.out 7 _ rfl) id; have c8' : y.cell? ⟨C + 1, 8, none⟩ = some _ := hS.cell (g2.out 8 _ rfl) id; have c9' : y.cell? ⟨C + 1, 9, none⟩ = some _ := hS.cell (g2.out 9 _ rfl) id; have c10' : y.cell? ⟨C + 1, 10, none⟩ = some _ := hS.cell (g2.out 10 _ rfl) id; have c11' : y.cell? ⟨C + 1, 11, none⟩ = some _ := hS.cell (g2.out 11 _ rfl) id; have c12' : y.cell? ⟨C + 1, 12, none⟩ = some _ := hS.cell (g2.out 12 _ rfl) id; have c13' : y.cell? ⟨C + 1, 13, none⟩ = some _ := hS.cell (g2.out 13 _ rfl) id; have c14' : y.cell? ⟨C + 1, 14, none⟩ = some _ := hS.cell (g2.out 14 _ rfl) id
    clear hS
    go_simp
  obtain ⟨V2, hV2⟩ : ∃ V, (Value.agg #[.int .i64 e1, .int .u64 k1, .slice ga b1.length gc, .slice ia it.length ic, .int .i64 a1, .int .i64 a2, .int .u64 a3, .int .i64 a4, .int .u64 a5, .int .i64 c1, .int .i64 c2, .int .u64 c3, .int .i64 c4, .int .u64 c5, .bool t1]) = V := ⟨_, rfl⟩
  rw [hV2] at ld2 hq3 hq4 hq6 hq7
  have LD2 := Lib.hid ld2
  clear ld2 hV2
  have ld3 : ∀ y, Fr Non w7 y → (do pure (Next.value (← Instr.loadAt 52 (.pointer (some ⟨P, 0, none⟩)))) : Sem Next).run Try.prog y = .ok (.value (Value.agg #[.int .i64 e4, .int .u64 k4, .slice p1 b4.length p2, .slice p3 i4.length p4, .int .i64 0, .int .i64 0, .int .u64 0, .int .i64 0, .int .u64 0, .int .i64 0, .int .i64 0, .int .u64 0, .int .i64 0, .int .u64 0, .bool t4])) y := by
    intro y hS
    have c0' : y.cell? ⟨P, 0, none⟩ = some _ := hS.cell (g3.out 0 _ rfl) id; have c1' : y.cell? ⟨P, 1, none⟩ = some _ := hS.cell (g3.out 1 _ rfl) id; have c2' : y.cell? ⟨P, 2, none⟩ = some _ := hS.cell (g3.out 2 _ rfl) id; have c3' : y.cell? ⟨P, 3, none⟩ = some _ := hS.cell (g3.out 3 _ rfl) id; have c4' : y.cell? ⟨P, 4, none⟩ = some _ := hS.cell (g3.out 4 _ rfl) id; have c5' : y.cell? ⟨P, 5, none⟩ = some _ := hS.cell (g3.out 5 _ rfl) id; have c6' : y.cell? ⟨P, 6, none⟩ = some _ := hS.cell (g3.out 6 _ rfl) id; have c7' : y.cell? ⟨P, 7, none⟩ = some _ := hS.cell (g3.out 7 _ rfl) id; have c8' : y.cell? ⟨P, 8, none⟩ = some _ := hS.cell (g3.out 8 _ rfl) id; have c9' : y.cell? ⟨P, 9, none⟩ = some _ := hS.cell (g3.out 9 _ rfl) id; have c10' : y.cell? ⟨P, 10, none⟩ = some _ := hS.cell (g3.out 10 _ rfl) id; have c11' : y.cell? ⟨P, 11, none⟩ = some _ := hS.cell (g3.out 11 _ rfl) id; have c12' : y.cell? ⟨P, 12, none⟩ = some _ := hS.cell (g3.out 12 _ rfl) id; have c13' : y.cell? ⟨P, 13, none⟩ = some _ := hS.cell (g3.out 13 _ rfl) id; have c14' : y.cell? ⟨P, 14, none⟩ = some _ := hS.cell (g3.out 14 _ rfl) id
    clear hS
    go_simp
  obtain ⟨V3, hV3⟩ : ∃ V, (Value.agg #[.int .i64 e4, .int .u64 k4, .slice p1 b4.length p2, .slice p3 i4.length p4, .int .i64 0, .int .i64 0, .int .u64 0, .int .i64 0, .int .u64 0, .int .i64 0, .int .i64 0, .int .u64 0, .int .i64 0, .int .u64 0, .bool t4]) = V := ⟨_, rfl⟩
  rw [hV3] at ld3 hq2 hq5 hq6 hq7
  have LD3 := Lib.hid ld3
  clear ld3 hV3
  have ld4 : ∀ y, Fr Non w7 y → (do pure (Next.value (← Instr.loadAt 52 (.pointer (some ⟨Q, 0, none⟩)))) : Sem Next).run Try.prog y = .ok (.value (Value.agg #[.int .i64 e4, .int .u64 k4, .slice q1 b4.length q2, .slice q3 i4.length q4, .int .i64 0, .int .i64 0, .int .u64 0, .int .i64 0, .int .u64 0, .int .i64 0, .int .i64 0, .int .u64 0, .int .i64 0, .int .u64 0, .bool t4])) y := by
    intro y hS
    have c0' : y.cell? ⟨Q, 0, none⟩ = some _ := hS.cell (g4.out 0 _ rfl) id; have c1' : y.cell? ⟨Q, 1, none⟩ = some _ := hS.cell (g4.out 1 _ rfl) id; have c2' : y.cell? ⟨Q, 2, none⟩ = some _ := hS.cell (g4.out 2 _ rfl) id; have c3' : y.cell? ⟨Q, 3, none⟩ = some _ := hS.cell (g4.out 3 _ rfl) id; have c4' : y.cell? ⟨Q, 4, none⟩ = some _ := hS.cell (g4.out 4 _ rfl) id; have c5' : y.cell? ⟨Q, 5, none⟩ = some _ := hS.cell (g4.out 5 _ rfl) id; have c6' : y.cell? ⟨Q, 6, none⟩ = some _ := hS.cell (g4.out 6 _ rfl) id; have c7' : y.cell? ⟨Q, 7, none⟩ = some _ := hS.cell (g4.out 7 _ rfl) id; have c8' : y.cell? ⟨Q, 8, none⟩ = some _ := hS.cell (g4.out 8 _ rfl) id; have c9' : y.cell? ⟨Q, 9, none⟩ = some _ := hS.cell (g4.out 9 _ rfl) id; have c10' : y.cell? ⟨Q, 10, none⟩ = some _ := hS.cell (g4.out 10 _ rfl) id; have c11' : y.cell? ⟨Q, 11, none⟩ = some _ := hS.cell (g4.out 11 _ rfl) id; have c12' : y.cell? ⟨Q, 12, none⟩ = some _ := hS.cell (g4.out 12 _ rfl) id; have c13' : y.cell? ⟨Q, 13, none⟩ = some _ := hS.cell (g4.out 13 _ rfl) id; have c14' : y.cell? ⟨Q, 14, none⟩ = some _ := hS.cell (g4.out 14 _ rfl) id
    clear hS
    go_simp
  obtain ⟨V4, hV4⟩ : ∃ V, (Value.agg #[.int .i64 e4, .int .u64 k4, .slice q1 b4.length q2, .slice q3 i4.length q4, .int .i64 0, .int .i64 0, .int .u64 0, .int .i64 0, .int .u64 0, .int .i64 0, .int .i64 0, .int .u64 0, .int .i64 0, .int .u64 0, .bool t4]) = V := ⟨_, rfl⟩
  rw [hV4] at ld4 hq2
  have LD4 := Lib.hid ld4
  clear ld4 hV4
  generalize (Value.agg #[.int .i64 e1, .int .u64 k1, .slice ga b1.length gc, .slice ha l1.length hc, .int .i64 a1, .int .i64 a2, .int .u64 a3, .int .i64 a4, .int .u64 a5, .int .i64 c1, .int .i64 c2, .int .u64 c3, .int .i64 c4, .int .u64 c5, .bool t1]) = V0
  have Q1 := Lib.hid hq1
  have Q2 := Lib.hid hq2
  have Q3 := Lib.hid hq3
  have Q4 := Lib.hid hq4
  have Q6 := Lib.hid hq6
  have Q7 := Lib.hid hq7
  clear hq1 hq2 hq3 hq4 hq6 hq7 hT hT5 hd HD
  have he := HE.out
  have G := Lib.hid (show (ee != 0) = true by simpa using he)
  clear he hq5
  refine wp_drawL ((Fr Non w7)) [(.free, 0), (.free, 1), (.kept, 2), (.free, 3), (.held, 4), (.held, 5), (.kept, 6), (.free, 7), (.free, 8), (.free, 9), (.free, 10), (.free, 11), (.free, 12), (.free, 13), (.free, 14), (.held, 15), (.held, 16), (.free, 18), (.held, 19), (.held, 20), (.kept, 17), (.kept, 21), (.free, 22), (.free, 23), (.free, 24), (.free, 25), (.free, 26), (.free, 27), (.free, 28), (.held, 29), (.held, 30), (.kept, 31), (.free, 32), (.free, 33), (.free, 34), (.held, 35), (.held, 36), (.held, 38), (.held, 39), (.kept, 37), (.kept, 40), (.free, 41), (.free, 42), (.free, 43), (.kept, 44), (.free, 45), (.free, 46)] 47 (fun i => ([#[], #[], #[], #[], #[true, true, true, true, false, true, false, false, false, false, false, false, false, false, false, false, false, false, false, false, false, false, false, false, false, false, false, false, false, false, false, false, false, false, false, false, false, false, false, false, false, false, false, false, false, false, false], #[true, true, true, true, true, false, false, false, false, false, false, false, false, false, false, false, false, false, false, false, false, false, false, false, false, false, false, false, false, false, false, false, false, false, false, false, false, false, false, false, false, false, false, false, false, false, false], #[], #[], #[], #[], #[], #[], #[], #[], #[], #[true, true, true, true, true, true, true, true, true, true, true, true, true, true, true, false, true, false, true, true, true, false, false, false, false, false, false, false, false, false, false, false, false, false, false, false, false, false, false, false, false, false, false, false, false, false, false], #[true, true, true, true, true, true, true, true, true, true, true, true, true, true, true, true, false, false, true, true, true, false, false, false, false, false, false, false, false, false, false, false, false, false, false, false, false, false, false, false, false, false, false, false, false, false, false], #[], #[], #[true, true, true, true, true, true, true, true, true, true, true, true, true, true, true, true, true, true, true, false, true, false, false, false, false, false, false, false, false, false, false, false, false, false, false, false, false, false, false, false, false, false, false, false, false, false, false], #[true, true, true, true, true, true, true, true, true, true, true, true, true, true, true, true, true, true, true, true, false, false, false, false, false, false, false, false, false, false, false, false, false, false, false, false, false, false, false, false, false, false, false, false, false, false, false], #[], #[], #[], #[], #[], #[], #[], #[], #[true, true, true, true, true, true, true, true, true, true, true, true, true, true, true, true, true, true, true, true, true, true, true, true, true, true, true, true, true, false, true, false, false, false, false, false, false, false, false, false, false, false, false, false, false, false, false], #[true, true, true, true, true, true, true, true, true, true, true, true, true, true, true, true, true, true, true, true, true, true, true, true, true, true, true, true, true, true, false, false, false, false, false, false, false, false, false, false, false, false, false, false, false, false, false], #[], #[], #[], #[], #[true, true, true, true, true, true, true, true, true, true, true, true, true, true, true, true, true, true, true, true, true, true, true, true, true, true, true, true, true, true, true, true, true, true, true, false, true, false, true, true, false, false, false, false, false, false, false], #[true, true, true, true, true, true, true, true, true, true, true, true, true, true, true, true, true, true, true, true, true, true, true, true, true, true, true, true, true, true, true, true, true, true, true, true, false, false, true, true, false, false, false, false, false, false, false], #[], #[true, true, true, true, true, true, true, true, true, true, true, true, true, true, true, true, true, true, true, true, true, true, true, true, true, true, true, true, true, true, true, true, true, true, true, true, true, true, false, true, false, false, false, false, false, false, false], #[true, true, true, true, true, true, true, true, true, true, true, true, true, true, true, true, true, true, true, true, true, true, true, true, true, true, true, true, true, true, true, true, true, true, true, true, true, true, true, false, false, false, false, false, false, false, false], #[], #[], #[], #[], #[], #[], #[]] : List (Array Bool)).getD i #[]) (by kernel_rfl) (by as_aux_lemma => kernel_rfl) (fun _ _ _ _ _ h => h) ⟨(Fr.refl _ _).drew, ?_⟩
  have fd : Fr Non w7 w7.drew := (Fr.refl _ _).drew
  generalize w7.drew = wd at fd ⊢
  repeat (first
    | (refine' wpPlan_free (v := _) rfl (by rfl) ?_ ?_
       rotate_left
       · (intro w'; have g := G.out; go_simp; try rfl)
       simp only [List.getElem_toArray, List.getElem_cons_zero, List.getElem_cons_succ, Act.put, List.setIfInBounds_toArray, List.set_cons_zero, List.set_cons_succ])
    | (refine' wpPlan_held (v := V1) rfl (by rfl) (fun w' hS => LD1.out w' hS) ?_
       simp only [List.getElem_toArray, List.getElem_cons_zero, List.getElem_cons_succ, Act.put, List.setIfInBounds_toArray, List.set_cons_zero, List.set_cons_succ])
    | (refine' wpPlan_held (v := V2) rfl (by rfl) (fun w' hS => LD2.out w' hS) ?_
       simp only [List.getElem_toArray, List.getElem_cons_zero, List.getElem_cons_succ, Act.put, List.setIfInBounds_toArray, List.set_cons_zero, List.set_cons_succ])
    | (refine' wpPlan_held (v := V3) rfl (by rfl) (fun w' hS => LD3.out w' hS) ?_
       simp only [List.getElem_toArray, List.getElem_cons_zero, List.getElem_cons_succ, Act.put, List.setIfInBounds_toArray, List.set_cons_zero, List.set_cons_succ])
    | (refine' wpPlan_held (v := V4) rfl (by rfl) (fun w' hS => LD4.out w' hS) ?_
       simp only [List.getElem_toArray, List.getElem_cons_zero, List.getElem_cons_succ, Act.put, List.setIfInBounds_toArray, List.set_cons_zero, List.set_cons_succ])
    | (refine' wpPlan_skip rfl (by rfl) ?_
       simp only [List.getElem_toArray, List.getElem_cons_zero, List.getElem_cons_succ, Act.put, List.setIfInBounds_toArray, List.set_cons_zero, List.set_cons_succ])
    | (refine' wpPlan_skipHeld rfl (by rfl) ?_
       simp only [List.getElem_toArray, List.getElem_cons_zero, List.getElem_cons_succ, Act.put, List.setIfInBounds_toArray, List.set_cons_zero, List.set_cons_succ]))
  refine' wpPlan_kept rfl ?_
  intro K hK
  go_simp
  refine (Q1.out _ (K5.out.stay fd) (K8.out.stay fd)).mono ?_
  rintro e wn0 ⟨rfl, fn0⟩
  have fm0 := Fr.trans fd fn0
  go_simp
  refine hK _ _ ⟨fm0, ?_⟩
  clear hK K
  repeat (first
    | (refine' wpPlan_free (v := _) rfl (by rfl) ?_ ?_
       rotate_left
       · (intro w'; have g := G.out; go_simp; try rfl)
       simp only [List.getElem_toArray, List.getElem_cons_zero, List.getElem_cons_succ, Act.put, List.setIfInBounds_toArray, List.set_cons_zero, List.set_cons_succ])
    | (refine' wpPlan_held (v := V1) rfl (by rfl) (fun w' hS => LD1.out w' hS) ?_
       simp only [List.getElem_toArray, List.getElem_cons_zero, List.getElem_cons_succ, Act.put, List.setIfInBounds_toArray, List.set_cons_zero, List.set_cons_succ])
    | (refine' wpPlan_held (v := V2) rfl (by rfl) (fun w' hS => LD2.out w' hS) ?_
       simp only [List.getElem_toArray, List.getElem_cons_zero, List.getElem_cons_succ, Act.put, List.setIfInBounds_toArray, List.set_cons_zero, List.set_cons_succ])
    | (refine' wpPlan_held (v := V3) rfl (by rfl) (fun w' hS => LD3.out w' hS) ?_
       simp only [List.getElem_toArray, List.getElem_cons_zero, List.getElem_cons_succ, Act.put, List.setIfInBounds_toArray, List.set_cons_zero, List.set_cons_succ])
    | (refine' wpPlan_held (v := V4) rfl (by rfl) (fun w' hS => LD4.out w' hS) ?_
       simp only [List.getElem_toArray, List.getElem_cons_zero, List.getElem_cons_succ, Act.put, List.setIfInBounds_toArray, List.set_cons_zero, List.set_cons_succ])
    | (refine' wpPlan_skip rfl (by rfl) ?_
       simp only [List.getElem_toArray, List.getElem_cons_zero, List.getElem_cons_succ, Act.put, List.setIfInBounds_toArray, List.set_cons_zero, List.set_cons_succ])
    | (refine' wpPlan_skipHeld rfl (by rfl) ?_
       simp only [List.getElem_toArray, List.getElem_cons_zero, List.getElem_cons_succ, Act.put, List.setIfInBounds_toArray, List.set_cons_zero, List.set_cons_succ]))
  refine' wpPlan_kept rfl ?_
  intro K hK
  go_simp
  refine (Q2.out _ (K6.out.stay fm0) (K7.out.stay fm0) (K9.out.stay fm0) (K10.out.stay fm0)).mono ?_
  rintro e wn1 ⟨rfl, fn1⟩
  have fm1 := Fr.trans fm0 fn1
  go_simp
  refine hK _ _ ⟨fm1, ?_⟩
  clear hK K
  repeat (first
    | (refine' wpPlan_free (v := _) rfl (by rfl) ?_ ?_
       rotate_left
       · (intro w'; have g := G.out; go_simp; try rfl)
       simp only [List.getElem_toArray, List.getElem_cons_zero, List.getElem_cons_succ, Act.put, List.setIfInBounds_toArray, List.set_cons_zero, List.set_cons_succ])
    | (refine' wpPlan_held (v := V1) rfl (by rfl) (fun w' hS => LD1.out w' hS) ?_
       simp only [List.getElem_toArray, List.getElem_cons_zero, List.getElem_cons_succ, Act.put, List.setIfInBounds_toArray, List.set_cons_zero, List.set_cons_succ])
    | (refine' wpPlan_held (v := V2) rfl (by rfl) (fun w' hS => LD2.out w' hS) ?_
       simp only [List.getElem_toArray, List.getElem_cons_zero, List.getElem_cons_succ, Act.put, List.setIfInBounds_toArray, List.set_cons_zero, List.set_cons_succ])
    | (refine' wpPlan_held (v := V3) rfl (by rfl) (fun w' hS => LD3.out w' hS) ?_
       simp only [List.getElem_toArray, List.getElem_cons_zero, List.getElem_cons_succ, Act.put, List.setIfInBounds_toArray, List.set_cons_zero, List.set_cons_succ])
    | (refine' wpPlan_held (v := V4) rfl (by rfl) (fun w' hS => LD4.out w' hS) ?_
       simp only [List.getElem_toArray, List.getElem_cons_zero, List.getElem_cons_succ, Act.put, List.setIfInBounds_toArray, List.set_cons_zero, List.set_cons_succ])
    | (refine' wpPlan_skip rfl (by rfl) ?_
       simp only [List.getElem_toArray, List.getElem_cons_zero, List.getElem_cons_succ, Act.put, List.setIfInBounds_toArray, List.set_cons_zero, List.set_cons_succ])
    | (refine' wpPlan_skipHeld rfl (by rfl) ?_
       simp only [List.getElem_toArray, List.getElem_cons_zero, List.getElem_cons_succ, Act.put, List.setIfInBounds_toArray, List.set_cons_zero, List.set_cons_succ]))
  refine' wpPlan_kept rfl ?_
  intro K hK
  go_simp
  refine (Q3.out _ (K1.out.stay fm1) (K2.out.stay fm1) (K3.out.stay fm1) (K4.out.stay fm1)).mono ?_
  rintro e wn2 ⟨rfl, fn2⟩
  have fm2 := Fr.trans fm1 fn2
  go_simp
  refine hK _ _ ⟨fm2, ?_⟩
  clear hK K
  repeat (first
    | (refine' wpPlan_free (v := _) rfl (by rfl) ?_ ?_
       rotate_left
       · (intro w'; have g := G.out; go_simp; try rfl)
       simp only [List.getElem_toArray, List.getElem_cons_zero, List.getElem_cons_succ, Act.put, List.setIfInBounds_toArray, List.set_cons_zero, List.set_cons_succ])
    | (refine' wpPlan_held (v := V1) rfl (by rfl) (fun w' hS => LD1.out w' hS) ?_
       simp only [List.getElem_toArray, List.getElem_cons_zero, List.getElem_cons_succ, Act.put, List.setIfInBounds_toArray, List.set_cons_zero, List.set_cons_succ])
    | (refine' wpPlan_held (v := V2) rfl (by rfl) (fun w' hS => LD2.out w' hS) ?_
       simp only [List.getElem_toArray, List.getElem_cons_zero, List.getElem_cons_succ, Act.put, List.setIfInBounds_toArray, List.set_cons_zero, List.set_cons_succ])
    | (refine' wpPlan_held (v := V3) rfl (by rfl) (fun w' hS => LD3.out w' hS) ?_
       simp only [List.getElem_toArray, List.getElem_cons_zero, List.getElem_cons_succ, Act.put, List.setIfInBounds_toArray, List.set_cons_zero, List.set_cons_succ])
    | (refine' wpPlan_held (v := V4) rfl (by rfl) (fun w' hS => LD4.out w' hS) ?_
       simp only [List.getElem_toArray, List.getElem_cons_zero, List.getElem_cons_succ, Act.put, List.setIfInBounds_toArray, List.set_cons_zero, List.set_cons_succ])
    | (refine' wpPlan_skip rfl (by rfl) ?_
       simp only [List.getElem_toArray, List.getElem_cons_zero, List.getElem_cons_succ, Act.put, List.setIfInBounds_toArray, List.set_cons_zero, List.set_cons_succ])
    | (refine' wpPlan_skipHeld rfl (by rfl) ?_
       simp only [List.getElem_toArray, List.getElem_cons_zero, List.getElem_cons_succ, Act.put, List.setIfInBounds_toArray, List.set_cons_zero, List.set_cons_succ]))
  refine' wpPlan_kept rfl ?_
  intro K hK
  go_simp
  refine (Q4.out _ (K1.out.stay fm2) (K2.out.stay fm2) (K3.out.stay fm2) (K4.out.stay fm2)).mono ?_
  rintro e wn3 ⟨rfl, fn3⟩
  have fm3 := Fr.trans fm2 fn3
  go_simp
  refine hK _ _ ⟨fm3, ?_⟩
  clear hK K
  repeat (first
    | (refine' wpPlan_free (v := _) rfl (by rfl) ?_ ?_
       rotate_left
       · (intro w'; have g := G.out; go_simp; try rfl)
       simp only [List.getElem_toArray, List.getElem_cons_zero, List.getElem_cons_succ, Act.put, List.setIfInBounds_toArray, List.set_cons_zero, List.set_cons_succ])
    | (refine' wpPlan_held (v := V1) rfl (by rfl) (fun w' hS => LD1.out w' hS) ?_
       simp only [List.getElem_toArray, List.getElem_cons_zero, List.getElem_cons_succ, Act.put, List.setIfInBounds_toArray, List.set_cons_zero, List.set_cons_succ])
    | (refine' wpPlan_held (v := V2) rfl (by rfl) (fun w' hS => LD2.out w' hS) ?_
       simp only [List.getElem_toArray, List.getElem_cons_zero, List.getElem_cons_succ, Act.put, List.setIfInBounds_toArray, List.set_cons_zero, List.set_cons_succ])
    | (refine' wpPlan_held (v := V3) rfl (by rfl) (fun w' hS => LD3.out w' hS) ?_
       simp only [List.getElem_toArray, List.getElem_cons_zero, List.getElem_cons_succ, Act.put, List.setIfInBounds_toArray, List.set_cons_zero, List.set_cons_succ])
    | (refine' wpPlan_held (v := V4) rfl (by rfl) (fun w' hS => LD4.out w' hS) ?_
       simp only [List.getElem_toArray, List.getElem_cons_zero, List.getElem_cons_succ, Act.put, List.setIfInBounds_toArray, List.set_cons_zero, List.set_cons_succ])
    | (refine' wpPlan_skip rfl (by rfl) ?_
       simp only [List.getElem_toArray, List.getElem_cons_zero, List.getElem_cons_succ, Act.put, List.setIfInBounds_toArray, List.set_cons_zero, List.set_cons_succ])
    | (refine' wpPlan_skipHeld rfl (by rfl) ?_
       simp only [List.getElem_toArray, List.getElem_cons_zero, List.getElem_cons_succ, Act.put, List.setIfInBounds_toArray, List.set_cons_zero, List.set_cons_succ]))
  refine' wpPlan_kept rfl ?_
  intro K hK
  have g := G.out
  go_simp
  refine hK _ _ ⟨fm3, ?_⟩
  clear g
  clear hK K
  repeat (first
    | (refine' wpPlan_free (v := _) rfl (by rfl) ?_ ?_
       rotate_left
       · (intro w'; have g := G.out; go_simp; try rfl)
       simp only [List.getElem_toArray, List.getElem_cons_zero, List.getElem_cons_succ, Act.put, List.setIfInBounds_toArray, List.set_cons_zero, List.set_cons_succ])
    | (refine' wpPlan_held (v := V1) rfl (by rfl) (fun w' hS => LD1.out w' hS) ?_
       simp only [List.getElem_toArray, List.getElem_cons_zero, List.getElem_cons_succ, Act.put, List.setIfInBounds_toArray, List.set_cons_zero, List.set_cons_succ])
    | (refine' wpPlan_held (v := V2) rfl (by rfl) (fun w' hS => LD2.out w' hS) ?_
       simp only [List.getElem_toArray, List.getElem_cons_zero, List.getElem_cons_succ, Act.put, List.setIfInBounds_toArray, List.set_cons_zero, List.set_cons_succ])
    | (refine' wpPlan_held (v := V3) rfl (by rfl) (fun w' hS => LD3.out w' hS) ?_
       simp only [List.getElem_toArray, List.getElem_cons_zero, List.getElem_cons_succ, Act.put, List.setIfInBounds_toArray, List.set_cons_zero, List.set_cons_succ])
    | (refine' wpPlan_held (v := V4) rfl (by rfl) (fun w' hS => LD4.out w' hS) ?_
       simp only [List.getElem_toArray, List.getElem_cons_zero, List.getElem_cons_succ, Act.put, List.setIfInBounds_toArray, List.set_cons_zero, List.set_cons_succ])
    | (refine' wpPlan_skip rfl (by rfl) ?_
       simp only [List.getElem_toArray, List.getElem_cons_zero, List.getElem_cons_succ, Act.put, List.setIfInBounds_toArray, List.set_cons_zero, List.set_cons_succ])
    | (refine' wpPlan_skipHeld rfl (by rfl) ?_
       simp only [List.getElem_toArray, List.getElem_cons_zero, List.getElem_cons_succ, Act.put, List.setIfInBounds_toArray, List.set_cons_zero, List.set_cons_succ]))
  refine' wpPlan_kept rfl ?_
  intro K hK
  go_simp
  refine (Q6.out _ (K6.out.stay fm3) (K7.out.stay fm3) (K3.out.stay fm3) (K4.out.stay fm3)).mono ?_
  rintro e wn5 ⟨rfl, fn5⟩
  have fm5 := Fr.trans fm3 fn5
  go_simp
  refine hK _ _ ⟨fm5, ?_⟩
  clear hK K
  repeat (first
    | (refine' wpPlan_free (v := _) rfl (by rfl) ?_ ?_
       rotate_left
       · (intro w'; have g := G.out; go_simp; try rfl)
       simp only [List.getElem_toArray, List.getElem_cons_zero, List.getElem_cons_succ, Act.put, List.setIfInBounds_toArray, List.set_cons_zero, List.set_cons_succ])
    | (refine' wpPlan_held (v := V1) rfl (by rfl) (fun w' hS => LD1.out w' hS) ?_
       simp only [List.getElem_toArray, List.getElem_cons_zero, List.getElem_cons_succ, Act.put, List.setIfInBounds_toArray, List.set_cons_zero, List.set_cons_succ])
    | (refine' wpPlan_held (v := V2) rfl (by rfl) (fun w' hS => LD2.out w' hS) ?_
       simp only [List.getElem_toArray, List.getElem_cons_zero, List.getElem_cons_succ, Act.put, List.setIfInBounds_toArray, List.set_cons_zero, List.set_cons_succ])
    | (refine' wpPlan_held (v := V3) rfl (by rfl) (fun w' hS => LD3.out w' hS) ?_
       simp only [List.getElem_toArray, List.getElem_cons_zero, List.getElem_cons_succ, Act.put, List.setIfInBounds_toArray, List.set_cons_zero, List.set_cons_succ])
    | (refine' wpPlan_held (v := V4) rfl (by rfl) (fun w' hS => LD4.out w' hS) ?_
       simp only [List.getElem_toArray, List.getElem_cons_zero, List.getElem_cons_succ, Act.put, List.setIfInBounds_toArray, List.set_cons_zero, List.set_cons_succ])
    | (refine' wpPlan_skip rfl (by rfl) ?_
       simp only [List.getElem_toArray, List.getElem_cons_zero, List.getElem_cons_succ, Act.put, List.setIfInBounds_toArray, List.set_cons_zero, List.set_cons_succ])
    | (refine' wpPlan_skipHeld rfl (by rfl) ?_
       simp only [List.getElem_toArray, List.getElem_cons_zero, List.getElem_cons_succ, Act.put, List.setIfInBounds_toArray, List.set_cons_zero, List.set_cons_succ]))
  refine' wpPlan_kept rfl ?_
  intro K hK
  go_simp
  refine (Q7.out _ (K6.out.stay fm5) (K7.out.stay fm5) (K3.out.stay fm5) (K4.out.stay fm5)).mono ?_
  rintro e wn6 ⟨rfl, fn6⟩
  have fm6 := Fr.trans fm5 fn6
  go_simp
  refine hK _ _ ⟨fm6, ?_⟩
  clear hK K
  repeat (first
    | (refine' wpPlan_free (v := _) rfl (by rfl) ?_ ?_
       rotate_left
       · (intro w'; have g := G.out; go_simp; try rfl)
       simp only [List.getElem_toArray, List.getElem_cons_zero, List.getElem_cons_succ, Act.put, List.setIfInBounds_toArray, List.set_cons_zero, List.set_cons_succ])
    | (refine' wpPlan_held (v := V1) rfl (by rfl) (fun w' hS => LD1.out w' hS) ?_
       simp only [List.getElem_toArray, List.getElem_cons_zero, List.getElem_cons_succ, Act.put, List.setIfInBounds_toArray, List.set_cons_zero, List.set_cons_succ])
    | (refine' wpPlan_held (v := V2) rfl (by rfl) (fun w' hS => LD2.out w' hS) ?_
       simp only [List.getElem_toArray, List.getElem_cons_zero, List.getElem_cons_succ, Act.put, List.setIfInBounds_toArray, List.set_cons_zero, List.set_cons_succ])
    | (refine' wpPlan_held (v := V3) rfl (by rfl) (fun w' hS => LD3.out w' hS) ?_
       simp only [List.getElem_toArray, List.getElem_cons_zero, List.getElem_cons_succ, Act.put, List.setIfInBounds_toArray, List.set_cons_zero, List.set_cons_succ])
    | (refine' wpPlan_held (v := V4) rfl (by rfl) (fun w' hS => LD4.out w' hS) ?_
       simp only [List.getElem_toArray, List.getElem_cons_zero, List.getElem_cons_succ, Act.put, List.setIfInBounds_toArray, List.set_cons_zero, List.set_cons_succ])
    | (refine' wpPlan_skip rfl (by rfl) ?_
       simp only [List.getElem_toArray, List.getElem_cons_zero, List.getElem_cons_succ, Act.put, List.setIfInBounds_toArray, List.set_cons_zero, List.set_cons_succ])
    | (refine' wpPlan_skipHeld rfl (by rfl) ?_
       simp only [List.getElem_toArray, List.getElem_cons_zero, List.getElem_cons_succ, Act.put, List.setIfInBounds_toArray, List.set_cons_zero, List.set_cons_succ]))
  refine' wpPlan_kept rfl ?_
  intro K hK
  go_simp
  refine (awake_any _).mono ?_
  rintro e wn7 ⟨rfl, fn7⟩
  have fm7 := Fr.trans fm6 fn7
  go_simp
  refine hK _ _ ⟨fm7, ?_⟩
  clear hK K
  repeat (first
    | (refine' wpPlan_free (v := _) rfl (by rfl) ?_ ?_
       rotate_left
       · (intro w'; have g := G.out; go_simp; try rfl)
       simp only [List.getElem_toArray, List.getElem_cons_zero, List.getElem_cons_succ, Act.put, List.setIfInBounds_toArray, List.set_cons_zero, List.set_cons_succ])
    | (refine' wpPlan_held (v := V1) rfl (by rfl) (fun w' hS => LD1.out w' hS) ?_
       simp only [List.getElem_toArray, List.getElem_cons_zero, List.getElem_cons_succ, Act.put, List.setIfInBounds_toArray, List.set_cons_zero, List.set_cons_succ])
    | (refine' wpPlan_held (v := V2) rfl (by rfl) (fun w' hS => LD2.out w' hS) ?_
       simp only [List.getElem_toArray, List.getElem_cons_zero, List.getElem_cons_succ, Act.put, List.setIfInBounds_toArray, List.set_cons_zero, List.set_cons_succ])
    | (refine' wpPlan_held (v := V3) rfl (by rfl) (fun w' hS => LD3.out w' hS) ?_
       simp only [List.getElem_toArray, List.getElem_cons_zero, List.getElem_cons_succ, Act.put, List.setIfInBounds_toArray, List.set_cons_zero, List.set_cons_succ])
    | (refine' wpPlan_held (v := V4) rfl (by rfl) (fun w' hS => LD4.out w' hS) ?_
       simp only [List.getElem_toArray, List.getElem_cons_zero, List.getElem_cons_succ, Act.put, List.setIfInBounds_toArray, List.set_cons_zero, List.set_cons_succ])
    | (refine' wpPlan_skip rfl (by rfl) ?_
       simp only [List.getElem_toArray, List.getElem_cons_zero, List.getElem_cons_succ, Act.put, List.setIfInBounds_toArray, List.set_cons_zero, List.set_cons_succ])
    | (refine' wpPlan_skipHeld rfl (by rfl) ?_
       simp only [List.getElem_toArray, List.getElem_cons_zero, List.getElem_cons_succ, Act.put, List.setIfInBounds_toArray, List.set_cons_zero, List.set_cons_succ]))
  refine wpPlan_end ?_
  simp only [wpSegsX, List.drop_succ_cons, List.drop_zero]
  go_wp2_with fail
  go_ret
  exact ⟨by trivial, fw7.trans fm7⟩

theorem does_law {w : World} {vl : Value} {l : List MItem} (hl : Sl kItem All w vl l) (k key high : Int) {ca : Option Addr} {cc : Nat} {bs : List UInt8} (hv : Sl kByte All w (.slice ca bs.length cc) bs) (hk : 0 ≤ key ∧ key ≤ 18446744073709551615)
    (r : MRes) {u1 v1 : Value} (hu1 : Sl kByte All w u1 r.2.2.1) (hv1 : Sl kItem All w v1 r.2.2.2.1) :
    Calls Try.prog 8 #[vl, .agg #[.int .i64 k, .int .u64 key, .int .u64 high, .slice ca bs.length cc], .agg (resCells r u1 v1).toArray] w fun e w' => e = .returned (.bool true) ∧ Fr Non w w' := by
  by_cases he : (mDo (l.take 200) (k, key, high, bs)).2.2 = 0
  · exact does0 hl k key high hv hk r hu1 hv1 he
  · exact does1 hl k key high hv hk r hu1 hv1 he
end Go.Proofs.Ytplhcfaonhkegaa
