/-
  Model: the reference's Run; rows of results; Tells.
-/
import Derived.Test.YtplhcfaonhkegaaM21
namespace Go.Proofs.Ytplhcfaonhkegaa
open Go.RowKit Go.Maps

theorem callS_at {S : Nat → Prop} {w : World} {a : Option Addr} {n c : Nat} {l : List MCall} (h : Sl kCall S w (.slice a n c) l) (i : Nat) (hi : i < l.length) :
    ∃ b o u, a = some ⟨b, o, none⟩ ∧ w.cell? ⟨b, o + i * 4, none⟩ = some (.int .i64 l[i].1) ∧ w.cell? ⟨b, o + i * 4 + 1, none⟩ = some (.int .u64 l[i].2.1) ∧ w.cell? ⟨b, o + i * 4 + 2, none⟩ = some (.int .u64 l[i].2.2.1) ∧
      w.cell? ⟨b, o + i * 4 + 3, none⟩ = some u ∧ Sl kByte S w u l[i].2.2.2 ∧ (0 ≤ l[i].2.1 ∧ l[i].2.1 ≤ 18446744073709551615) := by
  obtain ⟨b, o, cs, rfl, _, h1, h2, hr, hc⟩ := h.at i hi
  obtain ⟨u, rfl, hu, _, h3, _⟩ := call_cells hr
  exact ⟨b, o, u, rfl, hc 0 (by simp), hc 1 (by simp), hc 2 (by simp), hc 3 (by simp), hu, h3⟩

set_option maxRecDepth 100000 in
set_option maxHeartbeats 2000000 in
theorem rrun_any {w : World} {v vc : Value} {l : List MItem} {cs : List MCall} (h : Sl kItem All w v l) (hc : Sl kCall All w vc cs) (hl : l.length ≤ 200) (hcl : cs.length ≤ 40) :
    Calls Try.prog 24 #[v, vc] w fun e w' => ∃ x y, e = .returned (.tuple #[x, y, .int .i64 (mRun l cs).2.2]) ∧ Sl kItem All w' x (mRun l cs).1 ∧ Build kRes 52 w' y (mRun l cs).2.1 ∧ Fr Non w w' := by
  obtain ⟨va, vn, rfl, _, hm, _⟩ := h.frm
  obtain ⟨ua, un, rfl, _, hm2, _⟩ := hc.frm
  unfold maxLen at hm hm2
  by_cases hok : mOk none l = true
  rotate_left
  · have hchk : mCheck l = 103 := if_neg hok
    have hrun : mRun l cs = ([], [], 103) := if_neg hok
    rw [hrun]
    have hck := rcheck_any h
    rw [hchk] at hck
    have HC := Lib.hid hck
    clear hck hchk hrun hok
    go_enter Try.func24, Try.ntmps24
    go_wp2_with fail
    refine HC.out.mono ?_
    rintro e w1 ⟨rfl, f1⟩
    go_wp2_with fail
    refine bodyPost_ret (v := .tuple #[.slice none 0 0, .slice none 0 0, .int .i64 103]) (by simp [results, Try.results24, go_sem]) rfl ⟨_, _, rfl, .inl ⟨rfl, rfl⟩, Build.nil _ _ _, f1⟩
  have hchk : mCheck l = 0 := if_pos hok
  have hrun : mRun l cs = mRunFrom l [] cs := if_pos hok
  rw [hrun]
  have hck := rcheck_any h
  rw [hchk] at hck
  have HCK := Lib.hid hck
  have HS := Lib.hid h
  have HC := Lib.hid hc.there
  have HOK := Lib.hid hok
  clear h hc hok hrun hchk hck
  go_enter Try.func24, Try.ntmps24
  go_wp2_with fail
  refine HCK.out.mono ?_
  rintro e w1 ⟨rfl, f1⟩
  go_wp2_with fail
  go_loopw [0, 7, 8] (fun x y i wr => ∃ (j : Nat), j ≤ cs.length ∧ i = .int .i64 j ∧ Hid (∃ m out, mRunFrom l [] cs = mRunFrom m out (cs.drop j) ∧ mOk none m = true ∧ m.length ≤ 200 + j ∧ out.length ≤ j ∧ Sl kItem (fun b => y.ownBlock ≠ some b) wr x m ∧ Build kRes 52 wr y out ∧ Fr Non w wr ∧ ∀ b, y.ownBlock = some b → w.heap.size ≤ b)) (fun _ _ i _ => cs.length - (intOf i).toNat)
  case atStart => exact ⟨0, by omega, rfl, l, [], by simp, HOK.out, by omega, by simp, (HS.out.stay f1).mono (fun b _ _ => by simp [Value.ownBlock]), Build.nil _ _ _, f1, by simp [Value.ownBlock]⟩
  case round =>
    obtain ⟨j, hj, rfl, HI⟩ := hrel
    obtain ⟨m, out, he, hmok, hml, hol, hSm, hBo, f4, hyn⟩ := HI.out
    have HE := Lib.hid he
    clear he
    obtain ⟨ma, mc, rfl, _⟩ := hSm.frm
    have HSM := Lib.hid hSm
    clear hSm
    by_cases hlt : j < cs.length
    · obtain ⟨B, O, u, rfl, c0, c1, c2, c3, hu, hk⟩ := callS_at (HC.out.stay f4) j hlt
      have HD := Lib.hid (drop_at hlt)
      obtain ⟨c, hcj⟩ : ∃ c, cs[j] = c := ⟨_, rfl⟩
      rw [hcj] at c0 c1 c2 hu hk HD
      clear hcj
      obtain ⟨k, key, high, bs⟩ := c
      simp only at c0 c1 c2 hu hk
      obtain ⟨xa, xc, rfl, _⟩ := hu.frm
      have hu2 : Sl kByte (fun b => Value.ownBlock u7 ≠ some b) wr (.slice xa bs.length xc) bs := hu.mono fun b _ hb e => by have := hyn b e; omega
      have HU := Lib.hid hu2
      have j0 : (0 : Int) ≤ (j : Int) := by omega
      have j1 : (j : Int) < (cs.length : Int) := by omega
      clear hu hu2
      have hdo := rdo_any HSM.out (by omega) k key high HU.out hk
      by_cases hco : mCallOk (k, key, high, bs) = true
      rotate_left
      · rw [mDo_call hmok hco] at hdo
        have HDO := Lib.hid hdo
        clear hdo
        obtain ⟨oa, oc, rfl⟩ := hBo.form
        go_wp2_with fail
        refine HDO.out.mono ?_
        rintro e w5 ⟨x5, y5, rfl, hx5, hy5, f5⟩
        obtain ⟨u8', v8', rfl, _, ⟨p1, p2, p3, rfl⟩, ⟨p4, p5, p6, rfl⟩⟩ := res_rd hy5 (by simp only [mErr]; decide) rfl rfl
        obtain ⟨xa5, xc5, rfl, _⟩ := hx5.frm
        simp only [resCells, refCells, List.cons_append, List.nil_append, mErr, r0]
        go_wp2_with fail
        refine bodyPost_ret (v := .tuple #[.slice ma m.length mc, .slice oa out.length oc, .int .i64 104]) (by simp [results, Try.results24, go_sem]) rfl ?_
        rw [HE.out, HD.out, mRun_stop hco]
        have f6 := f5.alloc (.cells #[.int .i64 0, .int .u64 0, .slice p1 p2 p3, .slice p4 p5 p6, .int .i64 0, .int .i64 0, .int .u64 0, .int .i64 0, .int .u64 0, .int .i64 0, .int .i64 0, .int .u64 0, .int .i64 0, .int .u64 0, .bool false] 52)
        exact ⟨_, _, rfl, (HSM.out.stay f6).all, hBo.fr f6, f4.trans f6⟩
      rw [mDo_ok hmok hco] at hdo
      have HDO := Lib.hid hdo
      clear hdo
      go_wp2_with fail
      refine HDO.out.mono ?_
      rintro e w8 ⟨mv, xv, rfl, hx8, hR8, f8⟩
      obtain ⟨hr1, hr2, hr3⟩ := mDone_refs m (k, key, high, bs)
      obtain ⟨u8', v8', rfl, hrd, ⟨p1, p2, p3, rfl⟩, ⟨p4, p5, p6, rfl⟩⟩ := res_rd hR8 hr3 hr1 hr2
      obtain ⟨ma8, mc8, rfl, _⟩ := hx8.frm
      obtain ⟨n8, hn8⟩ : ∃ n, (mDone m (k, key, high, bs)).1.length = n := ⟨_, rfl⟩
      have hlen8 := mDone_len m (k, key, high, bs)
      have HX8 := Lib.hid hx8
      have HRD := Lib.hid hrd
      have HN8 := Lib.hid hn8
      rw [hn8] at hlen8 ⊢
      have hok8 := Lib.hid (mDone_ok hmok hco)
      clear hx8 hrd hr1 hr2 hr3 hR8 hn8 c0 c1 c2 c3
      generalize hR : (mDone m (k, key, high, bs)).2 = R at HRD ⊢
      have HR := Lib.hid hR
      clear hR
      have f10 : Fr Non w8 ((w8.alloc (.cells (resCells R (.slice p1 p2 p3) (.slice p4 p5 p6)).toArray 52)).alloc (.cells (resCells R (.slice p1 p2 p3) (.slice p4 p5 p6)).toArray 52)) := ((Fr.refl _ _).alloc _).alloc _
      have hx := kRes.mono (S' := fun b => Value.ownBlock u7 ≠ some b) (kRes.stay HRD.out f10) (fun b _ hb e => by
        rcases hb with h | h
        · exact h e
        · have := hBo.lt b e; omega)
      obtain ⟨cso, go, hro⟩ := (hBo.fr f8).fr f10
      have hb10 := alloc_at2' w8 (.cells (resCells R (.slice p1 p2 p3) (.slice p4 p5 p6)).toArray 52) (.cells (resCells R (.slice p1 p2 p3) (.slice p4 p5 p6)).toArray 52)
      simp only [resCells, refCells, List.cons_append, List.nil_append] at f10 hx hb10 ⊢
      go_wp2_with (at_builtin; refine wpList_append_g rfl _ _ eI52 rfl _ _ _ rfl go _ 1 _ rfl (Src.block (m := 1) hb10 rfl (by simp [Value.oneCell'])) ?k2 ?k3 ?_)
      case k2 => unfold maxLen; omega
      case k3 => omega
      intro v9 w9 r1 r2 r3
      go_wp2_with fail
      go_roundw
      case rel =>
        have f11 := f8.trans f10
        have h8 : Sl kItem (fun b => Value.ownBlock u7 ≠ some b ∧ b < w8.heap.size) w8 (.slice ma8 n8 mc8) (mDone m (k, key, high, bs)).1 := by
          have := HX8.out
          rw [HN8.out] at this
          refine this.mono fun b hb h => ⟨fun e => ?_, hb⟩
          rcases h with h | h
          · exact h e
          · have := hBo.lt b e; omega
        refine ⟨j + 1, by omega, by go_num, (mDone m (k, key, high, bs)).1, out ++ [(mDone m (k, key, high, bs)).2], by rw [HE.out, HD.out, mRun_next hco], hok8.out, by rw [HN8.out]; omega, by simp; omega, ?_, ?_, ?_, ?_⟩
        · refine ((h8.stay f10).frame r2 (fun b _ hb e => hb.1 e)).mono fun b _ hb e => ?_
          rcases r3 with r3 | ⟨r3, _⟩
          · rw [r3] at e; exact hb.1 e
          · have e1 := Option.some.inj (r3.symm.trans e)
            have := hb.2
            omega
        · rw [HR.out]
          exact Build.push hro hx r1 r2 (r3.imp id fun h => ⟨_, h.1, by simp⟩)
        · exact (f4.trans f11).trans2 r2 (fun b hb hx => by have := hyn b hx; omega)
        · intro b hb
          rcases r3 with r3 | ⟨r3, _⟩
          · exact hyn b (r3 ▸ hb)
          · have e1 := Option.some.inj (r3.symm.trans hb)
            have := f4.size
            have := f8.size
            omega
      case measure => simp [intOf]; omega
    · obtain rfl : j = cs.length := by omega
      obtain ⟨oa, oc, rfl⟩ := hBo.form
      go_wp2_with fail
      refine bodyPost_ret (v := .tuple #[.slice ma m.length mc, .slice oa out.length oc, .int .i64 0]) (by simp [results, Try.results24, go_sem]) rfl ?_
      rw [HE.out, List.drop_length, mRunFrom]
      exact ⟨_, _, rfl, HSM.out.all, hBo, f4⟩

set_option maxRecDepth 100000 in
set_option maxHeartbeats 2000000 in
theorem sameAll_any {w : World} {u v : Value} {l m : List MRes} (hl : Sl kRes All w u l) (hm : Sl kRes All w v m) :
    Calls Try.prog 26 #[u, v] w fun e w' => e = .returned (.bool (decide (l = m))) ∧ Fr Non w w' := by
  obtain ⟨va, vc, rfl, _, hx, _⟩ := hl.frm
  obtain ⟨ua, uc, rfl, _, hy, _⟩ := hm.frm
  unfold maxLen at hx hy
  by_cases hlen : l.length = m.length
  rotate_left
  · have h1 : ¬ (l.length : Int) = (m.length : Int) := by omega
    have h2 : ((l.length : Int) == (m.length : Int)) = false := by simpa using h1
    rw [decide_eq_false (fun e => hlen (by rw [e]))]
    go_enter Try.func26, Try.ntmps26
    go_wp2_with fail
    go_ret
    exact ⟨by trivial, Fr.refl _ _⟩
  rw [← hlen]
  have HN := Lib.hid hlen
  have HM0 := Lib.hid hm
  clear hlen hm
  have HL := Lib.hid hl
  clear hl
  go_enter Try.func26, Try.ntmps26
  go_wp2_with fail
  go_loopw [5] (fun i wr => ∃ (j : Nat), j ≤ l.length ∧ i = .int .i64 j ∧ Hid (Fr Non w wr ∧ l.take j = m.take j)) (fun i _ => l.length - (intOf i).toNat)
  case atStart => exact ⟨0, by omega, rfl, Fr.refl _ _, by simp⟩
  case round =>
    obtain ⟨j, hj, rfl, HI⟩ := hrel
    by_cases hlt : j < l.length
    · have f1 := HI.out.1
      have hlt2 : j < m.length := by have := HN.out; omega
      obtain ⟨B, O, u1, v1, rfl, _, _, _, hc, hu1, hv1⟩ := res_at (HL.out.stay f1) j hlt
      have hm2 := HM0.out
      rw [← HN.out] at hm2
      obtain ⟨B2, O2, u2, v2, rfl, -, -, -, hd, hu2, hv2⟩ := res_at (hm2.stay f1) j hlt2
      clear hm2
      have HT := Lib.hid (And.intro (take_next hlt) (And.intro (take_next hlt2) (ne_at j hlt hlt2)))
      obtain ⟨x, hx⟩ : ∃ x, l[j] = x := ⟨_, rfl⟩
      obtain ⟨y, hy⟩ : ∃ y, m[j] = y := ⟨_, rfl⟩
      rw [hx] at hc hu1 hv1 HT
      rw [hy] at hd hu2 hv2 HT
      clear hx hy
      have hcall := fun (w : World) (h1 : Sl kByte All w u1 x.2.2.1) (h2 : Sl kItem All w v1 x.2.2.2.1) (h3 : Sl kByte All w u2 y.2.2.1) (h4 : Sl kItem All w v2 y.2.2.2.1) => rsres_any x y h1 h2 h3 h4
      obtain ⟨d, hxy⟩ : ∃ d, decide (x = y) = d := ⟨_, rfl⟩
      rw [hxy] at hcall
      have HXY := Lib.hid hxy
      clear hxy
      obtain ⟨e1, k1, b1, l1, ⟨a1, ⟨a2, a3⟩, a4, a5⟩, ⟨c1, ⟨c2, c3⟩, c4, c5⟩, t1⟩ := x
      obtain ⟨e2, k2, b2, l2, ⟨p1, ⟨p2, p3⟩, p4, p5⟩, ⟨q1, ⟨q2, q3⟩, q4, q5⟩, t2⟩ := y
      obtain ⟨ga, gc, rfl, _⟩ := hu1.frm
      obtain ⟨ha, hhc, rfl, _⟩ := hv1.frm
      obtain ⟨ia, ic, rfl, _⟩ := hu2.frm
      obtain ⟨ja, jc, rfl, _⟩ := hv2.frm
      simp only [resCells, refCells, List.cons_append, List.nil_append] at hc hd hcall
      have HCALL := Lib.hid hcall
      have H1 := Lib.hid hu1
      have H2 := Lib.hid hv1
      have H3 := Lib.hid hu2
      have H4 := Lib.hid hv2
      have j0 : (0 : Int) ≤ (j : Int) := by omega
      have j1 : (j : Int) < (l.length : Int) := by omega
      have HC := Lib.hid hc
      have HDD := Lib.hid hd
      clear hcall hu1 hv1 hu2 hv2 hc hd
      go_wp2_with fail
      refine wp_draw [((Fr Non wr), [(.free, 0), (.free, 1), (.free, 2), (.held, 3), (.free, 4), (.free, 5), (.free, 6), (.held, 7), (.kept, 8), (.free, 9)])] 10 (by kernel_rfl) (by kernel_rfl) (fun _ _ _ _ _ h => h) ⟨(Fr.refl _ _).drew, ?_⟩
      have fd : Fr Non wr wr.drew := (Fr.refl _ _).drew
      generalize wr.drew = wd at fd ⊢
      repeat (first
        | (refine' wpPlan_free (v := _) rfl (by rfl) ?_ ?_
           rotate_left
           · (intro w'; go_simp; try rfl)
           simp only [List.getElem_toArray, List.getElem_cons_zero, List.getElem_cons_succ, Act.put, List.setIfInBounds_toArray, List.set_cons_zero, List.set_cons_succ])
        | (refine' wpPlan_held (v := _) rfl (by rfl) ?_ ?_
           rotate_left
           · (intro w' hS; have g0 : w'.cell? ⟨B, O + j * 15, none⟩ = some _ := hS.cell (HC.out 0 _ rfl) id; have h0 : w'.cell? ⟨B2, O2 + j * 15, none⟩ = some _ := hS.cell (HDD.out 0 _ rfl) id; have g1 : w'.cell? ⟨B, O + j * 15 + 1, none⟩ = some _ := hS.cell (HC.out 1 _ rfl) id; have h1 : w'.cell? ⟨B2, O2 + j * 15 + 1, none⟩ = some _ := hS.cell (HDD.out 1 _ rfl) id; have g2 : w'.cell? ⟨B, O + j * 15 + 2, none⟩ = some _ := hS.cell (HC.out 2 _ rfl) id; have h2 : w'.cell? ⟨B2, O2 + j * 15 + 2, none⟩ = some _ := hS.cell (HDD.out 2 _ rfl) id; have g3 : w'.cell? ⟨B, O + j * 15 + 3, none⟩ = some _ := hS.cell (HC.out 3 _ rfl) id; have h3 : w'.cell? ⟨B2, O2 + j * 15 + 3, none⟩ = some _ := hS.cell (HDD.out 3 _ rfl) id; have g4 : w'.cell? ⟨B, O + j * 15 + 4, none⟩ = some _ := hS.cell (HC.out 4 _ rfl) id; have h4 : w'.cell? ⟨B2, O2 + j * 15 + 4, none⟩ = some _ := hS.cell (HDD.out 4 _ rfl) id; have g5 : w'.cell? ⟨B, O + j * 15 + 5, none⟩ = some _ := hS.cell (HC.out 5 _ rfl) id; have h5 : w'.cell? ⟨B2, O2 + j * 15 + 5, none⟩ = some _ := hS.cell (HDD.out 5 _ rfl) id; have g6 : w'.cell? ⟨B, O + j * 15 + 6, none⟩ = some _ := hS.cell (HC.out 6 _ rfl) id; have h6 : w'.cell? ⟨B2, O2 + j * 15 + 6, none⟩ = some _ := hS.cell (HDD.out 6 _ rfl) id; have g7 : w'.cell? ⟨B, O + j * 15 + 7, none⟩ = some _ := hS.cell (HC.out 7 _ rfl) id; have h7 : w'.cell? ⟨B2, O2 + j * 15 + 7, none⟩ = some _ := hS.cell (HDD.out 7 _ rfl) id; have g8 : w'.cell? ⟨B, O + j * 15 + 8, none⟩ = some _ := hS.cell (HC.out 8 _ rfl) id; have h8 : w'.cell? ⟨B2, O2 + j * 15 + 8, none⟩ = some _ := hS.cell (HDD.out 8 _ rfl) id; have g9 : w'.cell? ⟨B, O + j * 15 + 9, none⟩ = some _ := hS.cell (HC.out 9 _ rfl) id; have h9 : w'.cell? ⟨B2, O2 + j * 15 + 9, none⟩ = some _ := hS.cell (HDD.out 9 _ rfl) id; have g10 : w'.cell? ⟨B, O + j * 15 + 10, none⟩ = some _ := hS.cell (HC.out 10 _ rfl) id; have h10 : w'.cell? ⟨B2, O2 + j * 15 + 10, none⟩ = some _ := hS.cell (HDD.out 10 _ rfl) id; have g11 : w'.cell? ⟨B, O + j * 15 + 11, none⟩ = some _ := hS.cell (HC.out 11 _ rfl) id; have h11 : w'.cell? ⟨B2, O2 + j * 15 + 11, none⟩ = some _ := hS.cell (HDD.out 11 _ rfl) id; have g12 : w'.cell? ⟨B, O + j * 15 + 12, none⟩ = some _ := hS.cell (HC.out 12 _ rfl) id; have h12 : w'.cell? ⟨B2, O2 + j * 15 + 12, none⟩ = some _ := hS.cell (HDD.out 12 _ rfl) id; have g13 : w'.cell? ⟨B, O + j * 15 + 13, none⟩ = some _ := hS.cell (HC.out 13 _ rfl) id; have h13 : w'.cell? ⟨B2, O2 + j * 15 + 13, none⟩ = some _ := hS.cell (HDD.out 13 _ rfl) id; have g14 : w'.cell? ⟨B, O + j * 15 + 14, none⟩ = some _ := hS.cell (HC.out 14 _ rfl) id; have h14 : w'.cell? ⟨B2, O2 + j * 15 + 14, none⟩ = some _ := hS.cell (HDD.out 14 _ rfl) id; clear hS; go_simp; try rfl)
           simp only [List.getElem_toArray, List.getElem_cons_zero, List.getElem_cons_succ, Act.put, List.setIfInBounds_toArray, List.set_cons_zero, List.set_cons_succ])
        | (refine' wpPlan_skip rfl (by rfl) ?_
           simp only [List.getElem_toArray, List.getElem_cons_zero, List.getElem_cons_succ, Act.put, List.setIfInBounds_toArray, List.set_cons_zero, List.set_cons_succ])
        | (refine' wpPlan_skipHeld rfl (by rfl) ?_
           simp only [List.getElem_toArray, List.getElem_cons_zero, List.getElem_cons_succ, Act.put, List.setIfInBounds_toArray, List.set_cons_zero, List.set_cons_succ]))
      refine' wpPlan_kept rfl ?_
      intro K hK
      go_simp
      refine (HCALL.out _ (H1.out.stay fd) (H2.out.stay fd) (H3.out.stay fd) (H4.out.stay fd)).mono ?_
      rintro e w4 ⟨rfl, f4⟩
      have f5 := fd.trans f4
      go_simp
      refine hK _ _ ⟨f5, ?_⟩
      clear hK K
      repeat (first
        | (refine' wpPlan_free (v := _) rfl (by rfl) ?_ ?_
           rotate_left
           · (intro w'; go_simp; try rfl)
           simp only [List.getElem_toArray, List.getElem_cons_zero, List.getElem_cons_succ, Act.put, List.setIfInBounds_toArray, List.set_cons_zero, List.set_cons_succ])
        | (refine' wpPlan_held (v := _) rfl (by rfl) ?_ ?_
           rotate_left
           · (intro w' hS; clear hS; go_simp; try rfl)
           simp only [List.getElem_toArray, List.getElem_cons_zero, List.getElem_cons_succ, Act.put, List.setIfInBounds_toArray, List.set_cons_zero, List.set_cons_succ])
        | (refine' wpPlan_skip rfl (by rfl) ?_
           simp only [List.getElem_toArray, List.getElem_cons_zero, List.getElem_cons_succ, Act.put, List.setIfInBounds_toArray, List.set_cons_zero, List.set_cons_succ])
        | (refine' wpPlan_skipHeld rfl (by rfl) ?_
           simp only [List.getElem_toArray, List.getElem_cons_zero, List.getElem_cons_succ, Act.put, List.setIfInBounds_toArray, List.set_cons_zero, List.set_cons_succ]))
      refine wpPlan_end ?_
      simp only [wpSegs, List.drop_succ_cons, List.drop_zero]
      cases d with
      | true =>
        go_wp2_with fail
        go_roundw
        case rel => exact ⟨j + 1, by omega, by go_num, f1.trans f5, by rw [HT.out.1, HT.out.2.1, HI.out.2, of_decide_eq_true HXY.out]⟩
        case measure => simp [intOf]; omega
      | false =>
        go_wp2_with fail
        go_ret
        exact ⟨by rw [decide_eq_false (HT.out.2.2 (of_decide_eq_false HXY.out))]; rfl, f1.trans f5⟩
    · obtain rfl : j = l.length := by omega
      obtain ⟨h1, h2⟩ := HI.out
      rw [List.take_length, HN.out, List.take_length] at h2
      go_wp2_with fail
      go_ret
      exact ⟨by rw [decide_eq_true h2]; rfl, h1⟩
end Go.Proofs.Ytplhcfaonhkegaa
