/-
  Model: Run.
-/
import Derived.Test.YtplhcfaonhkegaaM12
namespace Go.Proofs.Ytplhcfaonhkegaa
open Go.RowKit Go.Maps

/-- What done does of a call. -/
def DoneC (c : MCall) : Prop := ∀ (S : Nat → Prop) (w : World) (a : Option Addr) (cap : Nat) (l : List MItem) (ca : Option Addr) (cc : Nat), BuildS S kItem 60 w (.slice a l.length cap) l → mOk none l = true → l.length ≤ 90000 →
  Sl kByte All w (.slice ca c.2.2.2.length cc) c.2.2.2 → mCallOk c = true → (0 ≤ c.2.1 ∧ c.2.1 ≤ 18446744073709551615) →
  Calls Try.prog 71 #[.slice a l.length cap, .agg #[.int .i64 c.1, .int .u64 c.2.1, .int .u64 c.2.2.1, .slice ca c.2.2.2.length cc]] w fun e w' =>
    ∃ v' x, e = .returned (.tuple #[v', x]) ∧ BuildS (fun b => S b ∨ w.heap.size ≤ b) kItem 60 w' v' (mDone l c).1 ∧ (∀ b, v'.ownBlock = some b → (Value.slice a l.length cap).ownBlock = some b ∨ w.heap.size ≤ b) ∧ ResS (fun b => w.heap.size ≤ b) w' x (mDone l c).2 ∧ Fr Non w w'

theorem mDone_len (l : List MItem) (c : MCall) : (mDone l c).1.length ≤ l.length + 1 := by
  have hi : ∀ (x : MItem) (l : List MItem), (mIns x false l).length = l.length + 1 := by
    intro x l
    induction l with
    | nil => rfl
    | cons y l ih =>
      rw [mIns]
      split
      · rfl
      · simp [ih]
  have ho : ∀ (k : Int) (l : List MItem), (mOut k l).length ≤ l.length := by
    intro k l
    induction l with
    | nil => simp [mOut]
    | cons y l ih =>
      rw [mOut]
      split
      · simp; omega
      · simp; omega
  unfold mDone
  split
  · split
    · simp
    · simp [hi]
  · split
    · split
      · have := ho c.2.1 l; simp only; omega
      · simp
    · simp

theorem res_rd {S : Nat → Prop} {w : World} {v : Value} {r : MRes} (h : ResS S w v r) (he : (Lit.int .i64 r.1).wf = true) (hl : r.2.2.2.2.1 = r0) (hr : r.2.2.2.2.2.1 = r0) :
    ∃ u vv, v = .agg (resCells r u vv).toArray ∧ kRes.rd S w (resCells r u vv) r ∧ (∃ a n c, u = .slice a n c) ∧ (∃ a n c, vv = .slice a n c) := by
  obtain ⟨u, vv, rfl, h1, h2, h3, h4, h5⟩ := h
  obtain ⟨e, k, b, l, rl, rr, f⟩ := r
  simp only at hl hr he h1 h2 h3 h4 h5
  subst hl hr
  obtain ⟨a1, c1, e1, _⟩ := h1.frm
  obtain ⟨a2, c2, e2, _⟩ := h2.frm
  refine ⟨u, vv, rfl, cells_res he h5 h1 h3 h2 ?_, ⟨_, _, _, e1⟩, ⟨_, _, _, e2⟩⟩
  exact Nat.le_trans (Nat.mul_le_mul_right 32 h4) (by decide)
theorem mDone_refs (l : List MItem) (c : MCall) : (mDone l c).2.2.2.2.2.1 = r0 ∧ (mDone l c).2.2.2.2.2.2.1 = r0 ∧ (Lit.int .i64 (mDone l c).2.1).wf = true := by
  unfold mDone
  split
  · split <;> exact ⟨rfl, rfl, by simp only [mErr]; decide⟩
  · split
    · split <;> exact ⟨rfl, rfl, by simp only [mErr]; decide⟩
    · unfold mAsked
      split
      · split <;> exact ⟨rfl, rfl, by simp only [mErr]; decide⟩
      · split <;> exact ⟨rfl, rfl, by simp only [mErr]; decide⟩

theorem call_at {S : Nat → Prop} {w : World} {a : Option Addr} {n c : Nat} {l : List MCall} (h : Sl kCall S w (.slice a n c) l) (i : Nat) (hi : i < l.length) :
    ∃ b o u, a = some ⟨b, o, none⟩ ∧ l.length ≤ c ∧ c ≤ maxLen ∧ w.cell? ⟨b, o + i * 4, none⟩ = some (.int .i64 l[i].1) ∧ w.cell? ⟨b, o + i * 4 + 1, none⟩ = some (.int .u64 l[i].2.1) ∧ w.cell? ⟨b, o + i * 4 + 2, none⟩ = some (.int .u64 l[i].2.2.1) ∧
      w.cell? ⟨b, o + i * 4 + 3, none⟩ = some u ∧ Sl kByte S w u l[i].2.2.2 ∧ (0 ≤ l[i].2.1 ∧ l[i].2.1 ≤ 18446744073709551615) := by
  obtain ⟨b, o, cs, rfl, _, h1, h2, hr, hc⟩ := h.at i hi
  obtain ⟨u, rfl, hu, _, h3, _⟩ := call_cells hr
  exact ⟨b, o, u, rfl, h1, h2, hc 0 (by simp), hc 1 (by simp), hc 2 (by simp), hc 3 (by simp), hu, h3⟩

theorem mRun_next {l : List MItem} {out : List MRes} {c : MCall} {cs : List MCall} (h : mCallOk c = true) : mRunFrom l out (c :: cs) = mRunFrom (mDone l c).1 (out ++ [(mDone l c).2]) cs := by rw [mRunFrom, if_pos h]
theorem mRun_stop {l : List MItem} {out : List MRes} {c : MCall} {cs : List MCall} (h : ¬ mCallOk c = true) : mRunFrom l out (c :: cs) = (l, out, 104) := by rw [mRunFrom, if_neg h]

set_option maxRecDepth 100000 in
set_option maxHeartbeats 2000000 in
theorem run_any {w : World} {v vc : Value} {l : List MItem} {cs : List MCall} (h : Sl kItem All w v l) (hc : Sl kCall All w vc cs) (hl : l.length ≤ 200) (hcl : cs.length ≤ 40) (hd : ∀ c ∈ cs, DoneC c) :
    Calls Try.prog 23 #[v, vc] w fun e w' => ∃ x y, e = .returned (.tuple #[x, y, .int .i64 (mRun l cs).2.2]) ∧ Build kItem 60 w' x (mRun l cs).1 ∧ Build kRes 52 w' y (mRun l cs).2.1 ∧ Fr Non w w' := by
  have hrb : (200 : Nat) * 32 ≤ reachBytes := by decide
  obtain ⟨va, vn, rfl, _, hm, _⟩ := h.frm
  obtain ⟨ua, un, rfl, _, hm2, _⟩ := hc.frm
  unfold maxLen at hm hm2
  by_cases hok : mOk none l = true
  rotate_left
  · have hchk : mCheck l = 103 := if_neg hok
    have hrun : mRun l cs = ([], [], 103) := if_neg hok
    rw [hrun]
    have hck := check_any h
    rw [hchk] at hck
    go_enter Try.func23, Try.ntmps23
    go_wp2_with fail
    refine hck.mono ?_
    rintro e w1 ⟨rfl, f1⟩
    go_wp2_with fail
    refine bodyPost_ret (v := .tuple #[.slice none 0 0, .slice none 0 0, .int .i64 103]) (by simp [results, Try.results23, go_sem]) rfl ⟨_, _, rfl, Build.nil _ _ _, Build.nil _ _ _, f1⟩
  have hchk : mCheck l = 0 := if_pos hok
  have hrun : mRun l cs = mRunFrom l [] cs := if_pos hok
  rw [hrun]
  have hck := check_any h
  rw [hchk] at hck
  have HS := Lib.hid h
  have HC := Lib.hid hc
  have HDn := Lib.hid hd
  have HOK := Lib.hid hok
  clear h hc hd hok hrun hchk
  go_enter Try.func23, Try.ntmps23
  go_wp2_with fail
  refine hck.mono ?_
  clear hck
  rintro e w1 ⟨rfl, f1⟩
  go_wp2_with fail
  refine (owned_any (HS.out.stay f1) (by omega)).mono ?_
  rintro e w2 ⟨a2, c2, rfl, hB2, _, f2, _⟩
  have f3 := f1.trans f2
  go_wp2_with fail
  go_loopw [0, 8, 23] (fun x y i wr => ∃ (j : Nat), j ≤ cs.length ∧ i = .int .i64 j ∧ Hid (∃ m out, mRunFrom l [] cs = mRunFrom m out (cs.drop j) ∧ mOk none m = true ∧ m.length ≤ 200 + j ∧ out.length ≤ j ∧ BuildS (fun b => y.ownBlock ≠ some b) kItem 60 wr x m ∧ (∀ b, x.ownBlock = some b → y.ownBlock ≠ some b) ∧ Build kRes 52 wr y out ∧ Fr Non w wr ∧ ∀ b, y.ownBlock = some b → w.heap.size ≤ b)) (fun _ _ i _ => cs.length - (intOf i).toNat)
  case atStart => exact ⟨0, by omega, rfl, l, [], by simp, HOK.out, by omega, by simp, hB2.old.mono (fun b _ _ => by simp [Value.ownBlock]), by simp [Value.ownBlock], Build.nil _ _ _, f3, by simp [Value.ownBlock]⟩
  case round =>
    obtain ⟨j, hj, rfl, HI⟩ := hrel
    obtain ⟨m, out, he, hmok, hml, hol, hBS, hxy, hBo, f4, hyn⟩ := HI.out
    have hBm := hBS.build
    have HXY := Lib.hid hxy
    clear hxy
    have HE := Lib.hid he
    clear he
    obtain ⟨ma, mc, rfl⟩ := hBm.form
    by_cases hlt : j < cs.length
    · obtain ⟨B, O, u, rfl, _, _, c0, c1, c2, c3, hu, hk⟩ := call_at (HC.out.stay f4) j hlt
      have HD := Lib.hid (drop_at hlt)
      have hdc := HDn.out cs[j] (List.getElem_mem hlt)
      obtain ⟨c, hcj⟩ : ∃ c, cs[j] = c := ⟨_, rfl⟩
      rw [hcj] at c0 c1 c2 hu hk HD hdc
      clear hcj
      obtain ⟨xa, xc, rfl, _⟩ := hu.frm
      have HU := Lib.hid hu
      have HDC := Lib.hid hdc
      have j0 : (0 : Int) ≤ (j : Int) := by omega
      have j1 : (j : Int) < (cs.length : Int) := by omega
      clear hu hdc
      have f5 : Fr Non wr (wr.alloc (.cells #[.int .i64 c.1, .int .u64 c.2.1, .int .u64 c.2.2.1, .slice xa c.2.2.2.length xc] 39)) := (Fr.refl _ _).alloc _
      by_cases hco : mCallOk c = true
      · have hcall : mCall c = 0 := if_pos hco
        have hca := fun w => call_any w c xa xc
        rw [hcall] at hca
        have HCA := Lib.hid hca
        clear hca hcall
        go_wp2_with fail
        refine (HCA.out _).mono ?_
        rintro e w5 ⟨rfl, f6⟩
        have f7 := f5.trans f6
        obtain ⟨q5, z5⟩ := f6.box (alloc_at wr _) id
        clear c0 c1 c2 c3
        go_wp2_with fail
        refine (HDC.out _ _ _ _ _ _ _ (hBS.fr f7) hmok (by omega) (HU.out.stay f7) hco hk).mono ?_
        rintro e w8 ⟨mv, xv, rfl, hB8, hown8, hR8, f8⟩
        clear q5 z5
        obtain ⟨hr1, hr2, hr3⟩ := mDone_refs m c
        obtain ⟨u8', v8', rfl, hrd, ⟨p1, p2, p3, rfl⟩, ⟨p4, p5, p6, rfl⟩⟩ := res_rd hR8 hr3 hr1 hr2
        have hres := hrd
        have f9 := f7.trans f8
        have HRD := Lib.hid hrd
        clear hrd hres hr1 hr2 hr3
        obtain ⟨n8, hn8⟩ : ∃ n, (mDone m c).1.length = n := ⟨_, rfl⟩
        obtain ⟨ma8, mc8, rfl⟩ : ∃ a c', mv = .slice a n8 c' := by rw [← hn8]; exact hB8.build.form
        have hlen8 := mDone_len m c
        rw [hn8] at hlen8
        have hok8 := Lib.hid (mDone_ok hmok hco)
        have hz5 := f7.size
        generalize hR : (mDone m c).2 = R at HRD hR8 ⊢
        have HR := Lib.hid hR
        clear hR
        have f10 : Fr Non w8 ((w8.alloc (.cells (resCells R (.slice p1 p2 p3) (.slice p4 p5 p6)).toArray 52)).alloc (.cells (resCells R (.slice p1 p2 p3) (.slice p4 p5 p6)).toArray 52)) := ((Fr.refl _ _).alloc _).alloc _
        have hx := kRes.mono (S' := fun b => Value.ownBlock u8 ≠ some b) (kRes.stay HRD.out f10) (fun b _ hb e => by have := hBo.lt b e; omega)
        obtain ⟨cso, go, hro⟩ := (hBo.fr f9).fr f10
        have hb10 := alloc_at2' w8 (.cells (resCells R (.slice p1 p2 p3) (.slice p4 p5 p6)).toArray 52) (.cells (resCells R (.slice p1 p2 p3) (.slice p4 p5 p6)).toArray 52)
        simp only [resCells, refCells, List.cons_append, List.nil_append] at f10 hx hb10 ⊢
        go_wp2_with (at_builtin; refine wpList_append_g rfl _ _ eI52 rfl _ _ _ rfl go _ 1 _ rfl (Src.block (m := 1) hb10 rfl (by simp [Value.oneCell'])) ?k2 ?k3 ?_)
        case k2 => unfold maxLen; omega
        case k3 => omega
        intro v9 w9 r1 r2 r3
        go_wp2_with fail
        go_roundw
        case rel =>
          have f11 := f9.trans f10
          refine ⟨j + 1, by omega, by go_num, (mDone m c).1, out ++ [(mDone m c).2], by rw [HE.out, HD.out, mRun_next hco], hok8.out, by omega, by simp; omega, ?_, ?_, ?_, ?_, ?_⟩
          · have hA := (hB8.fr f10).old.apart r2 (fun b hb e => by
              rcases hown8 b hb with h | h
              · exact HXY.out b h e
              · have := hBo.lt b e; omega) (fun b hb e => by
              rcases hb.1 with h | h
              · exact h e
              · have := hBo.lt b e; omega)
            refine hA.mono fun b _ hb e => ?_
            rcases r3 with r3 | ⟨r3, _⟩
            · rw [r3] at e
              rcases hb.1 with h | h
              · exact h e
              · have := hBo.lt b e; omega
            · have e1 := Option.some.inj (r3.symm.trans e)
              have := hb.2
              simp only [World.size_alloc] at this
              omega
          · intro b hb e
            rcases r3 with r3 | ⟨r3, _⟩
            · rw [r3] at e
              rcases hown8 b hb with h | h
              · exact HXY.out b h e
              · have := hBo.lt b e; omega
            · have e1 := Option.some.inj (r3.symm.trans e)
              have := hB8.build.lt b hb
              omega
          · rw [HR.out]
            exact Build.push hro hx r1 r2 (r3.imp id fun h => ⟨_, h.1, by simp⟩)
          · exact (f4.trans f11).trans2 r2 (fun b hb hx => by have := hyn b hx; omega)
          · intro b hb
            rcases r3 with r3 | ⟨r3, _⟩
            · exact hyn b (r3 ▸ hb)
            · have e1 := Option.some.inj (r3.symm.trans hb)
              have := f4.size
              have := f9.size
              omega
        case measure => simp [intOf]; omega
      · have hcall : mCall c = 104 := if_neg hco
        have hca := fun w => call_any w c xa xc
        rw [hcall] at hca
        have HCA := Lib.hid hca
        clear hca hcall
        obtain ⟨oa, oc, rfl⟩ := hBo.form
        go_wp2_with fail
        refine (HCA.out _).mono ?_
        rintro e w5 ⟨rfl, f6⟩
        have f7 := f5.trans f6
        go_wp2_with fail
        refine bodyPost_ret (v := .tuple #[.slice ma m.length mc, .slice oa out.length oc, .int .i64 104]) (by simp [results, Try.results23, go_sem]) rfl ?_
        rw [HE.out, HD.out, mRun_stop hco]
        exact ⟨_, _, rfl, hBm.fr f7, hBo.fr f7, f4.trans f7⟩
    · obtain rfl : j = cs.length := by omega
      obtain ⟨oa, oc, rfl⟩ := hBo.form
      go_wp2_with fail
      refine bodyPost_ret (v := .tuple #[.slice ma m.length mc, .slice oa out.length oc, .int .i64 0]) (by simp [results, Try.results23, go_sem]) rfl ?_
      rw [HE.out, List.drop_length, mRunFrom]
      exact ⟨_, _, rfl, hBm, hBo, f4⟩
end Go.Proofs.Ytplhcfaonhkegaa
