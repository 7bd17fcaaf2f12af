/-
  Model: done, whatever the call; Do.
-/
import Derived.Test.YtplhcfaonhkegaaM18
import Derived.Test.YtplhcfaonhkegaaM13
import Derived.Test.YtplhcfaonhkegaaM15
import Derived.Test.YtplhcfaonhkegaaM16
import Derived.Test.YtplhcfaonhkegaaG
import Derived.Deep.DeepCutAuto
import Derived.Test.YtplhcfaonhkegaaM21
namespace Go.Proofs.Ytplhcfaonhkegaa
open Go.RowKit Go.Maps

theorem BuildS.none {S : Nat → Prop} {w : World} {n cap : Nat} {l : List MItem} (h : BuildS S kItem 60 w (.slice none n cap) l) : l = [] ∧ n = 0 ∧ cap = 0 := by
  obtain ⟨cs, g, _⟩ := h
  rcases g.2 with ⟨he, h0⟩ | ⟨G, c, cur, he, _⟩
  · cases he
    exact ⟨List.eq_nil_of_length_eq_zero h0, rfl, rfl⟩
  · cases he
theorem BuildS.some {S : Nat → Prop} {w : World} {a : Addr} {n cap : Nat} {l : List MItem} (h : BuildS S kItem 60 w (.slice (some a) n cap) l) : ∃ g, a = ⟨g, 0, .none⟩ := by
  obtain ⟨cs, g, _⟩ := h
  rcases g.2 with ⟨he, _⟩ | ⟨G, c, cur, he, _⟩
  · cases he
  · cases he; exact ⟨G, rfl⟩
theorem doneC_any {c : MCall} (hc : mCallOk c = true) : DoneC c := by
  intro S w a cap l ca cc h1 h2 h3 h4 h5 h6
  obtain ⟨k, key, high, bs⟩ := c
  unfold mCallOk at hc
  simp only at hc h4 h6 ⊢
  by_cases e1 : k = 1
  · subst e1; exact done1 h1 h2 h3 key high h4 h5 h6
  by_cases e2 : k = 2
  · subst e2; exact done2 h1 h2 h3 key high h4 h5 h6
  by_cases e3 : k = 3
  · subst e3; exact done3 h1 h2 h3 key high h4 h5 h6
  by_cases e4 : k = 4
  · subst e4; exact done4 h1 h2 h3 key high h4 h5 h6
  by_cases e5 : k = 5
  · subst e5
    cases a with
    | none =>
      obtain ⟨rfl, _, rfl⟩ := h1.none
      exact done5n key high
    | some ad =>
      obtain ⟨g, rfl⟩ := h1.some
      exact done5 h1 h2 h3 key high h4 h5 ⟨g, rfl⟩ h6
  · simp [e1, e2, e3, e4, e5] at hc

theorem frTwo {P Q : Nat} {w8 w9 w' : World} (f : Fr (fun b => b = P) w8 w9) (g : Fr (fun b => b = Q) w9 w') : Fr (fun b => b = P ∨ b = Q) w8 w' :=
  (f.mono fun _ _ h => .inl h).trans (g.mono fun _ _ h => .inr h)
/-- What holds behind the call of done. -/
def CutR (w : World) (C : Nat) (d : List MItem × MRes) (m p : Value) (wx : World) : Prop :=
  ∃ (P : Nat) (ma : Option Addr) (mc : Nat) (u vv : Value), m = .slice ma d.1.length mc ∧ p = .pointer (some ⟨P, 0, none⟩) ∧ wx.heap[P]? = some (.cells (resCells d.2 u vv).toArray 52 (0, 0)) ∧ (∃ a n c, u = .slice a n c) ∧ (∃ a n c, vv = .slice a n c) ∧ C + 1 ≠ P ∧
    BuildS (fun b => b ≠ C + 1) kItem 60 wx (.slice ma d.1.length mc) d.1 ∧ (∀ b, (Value.slice ma d.1.length mc).ownBlock = some b → b ≠ C + 1) ∧ ResS (fun b => b ≠ C + 1) wx (.agg (resCells d.2 u vv).toArray) d.2 ∧ Fr Non w wx ∧
    wx.heap[C + 1]? = some (.cells (#[.int .i64 0, .int .u64 0, .slice none 0 0, .slice none 0 0, .int .i64 0, .int .i64 0, .int .u64 0, .int .i64 0, .int .u64 0, .int .i64 0, .int .i64 0, .int .u64 0, .int .i64 0, .int .u64 0, .bool false] : Array Value) 52 (0, 0))
theorem BuildN.buildS {n : Nat} {w : World} {v : Value} {l : List MItem} (h : BuildN n kItem 60 w v l) : BuildS (fun b => n ≤ b) kItem 60 w v l := h

set_option maxRecDepth 100000 in
set_option maxHeartbeats 4000000 in
theorem do_any {w : World} {v : Value} {l : List MItem} (h : Sl kItem All w v l) (hl : l.length ≤ 80000) (c : MCall) {ca : Option Addr} {cc : Nat} (hv : Sl kByte All w (.slice ca c.2.2.2.length cc) c.2.2.2) (hk : 0 ≤ c.2.1 ∧ c.2.1 ≤ 18446744073709551615) :
    Calls Try.prog 32 #[v, .agg #[.int .i64 c.1, .int .u64 c.2.1, .int .u64 c.2.2.1, .slice ca c.2.2.2.length cc]] w fun e w' =>
      ∃ x y, e = .returned (.tuple #[x, y, .int .i64 (mDo l c).2.2]) ∧ Build kItem 60 w' x (mDo l c).1 ∧ ResS All w' y (mDo l c).2.1 ∧ Fr Non w w' := by
  have hrb : (80000 : Nat) * 32 ≤ reachBytes := by decide
  obtain ⟨va, vn, rfl, _, hm, _⟩ := h.frm
  unfold maxLen at hm
  have f0 : Fr Non w ((w.alloc (.cells #[.int .i64 c.1, .int .u64 c.2.1, .int .u64 c.2.2.1, .slice ca c.2.2.2.length cc] 39)).alloc (.cells #[.int .i64 0, .int .u64 0, .slice none 0 0, .slice none 0 0, .int .i64 0, .int .i64 0, .int .u64 0, .int .i64 0, .int .u64 0, .int .i64 0, .int .i64 0, .int .u64 0, .int .i64 0, .int .u64 0, .bool false] 52)) := ((Fr.refl _ _).alloc _).alloc _
  have bC := alloc_at2 w (.cells #[.int .i64 c.1, .int .u64 c.2.1, .int .u64 c.2.2.1, .slice ca c.2.2.2.length cc] 39) (.cells #[.int .i64 0, .int .u64 0, .slice none 0 0, .slice none 0 0, .int .i64 0, .int .i64 0, .int .u64 0, .int .i64 0, .int .u64 0, .int .i64 0, .int .i64 0, .int .u64 0, .int .i64 0, .int .u64 0, .bool false] 52)
  have bR := alloc_at2' w (.cells #[.int .i64 c.1, .int .u64 c.2.1, .int .u64 c.2.2.1, .slice ca c.2.2.2.length cc] 39) (.cells #[.int .i64 0, .int .u64 0, .slice none 0 0, .slice none 0 0, .int .i64 0, .int .i64 0, .int .u64 0, .int .i64 0, .int .u64 0, .int .i64 0, .int .i64 0, .int .u64 0, .int .i64 0, .int .u64 0, .bool false] 52)
  have HS := Lib.hid (h.stay f0)
  have HV := Lib.hid (hv.stay f0)
  obtain ⟨C, hC⟩ : ∃ C, w.heap.size = C := ⟨_, rfl⟩
  have HCC := Lib.hid hC
  rw [hC] at bC bR
  by_cases hok : mOk none l = true
  rotate_left
  · have hchk : mCheck l = 103 := if_neg hok
    rw [mDo_err hok]
    have hck := fun (w : World) (h : Sl kItem All w (.slice va l.length vn) l) => check_any h
    rw [hchk] at hck
    have HC := Lib.hid hck
    clear hck h hv hchk hok
    go_enter Try.func32, Try.ntmps32
    go_wp2_with fail
    refine (HC.out _ HS.out).mono ?_
    rintro e w1 ⟨rfl, f1⟩
    have fw := f0.trans f1
    have bR1 := f1.heap bR id
    obtain ⟨qR, zR⟩ := box_facts bR1
    go_wp2_with fail
    refine bodyPost_ret (v := .tuple #[.slice none 0 0, .agg (resCells (mErr 0) (.slice none 0 0) (.slice none 0 0)).toArray, .int .i64 103]) (by simp [results, Try.results32, go_sem, set15_cell bR1, resCells, refCells, mErr, r0]) rfl ⟨_, _, rfl, Build.nil _ _ _, ResS.err 0, ?_⟩
    exact fw.trans2 (set15_fr _ (C + 1) _ _ _ _ _ _ _ _ _ _ _ _ _ _ _) (fun b hb e => by have := HCC.out; omega)
  have hchk : mCheck l = 0 := if_pos hok
  have hck := fun (w : World) (h : Sl kItem All w (.slice va l.length vn) l) => check_any h
  rw [hchk] at hck
  have HC := Lib.hid hck
  clear hck h hv hchk
  by_cases hco : mCallOk c = true
  rotate_left
  · have hcall : mCall c = 104 := if_neg hco
    have hca := fun w => call_any w c ca cc
    rw [hcall] at hca
    have HCA := Lib.hid hca
    rw [mDo_call hok hco]
    clear hca hcall hok hco
    go_enter Try.func32, Try.ntmps32
    go_wp2_with fail
    refine (HC.out _ HS.out).mono ?_
    rintro e w1 ⟨rfl, f1⟩
    obtain ⟨qC, zC⟩ := f1.box bC id
    go_wp2_with fail
    refine (HCA.out _).mono ?_
    rintro e w2 ⟨rfl, f2⟩
    have fw := (f0.trans f1).trans f2
    have bR2 := (f1.trans f2).heap bR id
    obtain ⟨qR, zR⟩ := box_facts bR2
    go_wp2_with fail
    refine bodyPost_ret (v := .tuple #[.slice none 0 0, .agg (resCells (mErr 0) (.slice none 0 0) (.slice none 0 0)).toArray, .int .i64 104]) (by simp [results, Try.results32, go_sem, set15_cell bR2, resCells, refCells, mErr, r0]) rfl ⟨_, _, rfl, Build.nil _ _ _, ResS.err 0, ?_⟩
    exact fw.trans2 (set15_fr _ (C + 1) _ _ _ _ _ _ _ _ _ _ _ _ _ _ _) (fun b hb e => by have := HCC.out; omega)
  have hcall : mCall c = 0 := if_pos hco
  have hca := fun w => call_any w c ca cc
  rw [hcall] at hca
  have HCA := Lib.hid hca
  rw [mDo_ok hok hco]
  have HOK := Lib.hid hok
  have HCO := Lib.hid hco
  clear hca hcall hok hco
  go_enter Try.func32, Try.ntmps32
  go_wp2_with fail
  refine (HC.out _ HS.out).mono ?_
  rintro e w1 ⟨rfl, f1⟩
  obtain ⟨qC, zC⟩ := f1.box bC id
  go_wp2_with fail
  refine (HCA.out _).mono ?_
  rintro e w2 ⟨rfl, f2⟩
  have f12 := f1.trans f2
  have bC2 := f12.heap bC id
  have bR2 := f12.heap bR id
  clear qC zC
  go_upto_region 7 with (fail)
  go_cut [9, 10] (fun m p wx => CutR w C (mDone l c) m p wx)
  case first =>
    go_wp2_with fail
    refine wp_drawT ((fun y => y.heap[C]? = some (.cells #[.int .i64 c.1, .int .u64 c.2.1, .int .u64 c.2.2.1, .slice ca c.2.2.2.length cc] 39 (0, 0)))) (fun i => ([.free, .kept, .held, .kept, .free, .free, .free, .kept, .free, .last] : List Way).getD i .last) (.soft .free 0 (.soft .held 2 (.two 1 (.two 3 (.soft .free 4 (.soft .free 5 (.soft .free 6 (.one 7 (.soft .free 8 .leaf))))) 7 (.one 3 (.soft .free 4 (.soft .free 5 (.soft .free 6 (.soft .free 8 .leaf)))))) 7 (.one 1 (.one 3 (.soft .free 4 (.soft .free 5 (.soft .free 6 (.soft .free 8 .leaf))))))))) 9 (by kernel_rfl) (by kernel_rfl) (fun _ _ _ _ _ h => h) ⟨bC2, ?_⟩
    have fd : Fr Non _ w2.drew := f12.drew
    have bCd : w2.drew.heap[C]? = some (.cells #[.int .i64 c.1, .int .u64 c.2.1, .int .u64 c.2.2.1, .slice ca c.2.2.2.length cc] 39 (0, 0)) := bC2
    have bRd : w2.drew.heap[C + 1]? = some (.cells (#[.int .i64 0, .int .u64 0, .slice none 0 0, .slice none 0 0, .int .i64 0, .int .i64 0, .int .u64 0, .int .i64 0, .int .u64 0, .int .i64 0, .int .i64 0, .int .u64 0, .int .i64 0, .int .u64 0, .bool false] : Array Value) 52 (0, 0)) := bR2
    have hCz := lt_of_block bRd
    clear bC2 bR2 f12 bC bR f1 f2
    generalize w2.drew = wd at fd bCd bRd hCz ⊢
    repeat (first
      | (refine' wpTree_free (x := _) rfl (by rfl) ?_ ?_
         rotate_left
         · (intro w'; go_simp; try rfl)
         simp only [List.getElem_toArray, List.getElem_cons_zero, Act.put, List.setIfInBounds_toArray, List.set_cons_zero, List.set_cons_succ])
      | (refine' wpTree_held (x := _) rfl (by rfl) ?_ ?_
         rotate_left
         · (intro w' hS; obtain ⟨q1, _⟩ := box_facts hS; clear hS; go_simp; try rfl)
         simp only [List.getElem_toArray, List.getElem_cons_zero, Act.put, List.setIfInBounds_toArray, List.set_cons_zero, List.set_cons_succ])
      | (refine' wpTree_skip rfl (by rfl) ?_
         simp only [List.getElem_toArray, List.getElem_cons_zero, Act.put, List.setIfInBounds_toArray, List.set_cons_zero, List.set_cons_succ])
      | (refine' wpTree_skipHeld rfl (by rfl) ?_
         simp only [List.getElem_toArray, List.getElem_cons_zero, Act.put, List.setIfInBounds_toArray, List.set_cons_zero, List.set_cons_succ]))
    refine wpTree_two ?_ ?_
    · skip
      refine' wpTree_one rfl ?_
      intro K hK
      go_simp
      refine (owned_n (HS.out.stay fd) (by omega)).mono ?_
      rintro e wo ⟨a2, c2, rfl, hBo, fo, ho⟩
      go_simp
      refine hK _ _ ⟨fo.heap bCd id, ?_⟩
      clear hK K
      have bCo := fo.heap bCd id
      have fdo := fd.trans fo
      refine wpTree_two ?_ ?_
      · skip
        refine' wpTree_one rfl ?_
        intro K hK
        go_simp
        refine (doneC_any HCO.out _ _ _ _ _ _ _ hBo.buildS HOK.out (by omega) (HV.out.stay fdo) HCO.out hk).mono ?_
        rintro e w8 ⟨mv, xv, rfl, hB8, hown8, hR8, f8⟩
        obtain ⟨hr1, hr2, hr3⟩ := mDone_refs l c
        obtain ⟨u8', v8', rfl, hrd, ⟨p1, p2, p3, rfl⟩, ⟨p4, p5, p6, rfl⟩⟩ := res_rd hR8 hr3 hr1 hr2
        obtain ⟨n8, hn8⟩ : ∃ n, (mDone l c).1.length = n := ⟨_, rfl⟩
        obtain ⟨ma8, mc8, rfl⟩ : ∃ a c', mv = .slice a n8 c' := by rw [← hn8]; exact hB8.build.form
        obtain ⟨R, hR⟩ : ∃ R, (mDone l c).2 = R := ⟨_, rfl⟩
        rw [hR] at hR8 hr1 hr2 hr3 ⊢
        obtain ⟨e4, k4, b4, i4, rl, rr, t4⟩ := R
        simp only at hr1 hr2
        subst hr1 hr2
        have HRR := Lib.hid hR
        have HR8 := Lib.hid hR8
        have HB8 := Lib.hid hB8
        have HN8 := Lib.hid hn8
        clear hrd hR8 hr3 hn8 hR hB8
        simp only [resCells, refCells, r0, List.cons_append, List.nil_append]
        go_simp
        refine hK _ _ ⟨f8.heap bCo id, ?_⟩
        clear hK K
        repeat (first
          | (refine' wpTree_free (x := _) rfl (by rfl) ?_ ?_
             rotate_left
             · (intro w'; go_simp; try rfl)
             simp only [List.getElem_toArray, List.getElem_cons_zero, List.getElem_cons_succ, Act.put, List.setIfInBounds_toArray, List.set_cons_zero, List.set_cons_succ])
          | (refine' wpTree_held (x := _) rfl (by rfl) ?_ ?_
             rotate_left
             · (intro w' hS; clear hS; go_simp; try rfl)
             simp only [List.getElem_toArray, List.getElem_cons_zero, List.getElem_cons_succ, Act.put, List.setIfInBounds_toArray, List.set_cons_zero, List.set_cons_succ])
          | (refine' wpTree_skip rfl (by rfl) ?_
             simp only [List.getElem_toArray, List.getElem_cons_zero, List.getElem_cons_succ, Act.put, List.setIfInBounds_toArray, List.set_cons_zero, List.set_cons_succ])
          | (refine' wpTree_skipHeld rfl (by rfl) ?_
             simp only [List.getElem_toArray, List.getElem_cons_zero, List.getElem_cons_succ, Act.put, List.setIfInBounds_toArray, List.set_cons_zero, List.set_cons_succ]))
        refine' wpTree_one rfl ?_
        intro K hK
        go_simp
        refine hK _ _ ⟨((Fr.refl Non w8).alloc _).heap (f8.heap bCo id) id, ?_⟩
        clear hK K
        repeat (first
          | (refine' wpTree_free (x := _) rfl (by rfl) ?_ ?_
             rotate_left
             · (intro w'; go_simp; try rfl)
             simp only [List.getElem_toArray, List.getElem_cons_zero, List.getElem_cons_succ, Act.put, List.setIfInBounds_toArray, List.set_cons_zero, List.set_cons_succ])
          | (refine' wpTree_held (x := _) rfl (by rfl) ?_ ?_
             rotate_left
             · (intro w' hS; clear hS; go_simp; try rfl)
             simp only [List.getElem_toArray, List.getElem_cons_zero, List.getElem_cons_succ, Act.put, List.setIfInBounds_toArray, List.set_cons_zero, List.set_cons_succ])
          | (refine' wpTree_skip rfl (by rfl) ?_
             simp only [List.getElem_toArray, List.getElem_cons_zero, List.getElem_cons_succ, Act.put, List.setIfInBounds_toArray, List.set_cons_zero, List.set_cons_succ])
          | (refine' wpTree_skipHeld rfl (by rfl) ?_
             simp only [List.getElem_toArray, List.getElem_cons_zero, List.getElem_cons_succ, Act.put, List.setIfInBounds_toArray, List.set_cons_zero, List.set_cons_succ]))
        refine wpTree_leaf ?_
        simp only [List.drop_succ_cons, List.drop_zero]
        go_wp2_with fail
        have bP := alloc_at w8 (.cells #[.int .i64 e4, .int .u64 k4, .slice p1 p2 p3, .slice p4 p5 p6, .int .i64 0, .int .i64 0, .int .u64 0, .int .i64 0, .int .u64 0, .int .i64 0, .int .i64 0, .int .u64 0, .int .i64 0, .int .u64 0, .bool t4] 52)
        have fP : Fr (fun b => b = w8.heap.size) w8 (w8.alloc (.cells #[.int .i64 e4, .int .u64 k4, .slice p1 p2 p3, .slice p4 p5 p6, .int .i64 0, .int .i64 0, .int .u64 0, .int .i64 0, .int .u64 0, .int .i64 0, .int .i64 0, .int .u64 0, .int .i64 0, .int .u64 0, .bool t4] 52)) := (Fr.refl _ _).alloc _
        generalize (w8.alloc (.cells #[.int .i64 e4, .int .u64 k4, .slice p1 p2 p3, .slice p4 p5 p6, .int .i64 0, .int .i64 0, .int .u64 0, .int .i64 0, .int .u64 0, .int .i64 0, .int .i64 0, .int .u64 0, .int .i64 0, .int .u64 0, .bool t4] 52)) = w9 at bP fP ⊢
        go_meet
        have hw8 : Fr Non w w8 := f0.trans (fdo.trans f8)
        have hR8' : ResS (fun b => wo.heap.size ≤ b ∧ b < w8.heap.size) w8 _ _ := HR8.out.mono fun b hb h => ⟨h, hb⟩
        have hfz := f8.size
        refine ⟨w8.heap.size, ma8, mc8, .slice p1 p2 p3, .slice p4 p5 p6, by rw [HN8.out], rfl, ?_, ⟨_, _, _, rfl⟩, ⟨_, _, _, rfl⟩, ?_, ?_, fun b hb => ?_, ?_, ?_, ?_⟩
        · rw [HRR.out]
          exact bP
        · have := fo.size
          omega
        · have := HB8.out.old.apart fP (fun b hb e => by have := HB8.out.lt b hb; have := fo.size; have := ho b; rcases hown8 b hb with h | h <;> (try have := this h) <;> omega) (fun b hb e => by have := hb.2; have := fo.size; have := hb.1; omega)
          rw [HN8.out]
          exact this.mono fun b _ hb => by have := fo.size; have h1 := hb.1; have h2 := hb.2; omega
        · rw [HN8.out] at hb
          have := fo.size; have h1 := HB8.out.lt b hb; have h2 := ho b; rcases hown8 b hb with h | h <;> (try have := h2 h) <;> omega
        · rw [HRR.out]
          exact (hR8'.frame fP (fun b hb h e => by have := h.2; have := h.1; have := fo.size; omega)).mono (fun b _ hb => by have := fo.size; have h1 := hb.1; have h2 := hb.2; omega)
        · exact hw8.trans2 fP (fun b hb e => by have := hw8.size; have := HCC.out; have := fo.size; skip; omega)
        · exact fP.heap ((fo.trans f8).heap bRd id) (by have := fo.size; have := f8.size; omega)
      · skip
        refine' wpTree_one rfl ?_
        intro K hK
        go_simp
        refine hK _ _ ⟨((Fr.refl Non wo).alloc _).heap bCo id, ?_⟩
        clear hK K
        have fa : Fr Non wo (wo.alloc (.cells #[.int .i64 0, .int .u64 0, .slice none 0 0, .slice none 0 0, .int .i64 0, .int .i64 0, .int .u64 0, .int .i64 0, .int .u64 0, .int .i64 0, .int .i64 0, .int .u64 0, .int .i64 0, .int .u64 0, .bool false] 52)) := (Fr.refl _ _).alloc _
        have bz0 := alloc_at wo (.cells #[.int .i64 0, .int .u64 0, .slice none 0 0, .slice none 0 0, .int .i64 0, .int .i64 0, .int .u64 0, .int .i64 0, .int .u64 0, .int .i64 0, .int .i64 0, .int .u64 0, .int .i64 0, .int .u64 0, .bool false] 52)
        have hza : (wo.alloc (.cells #[.int .i64 0, .int .u64 0, .slice none 0 0, .slice none 0 0, .int .i64 0, .int .i64 0, .int .u64 0, .int .i64 0, .int .u64 0, .int .i64 0, .int .i64 0, .int .u64 0, .int .i64 0, .int .u64 0, .bool false] 52)).heap.size = wo.heap.size + 1 := by simp
        generalize wo.alloc (.cells #[.int .i64 0, .int .u64 0, .slice none 0 0, .slice none 0 0, .int .i64 0, .int .i64 0, .int .u64 0, .int .i64 0, .int .u64 0, .int .i64 0, .int .i64 0, .int .u64 0, .int .i64 0, .int .u64 0, .bool false] 52) = wa at fa bz0 hza ⊢
        have HZA := Lib.hid hza
        clear hza
        refine' wpTree_one rfl ?_
        intro K hK
        go_simp
        refine (doneC_any HCO.out _ _ _ _ _ _ _ (hBo.buildS.old.fr fa) HOK.out (by omega) (HV.out.stay (fdo.trans fa)) HCO.out hk).mono ?_
        rintro e w8 ⟨mv, xv, rfl, hB8, hown8, hR8, f8⟩
        obtain ⟨hr1, hr2, hr3⟩ := mDone_refs l c
        obtain ⟨u8', v8', rfl, hrd, ⟨p1, p2, p3, rfl⟩, ⟨p4, p5, p6, rfl⟩⟩ := res_rd hR8 hr3 hr1 hr2
        obtain ⟨n8, hn8⟩ : ∃ n, (mDone l c).1.length = n := ⟨_, rfl⟩
        obtain ⟨ma8, mc8, rfl⟩ : ∃ a c', mv = .slice a n8 c' := by rw [← hn8]; exact hB8.build.form
        obtain ⟨R, hR⟩ : ∃ R, (mDone l c).2 = R := ⟨_, rfl⟩
        rw [hR] at hR8 hr1 hr2 hr3 ⊢
        obtain ⟨e4, k4, b4, i4, rl, rr, t4⟩ := R
        simp only at hr1 hr2
        subst hr1 hr2
        have HRR := Lib.hid hR
        have HR8 := Lib.hid hR8
        have HB8 := Lib.hid hB8
        have HN8 := Lib.hid hn8
        clear hrd hR8 hr3 hn8 hR hB8
        simp only [resCells, refCells, r0, List.cons_append, List.nil_append]
        go_simp
        refine hK _ _ ⟨f8.heap (fa.heap bCo id) id, ?_⟩
        clear hK K
        repeat (first
          | (refine' wpTree_free (x := _) rfl (by rfl) ?_ ?_
             rotate_left
             · (intro w'; go_simp; try rfl)
             simp only [List.getElem_toArray, List.getElem_cons_zero, List.getElem_cons_succ, Act.put, List.setIfInBounds_toArray, List.set_cons_zero, List.set_cons_succ])
          | (refine' wpTree_held (x := _) rfl (by rfl) ?_ ?_
             rotate_left
             · (intro w' hS; clear hS; go_simp; try rfl)
             simp only [List.getElem_toArray, List.getElem_cons_zero, List.getElem_cons_succ, Act.put, List.setIfInBounds_toArray, List.set_cons_zero, List.set_cons_succ])
          | (refine' wpTree_skip rfl (by rfl) ?_
             simp only [List.getElem_toArray, List.getElem_cons_zero, List.getElem_cons_succ, Act.put, List.setIfInBounds_toArray, List.set_cons_zero, List.set_cons_succ])
          | (refine' wpTree_skipHeld rfl (by rfl) ?_
             simp only [List.getElem_toArray, List.getElem_cons_zero, List.getElem_cons_succ, Act.put, List.setIfInBounds_toArray, List.set_cons_zero, List.set_cons_succ]))
        refine wpTree_leaf ?_
        simp only [List.drop_succ_cons, List.drop_zero]
        obtain ⟨qP, zP⟩ := box_facts (f8.heap bz0 id)
        go_wp2_with fail
        clear qP zP
        have bP := set15_block (f8.heap bz0 id) (.int .i64 e4) (.int .u64 k4) (.slice p1 p2 p3) (.slice p4 p5 p6) (.int .i64 0) (.int .i64 0) (.int .u64 0) (.int .i64 0) (.int .u64 0) (.int .i64 0) (.int .i64 0) (.int .u64 0) (.int .i64 0) (.int .u64 0) (.bool t4)
        have fP := set15_fr w8 wo.heap.size (.int .i64 e4) (.int .u64 k4) (.slice p1 p2 p3) (.slice p4 p5 p6) (.int .i64 0) (.int .i64 0) (.int .u64 0) (.int .i64 0) (.int .u64 0) (.int .i64 0) (.int .i64 0) (.int .u64 0) (.int .i64 0) (.int .u64 0) (.bool t4)
        generalize (((((((((((((((w8.setCell ⟨wo.heap.size, 0, none⟩ (.int .i64 e4)).setCell ⟨wo.heap.size, 1, none⟩ (.int .u64 k4)).setCell ⟨wo.heap.size, 2, none⟩ (.slice p1 p2 p3)).setCell ⟨wo.heap.size, 3, none⟩ (.slice p4 p5 p6)).setCell ⟨wo.heap.size, 4, none⟩ (.int .i64 0)).setCell ⟨wo.heap.size, 5, none⟩ (.int .i64 0)).setCell ⟨wo.heap.size, 6, none⟩ (.int .u64 0)).setCell ⟨wo.heap.size, 7, none⟩ (.int .i64 0)).setCell ⟨wo.heap.size, 8, none⟩ (.int .u64 0)).setCell ⟨wo.heap.size, 9, none⟩ (.int .i64 0)).setCell ⟨wo.heap.size, 10, none⟩ (.int .i64 0)).setCell ⟨wo.heap.size, 11, none⟩ (.int .u64 0)).setCell ⟨wo.heap.size, 12, none⟩ (.int .i64 0)).setCell ⟨wo.heap.size, 13, none⟩ (.int .u64 0)).setCell ⟨wo.heap.size, 14, none⟩ (.bool t4)) = w9 at bP fP ⊢
        go_meet
        have hw8 : Fr Non w w8 := f0.trans ((fdo.trans fa).trans f8)
        have hR8' : ResS (fun b => wa.heap.size ≤ b ∧ b < w8.heap.size) w8 _ _ := HR8.out.mono fun b hb h => ⟨h, hb⟩
        have hfz := f8.size
        refine ⟨wo.heap.size, ma8, mc8, .slice p1 p2 p3, .slice p4 p5 p6, by rw [HN8.out], rfl, ?_, ⟨_, _, _, rfl⟩, ⟨_, _, _, rfl⟩, ?_, ?_, fun b hb => ?_, ?_, ?_, ?_⟩
        · rw [HRR.out]
          exact bP
        · have := fo.size
          omega
        · have := HB8.out.old.apart fP (fun b hb e => by have := HZA.out; have := fo.size; have h1 := hBo.lt b; have h2 := ho b; rcases hown8 b hb with h | h <;> (try have := h1 h) <;> (try have := h2 h) <;> omega) (fun b hb e => by have := HZA.out; have := fo.size; have := hb.1; omega)
          rw [HN8.out]
          exact this.mono fun b _ hb => by have := HZA.out; have := fo.size; have h1 := hb.1; omega
        · rw [HN8.out] at hb
          have := HZA.out; have := fo.size; have h1 := hBo.lt b; have h2 := ho b; rcases hown8 b hb with h | h <;> (try have := h1 h) <;> (try have := h2 h) <;> omega
        · rw [HRR.out]
          exact (hR8'.frame fP (fun b hb h e => by have := HZA.out; have := fo.size; have := h.1; omega)).mono (fun b _ hb => by have := HZA.out; have := fo.size; have h1 := hb.1; omega)
        · exact hw8.trans2 fP (fun b hb e => by have := hw8.size; have := HCC.out; have := fo.size; have := fd.size; simp only [World.size_alloc] at *; omega)
        · exact fP.heap ((fo.trans (fa.trans f8)).heap bRd id) (by have := fo.size; have := f8.size; omega)
    · skip
      refine' wpTree_one rfl ?_
      intro K hK
      go_simp
      refine hK _ _ ⟨((Fr.refl Non wd).alloc _).heap bCd id, ?_⟩
      clear hK K
      have fa : Fr Non wd (wd.alloc (.cells #[.int .i64 0, .int .u64 0, .slice none 0 0, .slice none 0 0, .int .i64 0, .int .i64 0, .int .u64 0, .int .i64 0, .int .u64 0, .int .i64 0, .int .i64 0, .int .u64 0, .int .i64 0, .int .u64 0, .bool false] 52)) := (Fr.refl _ _).alloc _
      have bz0 := alloc_at wd (.cells #[.int .i64 0, .int .u64 0, .slice none 0 0, .slice none 0 0, .int .i64 0, .int .i64 0, .int .u64 0, .int .i64 0, .int .u64 0, .int .i64 0, .int .i64 0, .int .u64 0, .int .i64 0, .int .u64 0, .bool false] 52)
      have hza : (wd.alloc (.cells #[.int .i64 0, .int .u64 0, .slice none 0 0, .slice none 0 0, .int .i64 0, .int .i64 0, .int .u64 0, .int .i64 0, .int .u64 0, .int .i64 0, .int .i64 0, .int .u64 0, .int .i64 0, .int .u64 0, .bool false] 52)).heap.size = wd.heap.size + 1 := by simp
      generalize wd.alloc (.cells #[.int .i64 0, .int .u64 0, .slice none 0 0, .slice none 0 0, .int .i64 0, .int .i64 0, .int .u64 0, .int .i64 0, .int .u64 0, .int .i64 0, .int .i64 0, .int .u64 0, .int .i64 0, .int .u64 0, .bool false] 52) = wa at fa bz0 hza ⊢
      have HZA := Lib.hid hza
      clear hza
      have bCa := fa.heap bCd id
      have fda := fd.trans fa
      refine' wpTree_one rfl ?_
      intro K hK
      go_simp
      refine (owned_n (HS.out.stay fda) (by omega)).mono ?_
      rintro e wo ⟨a2, c2, rfl, hBo, fo, ho⟩
      go_simp
      refine hK _ _ ⟨fo.heap bCa id, ?_⟩
      clear hK K
      have bCo := fo.heap bCa id
      have fdo := fda.trans fo
      have hBS := hBo.buildS
      refine' wpTree_one rfl ?_
      intro K hK
      go_simp
      refine (doneC_any HCO.out _ _ _ _ _ _ _ hBS HOK.out (by omega) (HV.out.stay fdo) HCO.out hk).mono ?_
      rintro e w8 ⟨mv, xv, rfl, hB8, hown8, hR8, f8⟩
      obtain ⟨hr1, hr2, hr3⟩ := mDone_refs l c
      obtain ⟨u8', v8', rfl, hrd, ⟨p1, p2, p3, rfl⟩, ⟨p4, p5, p6, rfl⟩⟩ := res_rd hR8 hr3 hr1 hr2
      obtain ⟨n8, hn8⟩ : ∃ n, (mDone l c).1.length = n := ⟨_, rfl⟩
      obtain ⟨ma8, mc8, rfl⟩ : ∃ a c', mv = .slice a n8 c' := by rw [← hn8]; exact hB8.build.form
      obtain ⟨R, hR⟩ : ∃ R, (mDone l c).2 = R := ⟨_, rfl⟩
      rw [hR] at hR8 hr1 hr2 hr3 ⊢
      obtain ⟨e4, k4, b4, i4, rl, rr, t4⟩ := R
      simp only at hr1 hr2
      subst hr1 hr2
      have HRR := Lib.hid hR
      have HR8 := Lib.hid hR8
      have HB8 := Lib.hid hB8
      have HN8 := Lib.hid hn8
      clear hrd hR8 hr3 hn8 hR hB8
      simp only [resCells, refCells, r0, List.cons_append, List.nil_append]
      go_simp
      refine hK _ _ ⟨f8.heap bCo id, ?_⟩
      clear hK K
      repeat (first
        | (refine' wpTree_free (x := _) rfl (by rfl) ?_ ?_
           rotate_left
           · (intro w'; go_simp; try rfl)
           simp only [List.getElem_toArray, List.getElem_cons_zero, List.getElem_cons_succ, Act.put, List.setIfInBounds_toArray, List.set_cons_zero, List.set_cons_succ])
        | (refine' wpTree_held (x := _) rfl (by rfl) ?_ ?_
           rotate_left
           · (intro w' hS; clear hS; go_simp; try rfl)
           simp only [List.getElem_toArray, List.getElem_cons_zero, List.getElem_cons_succ, Act.put, List.setIfInBounds_toArray, List.set_cons_zero, List.set_cons_succ])
        | (refine' wpTree_skip rfl (by rfl) ?_
           simp only [List.getElem_toArray, List.getElem_cons_zero, List.getElem_cons_succ, Act.put, List.setIfInBounds_toArray, List.set_cons_zero, List.set_cons_succ])
        | (refine' wpTree_skipHeld rfl (by rfl) ?_
           simp only [List.getElem_toArray, List.getElem_cons_zero, List.getElem_cons_succ, Act.put, List.setIfInBounds_toArray, List.set_cons_zero, List.set_cons_succ]))
      refine wpTree_leaf ?_
      simp only [List.drop_succ_cons, List.drop_zero]
      obtain ⟨qP, zP⟩ := box_facts ((fo.trans f8).heap bz0 id)
      go_wp2_with fail
      clear qP zP
      have bP := set15_block ((fo.trans f8).heap bz0 id) (.int .i64 e4) (.int .u64 k4) (.slice p1 p2 p3) (.slice p4 p5 p6) (.int .i64 0) (.int .i64 0) (.int .u64 0) (.int .i64 0) (.int .u64 0) (.int .i64 0) (.int .i64 0) (.int .u64 0) (.int .i64 0) (.int .u64 0) (.bool t4)
      have fP := set15_fr w8 wd.heap.size (.int .i64 e4) (.int .u64 k4) (.slice p1 p2 p3) (.slice p4 p5 p6) (.int .i64 0) (.int .i64 0) (.int .u64 0) (.int .i64 0) (.int .u64 0) (.int .i64 0) (.int .i64 0) (.int .u64 0) (.int .i64 0) (.int .u64 0) (.bool t4)
      generalize (((((((((((((((w8.setCell ⟨wd.heap.size, 0, none⟩ (.int .i64 e4)).setCell ⟨wd.heap.size, 1, none⟩ (.int .u64 k4)).setCell ⟨wd.heap.size, 2, none⟩ (.slice p1 p2 p3)).setCell ⟨wd.heap.size, 3, none⟩ (.slice p4 p5 p6)).setCell ⟨wd.heap.size, 4, none⟩ (.int .i64 0)).setCell ⟨wd.heap.size, 5, none⟩ (.int .i64 0)).setCell ⟨wd.heap.size, 6, none⟩ (.int .u64 0)).setCell ⟨wd.heap.size, 7, none⟩ (.int .i64 0)).setCell ⟨wd.heap.size, 8, none⟩ (.int .u64 0)).setCell ⟨wd.heap.size, 9, none⟩ (.int .i64 0)).setCell ⟨wd.heap.size, 10, none⟩ (.int .i64 0)).setCell ⟨wd.heap.size, 11, none⟩ (.int .u64 0)).setCell ⟨wd.heap.size, 12, none⟩ (.int .i64 0)).setCell ⟨wd.heap.size, 13, none⟩ (.int .u64 0)).setCell ⟨wd.heap.size, 14, none⟩ (.bool t4)) = w9 at bP fP ⊢
      go_meet
      have hw8 : Fr Non w w8 := f0.trans (fdo.trans f8)
      have hR8' : ResS (fun b => wo.heap.size ≤ b ∧ b < w8.heap.size) w8 _ _ := HR8.out.mono fun b hb h => ⟨h, hb⟩
      have hfz := f8.size
      refine ⟨wd.heap.size, ma8, mc8, .slice p1 p2 p3, .slice p4 p5 p6, by rw [HN8.out], rfl, ?_, ⟨_, _, _, rfl⟩, ⟨_, _, _, rfl⟩, ?_, ?_, fun b hb => ?_, ?_, ?_, ?_⟩
      · rw [HRR.out]
        exact bP
      · have := fo.size
        omega
      · have := HB8.out.old.apart fP (fun b hb e => by have := HZA.out; have := fo.size; have := ho b; rcases hown8 b hb with h | h <;> (try have := this h) <;> omega) (fun b hb e => by have := HZA.out; have := fo.size; have := hb.1; omega)
        rw [HN8.out]
        exact this.mono fun b _ hb => by have := HZA.out; have := fo.size; have h1 := hb.1; omega
      · rw [HN8.out] at hb
        have := HZA.out; have := fo.size; have h2 := ho b; rcases hown8 b hb with h | h <;> (try have := h2 h) <;> omega
      · rw [HRR.out]
        exact (hR8'.frame fP (fun b hb h e => by have := HZA.out; have := fo.size; have := h.1; omega)).mono (fun b _ hb => by have := HZA.out; have := fo.size; have h1 := hb.1; omega)
      · exact hw8.trans2 fP (fun b hb e => by have := hw8.size; have := HCC.out; have := fo.size; have := fd.size; simp only [World.size_alloc] at *; omega)
      · exact fP.heap ((fa.trans (fo.trans f8)).heap bRd id) (by have := fo.size; have := f8.size; omega)
  case rest =>
    obtain ⟨P, ma, mc, u9, v9, rfl, rfl, bP, ⟨pa, pn, pc, rfl⟩, ⟨qa, qn, qc, rfl⟩, hne, hB9, hown9, hR9, fw9, bR9⟩ := hcut
    obtain ⟨hr1, hr2, _⟩ := mDone_refs l c
    obtain ⟨R, hR⟩ : ∃ R, (mDone l c).2 = R := ⟨_, rfl⟩
    rw [hR] at bP hR9 hr1 hr2
    obtain ⟨n9, hn9⟩ : ∃ n, (mDone l c).1.length = n := ⟨_, rfl⟩
    rw [hn9] at hB9 hown9 ⊢
    have HRR := Lib.hid hR
    have HB9 := Lib.hid hB9
    have HO9 := Lib.hid hown9
    have HR9 := Lib.hid hR9
    obtain ⟨e4, k4, b4, i4, rl, rr, t4⟩ := R
    simp only at hr1 hr2
    subst hr1 hr2
    simp only [resCells, refCells, r0, List.cons_append, List.nil_append] at bP
    clear hR hn9 hB9 hown9 hR9
    obtain ⟨qP, zP⟩ := box_facts bP
    go_wp2_with fail
    refine wp_draw [((fun y => y = wc.drew), [(.free, 0), (.held, 1), (.free, 2)])] 3 (by kernel_rfl) (by kernel_rfl) (fun _ _ _ _ _ h => h) ⟨rfl, ?_⟩
    repeat (first
      | (refine' wpPlan_free (v := _) rfl (by rfl) ?_ ?_
         rotate_left
         · (intro w'; go_simp; try rfl)
         simp only [List.getElem_toArray, List.getElem_cons_zero, List.getElem_cons_succ, Act.put, List.setIfInBounds_toArray, List.set_cons_zero, List.set_cons_succ])
      | (refine' wpPlan_held (v := _) rfl (by rfl) ?_ ?_
         rotate_left
         · (intro w' hS; subst hS; go_simp; try rfl)
         simp only [List.getElem_toArray, List.getElem_cons_zero, List.getElem_cons_succ, Act.put, List.setIfInBounds_toArray, List.set_cons_zero, List.set_cons_succ])
      | (refine' wpPlan_skip rfl (by rfl) ?_
         simp only [List.getElem_toArray, List.getElem_cons_zero, List.getElem_cons_succ, Act.put, List.setIfInBounds_toArray, List.set_cons_zero, List.set_cons_succ])
      | (refine' wpPlan_skipHeld rfl (by rfl) ?_
         simp only [List.getElem_toArray, List.getElem_cons_zero, List.getElem_cons_succ, Act.put, List.setIfInBounds_toArray, List.set_cons_zero, List.set_cons_succ]))
    repeat (first
      | (refine' wpPlan_free (v := _) rfl (by rfl) ?_ ?_
         rotate_left
         · (intro w'; go_simp; try rfl)
         simp only [List.getElem_toArray, List.getElem_cons_zero, List.getElem_cons_succ, Act.put, List.setIfInBounds_toArray, List.set_cons_zero, List.set_cons_succ])
      | (refine' wpPlan_held (v := _) rfl (by rfl) ?_ ?_
         rotate_left
         · (intro w' hS; go_simp; try rfl)
         simp only [List.getElem_toArray, List.getElem_cons_zero, List.getElem_cons_succ, Act.put, List.setIfInBounds_toArray, List.set_cons_zero, List.set_cons_succ])
      | (refine' wpPlan_skip rfl (by rfl) ?_
         simp only [List.getElem_toArray, List.getElem_cons_zero, List.getElem_cons_succ, Act.put, List.setIfInBounds_toArray, List.set_cons_zero, List.set_cons_succ])
      | (refine' wpPlan_skipHeld rfl (by rfl) ?_
         simp only [List.getElem_toArray, List.getElem_cons_zero, List.getElem_cons_succ, Act.put, List.setIfInBounds_toArray, List.set_cons_zero, List.set_cons_succ]))
    refine wpPlan_end ?_
    simp only [wpSegs, List.drop_succ_cons, List.drop_zero]
    have fd9 : Fr Non wc wc.drew := (Fr.refl _ _).drew
    have bRz : wc.drew.heap[C + 1]? = some (.cells (#[.int .i64 0, .int .u64 0, .slice none 0 0, .slice none 0 0, .int .i64 0, .int .i64 0, .int .u64 0, .int .i64 0, .int .u64 0, .int .i64 0, .int .i64 0, .int .u64 0, .int .i64 0, .int .u64 0, .bool false] : Array Value) 52 (0, 0)) := bR9
    clear qP zP bP bR9
    generalize wc.drew = wz at fd9 bRz ⊢
    obtain ⟨qR, zR⟩ := box_facts bRz
    have hfr := set15_fr wz (C + 1) (.int .i64 e4) (.int .u64 k4) (.slice pa pn pc) (.slice qa qn qc) (.int .i64 0) (.int .i64 0) (.int .u64 0) (.int .i64 0) (.int .u64 0) (.int .i64 0) (.int .i64 0) (.int .u64 0) (.int .i64 0) (.int .u64 0) (.bool t4)
    go_wp2_with fail
    refine bodyPost_ret (v := .tuple #[.slice ma n9 mc, .agg (resCells (e4, k4, b4, i4, r0, r0, t4) (.slice pa pn pc) (.slice qa qn qc)).toArray, .int .i64 0]) (by simp [results, Try.results32, go_sem, set15_cell bRz, resCells, refCells, r0]) rfl ⟨_, _, rfl, ?_, ?_, ?_⟩
    · exact ((HB9.out.fr fd9).apart hfr (fun b hb e => (HO9.out b hb) e) (fun b hb e => hb e)).build
    · rw [HRR.out]
      exact (((HR9.out.frame fd9 (fun _ _ _ => id))).frame hfr (fun b _ hb e => hb e)).mono (fun _ _ _ => trivial)
    · exact (fw9.trans fd9).trans2 hfr (fun b hb e => by have := HCC.out; omega)
end Go.Proofs.Ytplhcfaonhkegaa
