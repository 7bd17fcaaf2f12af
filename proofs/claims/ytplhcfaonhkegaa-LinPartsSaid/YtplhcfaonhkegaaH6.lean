/-
  may; misses.
-/
import Derived.Test.YtplhcfaonhkegaaH5
import Derived.Test.YtplhcfaonhkegaaK
namespace Go.Proofs.Ytplhcfaonhkegaa
open Go.RowKit Go.Maps

theorem enters129 : ∀ args w, (callFunc 129 args).run Try.prog w = .ok (.enter 129 args) w := enters_of Try.func129 (by kernel_rfl) rfl
set_option maxRecDepth 100000 in
set_option maxHeartbeats 2000000 in
theorem may_any {w : World} {l : List MHap} {lv : Value} {r : MHap} {RV AV : Value} (ha : AskV w l lv r RV AV) {i : MItem} {u : Value} (hi : Sl kByte All w u i.2) :
    Calls Try.prog 111 #[AV, .agg #[.int .u64 i.1, u]] w fun e w' => e = .returned (.bool (hMay l r i)) ∧ Fr Non w w' := by
  obtain ⟨cs, ac, e0, e1, rfl, hr, hl⟩ := ha
  obtain ⟨a, c, rfl, _⟩ := hi.frm
  have f0 : Fr Non w ((w.alloc (.cells ac.toArray 129)).alloc (.cells #[.int .u64 i.1, .slice a i.2.length c] 60)) := ((Fr.refl _ _).alloc _).alloc _
  have BP : Hid (BoxI ((w.alloc (.cells ac.toArray 129)).alloc (.cells #[.int .u64 i.1, .slice a i.2.length c] 60)) (w.heap.size + 1) i) := Lib.hid ⟨a, c, alloc_at2' w _ _, hi.stay f0⟩
  have BA : Hid (BoxA ((w.alloc (.cells ac.toArray 129)).alloc (.cells #[.int .u64 i.1, .slice a i.2.length c] 60)) w.heap.size l lv r RV (.agg ac.toArray)) := Lib.hid ⟨ac, rfl, ⟨cs, ac, e0, e1, rfl, hr.stay f0, hl.stay f0⟩, alloc_at2 w _ _⟩
  obtain ⟨C, hC⟩ : ∃ C, w.heap.size = C := ⟨_, rfl⟩
  rw [hC] at BP BA
  obtain ⟨va, vc, rfl, _⟩ := hl.frm
  have eg := enters129
  clear hi hr hl e0
  obtain ⟨_, _, _, _, a0, _⟩ := BA.out.facts
  go_enter Try.func111, Try.ntmps111
  go_wp2_with fail
  generalize ((w.alloc (.cells ac.toArray 129)).alloc (.cells #[.int .u64 i.1, .slice a i.2.length c] 60)) = w1 at BP BA f0 a0 ⊢
  refine (containsHap_any BA.out.facts.2.1 129 _ _ (hMay1 l r i) enters129 (fun W v x f _ hv => may1_any hv (BP.out.fr f) (BA.out.fr f))).mono ?_
  rintro e w2 ⟨rfl, f2⟩
  go_wp2_with fail
  go_ret
  exact ⟨by trivial, f0.trans f2⟩

/-- The keys that a range told, as a map. -/
def BoxM (w : World) (b : Nat) (f : Int → Bool) : Prop := ∃ mb n, w.heap[b]? = some (.cells #[.map (some mb)] 182 (0, 0)) ∧ MapB Try.prog .u64 36 4 w mb n f
theorem BoxM.fr {w w' : World} {b : Nat} {f : Int → Bool} (h : BoxM w b f) (g : Fr Non w w') : BoxM w' b f := by
  obtain ⟨mb, n, h1, h2⟩ := h
  exact ⟨mb, n, g.heap h1 id, h2.fr g⟩
theorem zeroB : ∀ w, (zeroValue 4).run Try.prog w = .ok (.bool false) w := fun _ => by kernel_rfl

set_option maxRecDepth 100000 in
set_option maxHeartbeats 2000000 in
theorem misses1_any {w : World} {v : Value} {x : MHap} (hx : HapV All w v x) (hkey : 0 ≤ x.1.2.1 ∧ x.1.2.1 ≤ 18446744073709551615) {b1 b2 : Nat} {l : List MHap} {lv : Value} {r : MHap} {RV AV : Value} (hr : BoxA w b1 l lv r RV AV) (hm : BoxM w b2 (hTold r)) :
    Calls Try.prog 133 #[v, .pointer (some ⟨b1, 0, none⟩), .pointer (some ⟨b2, 0, none⟩)] w fun e w' => e = .returned (.bool (hMisses1 l r x)) ∧ Fr Non w w' := by
  obtain ⟨cs, rfl, hlen, _⟩ := hx.size
  have f0 : Fr Non w (w.alloc (.cells cs.toArray 76)) := (Fr.refl _ _).alloc _
  have BX := Lib.hid (BoxH.made hx)
  have BR := Lib.hid (hr.fr f0)
  have BM := Lib.hid (hm.fr f0)
  have HK := Lib.hid hkey
  clear hx hr hm hkey
  unfold hMisses1
  obtain ⟨C, hC⟩ : ∃ C, w.heap.size = C := ⟨_, rfl⟩
  rw [hC] at BX
  obtain ⟨_, ldx, x0, x1, x2, x4, x19, _⟩ := BX.out.facts
  obtain ⟨_, _, _, _, a0, a2, a3, a20, a21⟩ := BR.out.facts
  obtain ⟨mb, mn, hmb, hmap⟩ := BM.out
  obtain ⟨m0, _⟩ := box_facts hmb
  have lk := hmap.look Try.underlying182 Try.underlying36 Try.underlying4 zeroB x.1.2.1 (wf_u64.2 HK.out)
  have LDX := Lib.hid ldx
  obtain ⟨t, ht⟩ : ∃ t, hTold r x.1.2.1 = t := ⟨_, rfl⟩
  rw [ht] at lk
  have HT := Lib.hid ht
  clear ldx hmb hmap ht
  by_cases k1 : r.1.2.1 ≤ x.1.2.1
  rotate_left
  · have N := Lib.hid (decide_eq_false k1)
    go_enter Try.func133, Try.ntmps133
    go_wp2_with fail
    go_ret
    exact ⟨by rw [N.out]; rfl, f0⟩
  have N1 := Lib.hid (decide_eq_true k1)
  by_cases k2 : x.1.2.1 ≤ r.1.2.2.1
  rotate_left
  · have N := Lib.hid (decide_eq_false k2)
    go_enter Try.func133, Try.ntmps133
    go_wp2_with fail
    go_ret
    exact ⟨by rw [N.out]; simp, f0⟩
  have N2 := Lib.hid (decide_eq_true k2)
  cases t with
  | true =>
    go_enter Try.func133, Try.ntmps133
    go_wp2_with fail
    go_ret
    exact ⟨by rw [HT.out]; simp, f0⟩
  | false =>
    go_enter Try.func133, Try.ntmps133
    go_wp2_with (refine wpList_load_w 76 (.pointer (some ⟨C, 0, none⟩)) _ LDX.out _ rfl rfl (by rfl) ?_)
    generalize (w.alloc (.cells cs.toArray 76)) = w1 at BX BR BM f0 x0 x1 x2 x4 x19 a0 a2 a3 a20 a21 m0 lk LDX ⊢
    clear x0 x1 x2 x4 x19 a0 a2 a3 a20 a21 m0 lk LDX k1 k2
    have hpre : ∀ (q : Bool), hDone x 1 = q → (((((decide (r.1.2.1 ≤ x.1.2.1) && decide (x.1.2.1 ≤ r.1.2.2.1)) && !hTold r x.1.2.1) && hDone x 1)) = q) := fun q hq => by rw [N1.out, N2.out, HT.out, hq]; simp
    have HPRE := Lib.hid hpre
    clear hpre
    refine (hdone_any BX.out.facts.1 1).mono ?_
    rintro e w2 ⟨rfl, f2⟩
    have LDX := Lib.hid ((BX.out.fr f2).facts.2.1)
    obtain ⟨d, hd⟩ : ∃ d, hDone x 1 = d := ⟨_, rfl⟩
    rw [hd]
    have HD := Lib.hid hd
    clear hd
    cases d with
    | false =>
      go_wp2_with fail
      go_ret
      exact ⟨by rw [HPRE.out _ HD.out]; rfl, f0.trans f2⟩
    | true =>
      go_wp2_with (refine wpList_load_w 76 (.pointer (some ⟨C, 0, none⟩)) _ LDX.out _ rfl rfl (by rfl) ?_)
      refine (hsure_any (BX.out.fr f2).facts.1).mono ?_
      rintro e w3 ⟨rfl, f3⟩
      have f23 := f2.trans f3
      clear LDX
      obtain ⟨d, hd⟩ : ∃ d, hSure x = d := ⟨_, rfl⟩
      rw [hd]
      have HE := Lib.hid hd
      clear hd
      cases d with
      | false =>
        go_wp2_with fail
        go_ret
        exact ⟨by rw [HPRE.out _ HD.out, HE.out]; rfl, f0.trans f23⟩
      | true =>
        obtain ⟨hx2, ldx, _⟩ := (BX.out.fr f23).facts
        obtain ⟨hr2, _, _, ldr, _⟩ := (BR.out.fr f23).facts
        have LDX := Lib.hid ldx
        have LDR := Lib.hid ldr
        clear ldx ldr
        go_wp2_with (first | (refine wpList_load_w 76 (.pointer (some ⟨C, 0, none⟩)) _ LDX.out _ rfl rfl (by rfl) ?_) | (refine wpList_load_w 76 (.pointer (some ⟨b1, 1, none⟩)) _ LDR.out _ rfl rfl (by rfl) ?_))
        refine (hahead_any hx2 hr2).mono ?_
        rintro e w4 ⟨rfl, f4⟩
        have f24 := f23.trans f4
        clear LDX LDR
        obtain ⟨hx3, ldx, _⟩ := (BX.out.fr f24).facts
        obtain ⟨_, _, lda, _⟩ := (BR.out.fr f24).facts
        have LDX := Lib.hid ldx
        have LDA := Lib.hid lda
        clear ldx lda
        obtain ⟨d, hd⟩ : ∃ d, hAhead x r = d := ⟨_, rfl⟩
        rw [hd]
        have HF := Lib.hid hd
        clear hd
        cases d with
        | false =>
          go_wp2_with fail
          go_ret
          exact ⟨by rw [HPRE.out _ HD.out, HE.out, HF.out]; rfl, f0.trans f24⟩
        | true =>
          go_wp2_with (first | (refine wpList_load_w 76 (.pointer (some ⟨C, 0, none⟩)) _ LDX.out _ rfl rfl (by rfl) ?_) | (refine wpList_load_w 129 (.pointer (some ⟨b1, 0, none⟩)) _ LDA.out _ rfl rfl (by rfl) ?_))
          refine (within_any (BR.out.fr f24).ask hx3).mono ?_
          rintro e w5 ⟨rfl, f5⟩
          obtain ⟨d, hd⟩ : ∃ d, hWithin l r x = d := ⟨_, rfl⟩
          rw [hd]
          have HG := Lib.hid hd
          clear hd
          go_wp2_with fail
          go_ret
          exact ⟨by rw [HPRE.out _ HD.out, HE.out, HF.out, HG.out]; rfl, f0.trans (f24.trans f5)⟩
end Go.Proofs.Ytplhcfaonhkegaa
