/-
  within, gone.
-/
import Derived.Test.YtplhcfaonhkegaaH3
namespace Go.Proofs.Ytplhcfaonhkegaa
open Go.RowKit Go.Maps

theorem enters143 : ∀ args w, (callFunc 143 args).run Try.prog w = .ok (.enter 143 args) w := enters_of Try.func143 (by kernel_rfl) rfl
set_option maxRecDepth 100000 in
set_option maxHeartbeats 2000000 in
theorem within_any {w : World} {l : List MHap} {lv : Value} {r : MHap} {RV AV : Value} (ha : AskV w l lv r RV AV) {PV : Value} {put : MHap} (hp : HapV All w PV put) :
    Calls Try.prog 136 #[AV, PV] w fun e w' => e = .returned (.bool (hWithin l r put)) ∧ Fr Non w w' := by
  obtain ⟨cs, ac, e0, e1, rfl, hr, hl⟩ := ha
  obtain ⟨ps, rfl, _⟩ := hp.size
  have f0 : Fr Non w ((w.alloc (.cells ac.toArray 129)).alloc (.cells ps.toArray 76)) := ((Fr.refl _ _).alloc _).alloc _
  have BP : Hid (BoxH ((w.alloc (.cells ac.toArray 129)).alloc (.cells ps.toArray 76)) (w.heap.size + 1) put (.agg ps.toArray)) := Lib.hid ⟨ps, rfl, hp.stay f0, alloc_at2' w _ _⟩
  have BA : Hid (BoxA ((w.alloc (.cells ac.toArray 129)).alloc (.cells ps.toArray 76)) w.heap.size l lv r RV (.agg ac.toArray)) := Lib.hid ⟨ac, rfl, ⟨cs, ac, e0, e1, rfl, hr.stay f0, hl.stay f0⟩, alloc_at2 w _ _⟩
  obtain ⟨C, hC⟩ : ∃ C, w.heap.size = C := ⟨_, rfl⟩
  rw [hC] at BP BA
  obtain ⟨va, vc, rfl, _⟩ := hl.frm
  have eg := enters143
  clear hp hr hl e0
  obtain ⟨_, _, _, _, a0, _⟩ := BA.out.facts
  go_enter Try.func136, Try.ntmps136
  go_wp2_with fail
  generalize ((w.alloc (.cells ac.toArray 129)).alloc (.cells ps.toArray 76)) = w1 at BP BA f0 a0 ⊢
  refine (containsHap_any BA.out.facts.2.1 143 _ _ (hWithin1 r put) enters143 (fun W v x f _ hv => within1_any hv (BP.out.fr f) (BA.out.fr f))).mono ?_
  rintro e w2 ⟨rfl, f2⟩
  go_wp2_with fail
  go_ret
  exact ⟨by trivial, f0.trans f2⟩

theorem enters142 : ∀ args w, (callFunc 142 args).run Try.prog w = .ok (.enter 142 args) w := enters_of Try.func142 (by kernel_rfl) rfl
set_option maxRecDepth 100000 in
set_option maxHeartbeats 2000000 in
theorem gone_any {w : World} {l : List MHap} {lv : Value} {r : MHap} {RV AV : Value} (ha : AskV w l lv r RV AV) {PV : Value} {put : MHap} (hp : HapV All w PV put) :
    Calls Try.prog 132 #[AV, PV] w fun e w' => e = .returned (.bool (hGone l r put)) ∧ Fr Non w w' := by
  obtain ⟨cs, ac, e0, e1, rfl, hr, hl⟩ := ha
  obtain ⟨ps, rfl, _⟩ := hp.size
  have f0 : Fr Non w ((w.alloc (.cells ac.toArray 129)).alloc (.cells ps.toArray 76)) := ((Fr.refl _ _).alloc _).alloc _
  have BP : Hid (BoxH ((w.alloc (.cells ac.toArray 129)).alloc (.cells ps.toArray 76)) (w.heap.size + 1) put (.agg ps.toArray)) := Lib.hid ⟨ps, rfl, hp.stay f0, alloc_at2' w _ _⟩
  have BA : Hid (BoxA ((w.alloc (.cells ac.toArray 129)).alloc (.cells ps.toArray 76)) w.heap.size l lv r RV (.agg ac.toArray)) := Lib.hid ⟨ac, rfl, ⟨cs, ac, e0, e1, rfl, hr.stay f0, hl.stay f0⟩, alloc_at2 w _ _⟩
  obtain ⟨C, hC⟩ : ∃ C, w.heap.size = C := ⟨_, rfl⟩
  rw [hC] at BP BA
  obtain ⟨va, vc, rfl, _⟩ := hl.frm
  have eg := enters142
  clear hp hr hl e0
  obtain ⟨_, _, _, _, a0, _⟩ := BA.out.facts
  have LDP := Lib.hid BP.out.facts.2.1
  unfold hGone
  go_enter Try.func132, Try.ntmps132
  go_wp2_with (refine wpList_load_w 76 (.pointer (some ⟨C + 1, 0, none⟩)) (.agg ps.toArray) LDP.out _ rfl rfl (by rfl) ?_)
  generalize ((w.alloc (.cells ac.toArray 129)).alloc (.cells ps.toArray 76)) = w1 at BP BA f0 a0 ⊢
  refine (hsure_any BP.out.facts.1).mono ?_
  rintro e w2 ⟨rfl, f2⟩
  clear a0
  obtain ⟨_, _, _, _, a0, _⟩ := (BA.out.fr f2).facts
  obtain ⟨d, hd⟩ : ∃ d, hSure put = d := ⟨_, rfl⟩
  rw [hd]
  cases d with
  | false =>
    have HD := Lib.hid hd
    clear hd
    go_wp2_with fail
    go_ret
    exact ⟨by rw [HD.out]; rfl, f0.trans f2⟩
  | true =>
    have HD := Lib.hid hd
    clear hd
    go_wp2_with fail
    refine (containsHap_any (BA.out.fr f2).facts.2.1 142 _ _ (hGone1 r put) enters142 (fun W v x f _ hv => gone1_any hv ((BP.out.fr f2).fr f) ((BA.out.fr f2).fr f))).mono ?_
    rintro e w3 ⟨rfl, f3⟩
    go_wp2_with fail
    go_ret
    exact ⟨by rw [HD.out]; rfl, f0.trans (f2.trans f3)⟩
end Go.Proofs.Ytplhcfaonhkegaa
