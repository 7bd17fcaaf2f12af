/-
  HistFull: no more than there is room for.
-/
import Derived.Test.YtplhcfaonhkegaaH20
namespace Go.Proofs.Ytplhcfaonhkegaa
open Go.RowKit Go.Maps

/-- Nothing but kills. -/
def KillSt (j : Nat) (s : MHist) : Prop := s.1 = j ∧ (∀ x ∈ s.2, x.2.1 = true) ∧ hOpens s.2 = [] ∧ HistOk s
theorem KillSt.nil : KillSt 0 (0, []) := ⟨rfl, by simp, rfl, HistOk.nil⟩
theorem KillSt.kill {j : Nat} {s : MHist} (h : KillSt j s) (hj : j < 65536) : (hKill s 1 true).1 = 0 ∧ KillSt (j + 1) (hKill s 1 true).2 := by
  obtain ⟨h1, h2, h3, h4⟩ := h
  have e : hKill s 1 true = (0, s.1 + 1, s.2 ++ [hKillNote 1 s.1 true]) := by unfold hKill; rw [if_neg (by omega)]
  have ok := h4.kill 1 true
  rw [e] at ok ⊢
  refine ⟨rfl, by simp [h1], ?_, ?_, ok⟩
  · intro x hx
    rcases List.mem_append.1 hx with hx | hx
    · exact h2 x hx
    · simp at hx; subst hx; rfl
  · show hOpens (s.2 ++ _) = []
    rw [hOpens_append, h3]; rfl
theorem KillSt.none {j : Nat} {s : MHist} (h : KillSt j s) (q : Int) : hOpenAt q s.2 = none := by
  rw [openAt_none]
  intro x hx
  unfold nOpen
  rw [h.2.1 x hx]; rfl
/-- The last call that is noted. -/
structure FullSt (s : MHist) : Prop where
  full : s.1 = 65536
  opn : hOpens s.2 = [1]
  ok : HistOk s
  one : ∃ i, hOpenAt 1 s.2 = some i
  two : hOpenAt 2 s.2 = none
theorem KillSt.full {s : MHist} (h : KillSt 65535 s) : (hCall s 1 (3, 0, 0, [])).1 = 0 ∧ FullSt (hCall s 1 (3, 0, 0, [])).2 := by
  have e : hCall s 1 (3, 0, 0, []) = (0, s.1 + 1, s.2 ++ [hNote 1 (3, 0, 0, []) s.1]) := by
    unfold hCall
    rw [h.none 1]
    simp only [show mCallOk (3, 0, 0, []) = true by decide, if_true]
    rw [if_neg (by rw [h.1]; omega)]
  have ok := h.2.2.2.call 1 (3, 0, 0, [])
  rw [e] at ok ⊢
  refine ⟨rfl, by show s.1 + 1 = 65536; rw [h.1], ?_, ok, ?_, ?_⟩
  · show hOpens (s.2 ++ _) = [1]
    rw [hOpens_append, h.2.2.1]; rfl
  · refine ⟨s.2.length, ?_⟩
    show hOpenAt 1 (s.2 ++ _) = _
    rw [openAt_append, h.none 1]; simp [nOpen, hNote]
  · show hOpenAt 2 (s.2 ++ _) = _
    rw [openAt_append, h.none 2]; simp [nOpen, hNote]
theorem FullSt.reply {s : MHist} (h : FullSt s) : hReply s 1 (mErr 0) = (3, s) := by
  obtain ⟨i, hi⟩ := h.one
  unfold hReply
  rw [hi]
  simp only
  rw [if_pos (by rw [h.full]; omega)]
theorem FullSt.kill {s : MHist} (h : FullSt s) : hKill s 1 true = (3, s) := by
  unfold hKill
  rw [if_pos (by rw [h.full]; omega)]
theorem FullSt.call {s : MHist} (h : FullSt s) : hCall s 2 (3, 0, 0, []) = (3, s) := by
  unfold hCall
  rw [h.two]
  simp only [show mCallOk (3, 0, 0, []) = true by decide, if_true]
  rw [if_pos (by rw [h.full]; omega)]

set_option maxRecDepth 100000 in
set_option maxHeartbeats 4000000 in
theorem full_law (w : World) (k : Int) : Calls Try.prog 12 #[.int .i64 k] w fun e w' => e = .returned (.bool true) ∧ Fr Non w w' := by
  by_cases hk : k = 1
  rotate_left
  · have n1 : (k == 1) = false := by simpa using hk
    have n2 : (k != 1) = true := by simpa using hk
    clear hk
    go_enter Try.func12, Try.ntmps12
    go_wp2_with fail
    refine (alive_any w).mono ?_
    rintro e w1 ⟨rfl, f1⟩
    go_wp2_with fail
    go_ret
    exact ⟨by trivial, f1⟩
  subst hk
  go_enter Try.func12, Try.ntmps12
  go_wp2_with fail
  refine (AtW.new w).mono ?_
  rintro e w1 ⟨hb, rfl, h1⟩
  have H1 := Lib.hid h1
  clear h1
  go_wp2_with fail
  go_loopw [4] (fun i wr => ∃ (j : Nat), j ≤ 65535 ∧ i = .int .i64 j ∧ Hid (∃ s, KillSt j s ∧ AtW w wr hb s)) (fun i _ => 65535 - (intOf i).toNat)
  case atStart => exact ⟨0, by omega, rfl, _, KillSt.nil, H1.out⟩
  case round =>
    obtain ⟨j, hj, rfl, HI⟩ := hrel
    obtain ⟨s, ks, hs⟩ := HI.out
    by_cases hlt : j < 65535
    · have KS := Lib.hid (ks.kill (by omega))
      have HK := Lib.hid (hs.kill (Fr.refl _ _) ks.2.2.2 1 (by omega) true)
      have j1 : (j : Int) < 65535 := by omega
      clear ks hs HI
      go_wp2_with fail
      refine HK.out.mono ?_
      rintro e w2 ⟨rfl, h2⟩
      rw [KS.out.1]
      have H2 := Lib.hid h2
      clear h2
      go_wp2_with fail
      go_roundw
      case rel => exact ⟨j + 1, by omega, by go_num, _, KS.out.2, H2.out⟩
      case measure => simp [intOf]; omega
    · obtain rfl : j = 65535 := by omega
      have FS := Lib.hid ks.full
      have HC := Lib.hid (hs.call (Fr.refl _ _) ks.2.2.2 1 (by decide) (3, 0, 0, []) none 0 (rd_call (by decide) (by decide) (by decide) (.inl ⟨rfl, rfl⟩) (by simp)))
      clear ks hs HI hlt hj
      go_wp2_with fail
      refine HC.out.mono ?_
      rintro e w2 ⟨rfl, h2⟩
      rw [FS.out.1]
      obtain ⟨s2, hs2⟩ : ∃ s2, (hCall s 1 (3, 0, 0, [])).2 = s2 := ⟨_, rfl⟩
      have FS2 := Lib.hid FS.out.2
      rw [hs2] at FS2 h2
      clear hs2 FS HC
      have H2 := Lib.hid h2
      clear h2
      go_wp2_with fail
      refine (H2.out.reply (Fr.refl _ _) FS2.out.ok 1 (by decide) (mErr 0) _ rd_res0).mono ?_
      rintro e w3 ⟨he, h3⟩
      rw [FS2.out.reply] at he h3
      subst he
      have H3 := Lib.hid h3
      clear h3
      go_wp2_with fail
      refine (H3.out.kill (Fr.refl _ _) FS2.out.ok 1 (by omega) true).mono ?_
      rintro e w4 ⟨he, h4⟩
      rw [FS2.out.kill] at he h4
      subst he
      have H4 := Lib.hid h4
      clear h4
      go_wp2_with fail
      refine (H4.out.call (Fr.refl _ _) FS2.out.ok 2 (by decide) (3, 0, 0, []) none 0 (rd_call (by decide) (by decide) (by decide) (.inl ⟨rfl, rfl⟩) (by simp))).mono ?_
      rintro e w5 ⟨he, h5⟩
      rw [FS2.out.call] at he h5
      subst he
      have H5 := Lib.hid h5
      clear h5
      go_wp2_with fail
      refine (H5.out.opens FS2.out.ok).mono ?_
      rintro e w6 ⟨v6, rfl, hv6, f6, h6⟩
      rw [FS2.out.opn] at hv6
      obtain ⟨va, vn, rfl⟩ := hv6.form
      have F6 := Lib.hid h6.frame
      clear hv6 h6 f6
      go_wp2_with fail
      refine (alive_any w6).mono ?_
      rintro e w7 ⟨rfl, f7⟩
      go_wp2_with fail
      go_ret
      exact ⟨by trivial, F6.out.trans f7⟩
end Go.Proofs.Ytplhcfaonhkegaa
