/-
  The laws of orders, walked: none, takes, follows.
-/
import Derived.Test.YtplhcfaonhkegaaLC
import Derived.Test.YtplhcfaonhkegaaLE
namespace Go.Proofs.Ytplhcfaonhkegaa
open Go.RowKit Go.Maps

theorem first80 {S : Nat → Prop} {w : World} {b q n c : Nat} {o : List Int} (h : Sl kI S w (.slice (some ⟨b, q, none⟩) n c) o) (h80 : 80 < o.length) (hc : c ≤ maxLen) (hn : 80 ≤ c) : Sl kI S w (.slice (some ⟨b, q, none⟩) 80 c) (o.take 80) := by
  have := h.sub 0 80 c (by omega) hn hc
  simpa using this
theorem filter_two {α : Type} (p : α → Bool) : ∀ l : List α, l.length = (l.filter p).length + (l.filter fun x => !p x).length
  | [] => rfl
  | x :: l => by
    have ih := filter_two p l
    rw [List.filter_cons, List.filter_cons]
    cases hp : p x <;> simp <;> omega
theorem nodup_bound : ∀ (n : Nat) (ps : List Nat), ps.Nodup → (∀ i ∈ ps, i < n) → ps.length ≤ n
  | 0, ps, _, h => by
    cases ps with
    | nil => simp
    | cons x xs => exact absurd (h x (by simp)) (by omega)
  | n + 1, ps, hd, h => by
    have h1 := nodup_bound n (ps.filter fun i => decide (i ≠ n)) (hd.filter _) (fun i hi => by
      obtain ⟨a, b⟩ := List.mem_filter.1 hi
      have := h i a
      simp at b
      omega)
    have h2 : ps.length ≤ (ps.filter fun i => decide (i ≠ n)).length + 1 := by
      have e := filter_two (fun i => decide (i ≠ n)) ps
      have h3 : (ps.filter fun i => !decide (i ≠ n)).length ≤ 1 := by
        have hf := hd.filter (fun i => !decide (i ≠ n))
        have ha : ∀ i ∈ ps.filter (fun i => !decide (i ≠ n)), i = n := fun i hi => by
          have := (List.mem_filter.1 hi).2
          simpa using this
        generalize ps.filter (fun i => !decide (i ≠ n)) = q at hf ha
        match q with
        | [] => simp
        | [_] => simp
        | a :: b :: q =>
          have e1 := ha a (by simp)
          have e2 := ha b (by simp)
          have := (List.pairwise_cons.1 hf).1 b (by simp)
          omega
      omega
    omega
theorem order_len {l : List MHap} {o : List Int} (hl : l.length ≤ 14) (h : lFollows l o = true) : o.length ≤ 100 := by
  obtain ⟨_, ps, rfl, ho⟩ := lFollows_iff.1 h
  have := nodup_bound l.length ps ho.nd ho.lt
  rw [List.length_map]
  omega
set_option maxRecDepth 100000 in
set_option maxHeartbeats 4000000 in
theorem linNone_any {w : World} {u ov : Value} {L : List MHap} {O : List Int} (hl : Sl kHap All w u L) (ho : Sl kI All w ov O) :
    Calls Try.prog 14 #[u, ov] w fun e w' => e = .returned (.bool true) ∧ Fr Non w w' := by
  obtain ⟨va, vc, rfl, _⟩ := hl.frm
  obtain ⟨oa, oc, rfl, hoc1, hoc2, hon⟩ := ho.frm
  have HL := Lib.hid hl
  have HO := Lib.hid ho
  clear hl ho
  go_enter Try.func14, Try.ntmps14
  go_wp2_with fail
  refine (lawake_any w).mono ?_
  rintro e w1 ⟨rfl, f1⟩
  go_wp2_with fail
  refine (lcut_any (HL.out.stay f1) 6 (by decide)).mono ?_
  rintro e w2 ⟨v2, rfl, hv2, f2⟩
  have hlen := lCut_len 6 L
  obtain ⟨l, hl⟩ : ∃ l, lCut 6 L = l := ⟨_, rfl⟩
  rw [hl] at hv2 hlen
  obtain ⟨l2a, l2c, rfl, _⟩ := hv2.frm
  have HV2 := Lib.hid hv2
  have F2 := Lib.hid (f1.trans f2)
  clear hl hv2 f1 f2 HL
  go_wp2_with fail
  refine (order_any HV2.out).mono ?_
  rintro e w3 ⟨v3, rfl, hv3, f3⟩
  obtain ⟨v3a, v3c, rfl, _⟩ := hv3.frm
  have HLW := Lib.hid (fun h h0 o => lOrder_none (l := l) h h0 o)
  obtain ⟨R, hR⟩ : ∃ R, lOrder l = R := ⟨_, rfl⟩
  rw [hR] at HLW ⊢
  obtain ⟨o, ok, er⟩ := R
  have F3 := Lib.hid (F2.out.trans f3)
  have HV3 := Lib.hid (HV2.out.stay f3)
  have HO3 := Lib.hid (HO.out.stay (F2.out.trans f3))
  clear hR f3 hv3 HV2 F2 HO
  simp only at HLW ⊢
  have hS : ∃ (ol : List Int) (oa' : Option Addr) (oc' : Nat), ol.length ≤ 100 ∧ Hid (Sl kI All w3 (.slice oa' ol.length oc') ol) ∧ (80 < O.length → oa' = oa ∧ ol.length = 80 ∧ oc' = oc) ∧ (¬ 80 < O.length → oa' = oa ∧ ol.length = O.length ∧ oc' = oc) := by
    by_cases h80 : 80 < O.length
    · obtain ⟨⟨b, q, sp⟩, rfl⟩ : ∃ a, oa = some a := by
        cases oa with
        | none => rw [hon rfl] at h80; simp at h80
        | some a => exact ⟨a, rfl⟩
      have hsp : sp = none := by
        rcases HO3.out with ⟨h, _⟩ | ⟨a, c, h, _, _, h3, _⟩
        · cases h
        · cases h
          exact (h3 (by intro h; rw [h] at h80; simp at h80)).1
      subst hsp
      have e80 : (O.take 80).length = 80 := by rw [List.length_take]; omega
      exact ⟨O.take 80, _, _, by omega, Lib.hid (by rw [e80]; exact first80 HO3.out h80 hoc2 (by omega)), fun _ => ⟨rfl, e80, rfl⟩, fun h => absurd h80 h⟩
    · exact ⟨O, _, _, by omega, HO3, fun h => absurd h h80, fun _ => ⟨rfl, rfl, rfl⟩⟩
  obtain ⟨ol, oa', oc', hol, HOL, hy, hn⟩ := hS
  have HRF := Lib.hid (fun (y : World) (f : Fr Non w3 y) => rfollows_any (HV3.out.stay f) (by omega) (HOL.out.stay f) hol)
  have hmx : oc ≤ 9223372036854775807 := by unfold maxLen at hoc2; omega
  clear hoc2
  by_cases h80 : 80 < O.length
  · obtain ⟨rfl, e2, rfl⟩ := hy h80
    rw [e2] at HRF
    have h81 : (80 : Int) < (O.length : Int) := by omega
    have h82 : (80 : Int) ≤ (oc' : Int) := by omega
    clear hn hy HOL HO3
    by_cases h0 : er = 0
    rotate_left
    · have g0 : (er != 0) = true := by simpa using h0
      clear HRF
      cases ok with
      | true =>
        go_wp2_with fail
        go_ret
        exact ⟨by rfl, F3.out⟩
      | false =>
        go_wp2_with fail
        go_ret
        exact ⟨by rfl, F3.out⟩
    subst h0
    cases ok with
    | true =>
      clear HRF
      go_wp2_with fail
      go_ret
      exact ⟨by rfl, F3.out⟩
    | false =>
      have HNO := Lib.hid (HLW.out rfl rfl ol)
      go_wp2_with fail
      refine (HRF.out _ (Fr.refl _ _)).mono ?_
      rintro e w4 ⟨rfl, f4⟩
      rw [HNO.out]
      go_wp2_with fail
      go_ret
      exact ⟨by rfl, F3.out.trans f4⟩
  · obtain ⟨rfl, e2, rfl⟩ := hn h80
    rw [e2] at HRF
    have h81 : ¬ (80 : Int) < (O.length : Int) := by omega
    clear hn hy HOL HO3
    by_cases h0 : er = 0
    rotate_left
    · have g0 : (er != 0) = true := by simpa using h0
      clear HRF
      cases ok with
      | true =>
        go_wp2_with fail
        go_ret
        exact ⟨by rfl, F3.out⟩
      | false =>
        go_wp2_with fail
        go_ret
        exact ⟨by rfl, F3.out⟩
    subst h0
    cases ok with
    | true =>
      clear HRF
      go_wp2_with fail
      go_ret
      exact ⟨by rfl, F3.out⟩
    | false =>
      have HNO := Lib.hid (HLW.out rfl rfl ol)
      go_wp2_with fail
      refine (HRF.out _ (Fr.refl _ _)).mono ?_
      rintro e w4 ⟨rfl, f4⟩
      rw [HNO.out]
      go_wp2_with fail
      go_ret
      exact ⟨by rfl, F3.out.trans f4⟩
set_option maxRecDepth 100000 in
set_option maxHeartbeats 4000000 in
theorem linFollows_any {w : World} {u ov : Value} {L : List MHap} {O : List Int} (hl : Sl kHap All w u L) (ho : Sl kI All w ov O) :
    Calls Try.prog 16 #[u, ov] w fun e w' => e = .returned (.bool true) ∧ Fr Non w w' := by
  obtain ⟨va, vc, rfl, _⟩ := hl.frm
  obtain ⟨oa, oc, rfl, hoc1, hoc2, hon⟩ := ho.frm
  have HL := Lib.hid hl
  have HO := Lib.hid ho
  clear hl ho
  go_enter Try.func16, Try.ntmps16
  go_wp2_with fail
  refine (lcut_any (HL.out.stay (Fr.refl _ _)) 80 (by decide)).mono ?_
  rintro e w2 ⟨v2, rfl, hv2, f2⟩
  have hlen := lCut_len 80 L
  obtain ⟨l, hl⟩ : ∃ l, lCut 80 L = l := ⟨_, rfl⟩
  rw [hl] at hv2 hlen
  obtain ⟨l2a, l2c, rfl, _⟩ := hv2.frm
  have HV2 := Lib.hid hv2
  have F2 := Lib.hid f2
  have HO3 := Lib.hid (HO.out.stay f2)
  clear hl hv2 f2 HL HO
  have hS : ∃ (ol : List Int) (oa' : Option Addr) (oc' : Nat), ol.length ≤ 100 ∧ Hid (Sl kI All w2 (.slice oa' ol.length oc') ol) ∧ (80 < O.length → oa' = oa ∧ ol.length = 80 ∧ oc' = oc) ∧ (¬ 80 < O.length → oa' = oa ∧ ol.length = O.length ∧ oc' = oc) := by
    by_cases h80 : 80 < O.length
    · obtain ⟨⟨b, q, sp⟩, rfl⟩ : ∃ a, oa = some a := by
        cases oa with
        | none => rw [hon rfl] at h80; simp at h80
        | some a => exact ⟨a, rfl⟩
      have hsp : sp = none := by
        rcases HO3.out with ⟨h, _⟩ | ⟨a, c, h, _, _, h3, _⟩
        · cases h
        · cases h
          exact (h3 (by intro h; rw [h] at h80; simp at h80)).1
      subst hsp
      have e80 : (O.take 80).length = 80 := by rw [List.length_take]; omega
      exact ⟨O.take 80, _, _, by omega, Lib.hid (by rw [e80]; exact first80 HO3.out h80 hoc2 (by omega)), fun _ => ⟨rfl, e80, rfl⟩, fun h => absurd h80 h⟩
    · exact ⟨O, _, _, by omega, HO3, fun h => absurd h h80, fun _ => ⟨rfl, rfl, rfl⟩⟩
  obtain ⟨ol, oa', oc', hol, HOL, hy, hn⟩ := hS
  have HF := Lib.hid (fun (y : World) (f : Fr Non w2 y) => lfollows_any (HV2.out.stay f) (HOL.out.stay f) hol)
  have HRF := Lib.hid (fun (y : World) (f : Fr Non w2 y) => rfollows_any (HV2.out.stay f) (by omega) (HOL.out.stay f) hol)
  have hmx : oc ≤ 9223372036854775807 := by unfold maxLen at hoc2; omega
  clear hoc2
  by_cases h80 : 80 < O.length
  · obtain ⟨rfl, e2, rfl⟩ := hy h80
    rw [e2] at HRF HF
    have h81 : (80 : Int) < (O.length : Int) := by omega
    have h82 : (80 : Int) ≤ (oc' : Int) := by omega
    clear hn hy HOL HO3
    go_wp2_with fail
    refine (HF.out _ (Fr.refl _ _)).mono ?_
    rintro e w3 ⟨rfl, f3⟩
    go_wp2_with fail
    refine (HRF.out _ f3).mono ?_
    rintro e w4 ⟨rfl, f4⟩
    obtain ⟨b, hb⟩ : ∃ b, lFollows l ol = b := ⟨_, rfl⟩
    rw [hb]
    have F4 := Lib.hid (F2.out.trans (f3.trans f4))
    clear f3 f4
    cases b with
    | true =>
      go_wp2_with fail
      refine (lawake_any _).mono ?_
      rintro e w5 ⟨rfl, f5⟩
      go_wp2_with fail
      go_ret
      exact ⟨by rfl, F4.out.trans f5⟩
    | false =>
      go_wp2_with fail
      refine (lawake_any _).mono ?_
      rintro e w5 ⟨rfl, f5⟩
      go_wp2_with fail
      go_ret
      exact ⟨by rfl, F4.out.trans f5⟩
  · obtain ⟨rfl, e2, rfl⟩ := hn h80
    rw [e2] at HRF HF
    have h81 : ¬ (80 : Int) < (O.length : Int) := by omega
    clear hn hy HOL HO3
    go_wp2_with fail
    refine (HF.out _ (Fr.refl _ _)).mono ?_
    rintro e w3 ⟨rfl, f3⟩
    go_wp2_with fail
    refine (HRF.out _ f3).mono ?_
    rintro e w4 ⟨rfl, f4⟩
    obtain ⟨b, hb⟩ : ∃ b, lFollows l ol = b := ⟨_, rfl⟩
    rw [hb]
    have F4 := Lib.hid (F2.out.trans (f3.trans f4))
    clear f3 f4
    cases b with
    | true =>
      go_wp2_with fail
      refine (lawake_any _).mono ?_
      rintro e w5 ⟨rfl, f5⟩
      go_wp2_with fail
      go_ret
      exact ⟨by rfl, F4.out.trans f5⟩
    | false =>
      go_wp2_with fail
      refine (lawake_any _).mono ?_
      rintro e w5 ⟨rfl, f5⟩
      go_wp2_with fail
      go_ret
      exact ⟨by rfl, F4.out.trans f5⟩
set_option maxRecDepth 100000 in
set_option maxHeartbeats 4000000 in
theorem linTakes_any {w : World} {u : Value} {L : List MHap} (hl : Sl kHap All w u L) :
    Calls Try.prog 17 #[u] w fun e w' => e = .returned (.bool true) ∧ Fr Non w w' := by
  obtain ⟨va, vc, rfl, _⟩ := hl.frm
  have HL := Lib.hid hl
  clear hl
  go_enter Try.func17, Try.ntmps17
  go_wp2_with fail
  refine (lawake_any w).mono ?_
  rintro e w1 ⟨rfl, f1⟩
  go_wp2_with fail
  refine (lcut_any (HL.out.stay f1) 14 (by decide)).mono ?_
  rintro e w2 ⟨v2, rfl, hv2, f2⟩
  have hlen := lCut_len 14 L
  obtain ⟨l, hl⟩ : ∃ l, lCut 14 L = l := ⟨_, rfl⟩
  rw [hl] at hv2 hlen
  obtain ⟨l2a, l2c, rfl, _⟩ := hv2.frm
  have HV2 := Lib.hid hv2
  have F2 := Lib.hid (f1.trans f2)
  clear hl hv2 f1 f2 HL
  go_wp2_with fail
  refine (order_any HV2.out).mono ?_
  rintro e w3 ⟨v3, rfl, hv3, f3⟩
  obtain ⟨v3a, v3c, rfl, _⟩ := hv3.frm
  have HYES := Lib.hid (fun h => (lOrder_found (l := l) h))
  have HNIL := Lib.hid (fun h => (lOrder_nil (l := l) h))
  have HERR := Lib.hid (fun h => (lOrder_err (l := l) h))
  obtain ⟨R, hR⟩ : ∃ R, lOrder l = R := ⟨_, rfl⟩
  rw [hR] at HYES HNIL HERR hv3 ⊢
  obtain ⟨o, ok, er⟩ := R
  have F3 := Lib.hid (F2.out.trans f3)
  have HV3 := Lib.hid (HV2.out.stay f3)
  clear hR f3 HV2 F2
  simp only at HYES HNIL HERR hv3 ⊢
  have HO3 := Lib.hid hv3
  clear hv3
  by_cases h0 : er = 0
  rotate_left
  · have g0 : (er != 0) = true := by simpa using h0
    have g1 : (er == 0) = false := by simpa using h0
    obtain ⟨rfl, rfl⟩ := HERR.out h0
    go_wp2_with fail
    go_ret
    exact ⟨by rfl, F3.out⟩
  subst h0
  cases ok with
  | false =>
    obtain rfl := HNIL.out rfl
    go_wp2_with fail
    go_ret
    exact ⟨by rfl, F3.out⟩
  | true =>
    have HY := Lib.hid (HYES.out rfl).1
    have hol : o.length ≤ 100 := order_len hlen HY.out
    have HF := Lib.hid (fun (y : World) (f : Fr Non w3 y) => lfollows_any (HV3.out.stay f) (HO3.out.stay f) hol)
    have HRF := Lib.hid (fun (y : World) (f : Fr Non w3 y) => rfollows_any (HV3.out.stay f) (by omega) (HO3.out.stay f) hol)
    rw [HY.out] at HF HRF
    clear HYES HNIL HERR
    go_wp2_with fail
    refine (HRF.out _ (Fr.refl _ _)).mono ?_
    rintro e w4 ⟨rfl, f4⟩
    go_wp2_with fail
    refine (HF.out _ f4).mono ?_
    rintro e w5 ⟨rfl, f5⟩
    go_wp2_with fail
    go_ret
    exact ⟨by rfl, F3.out.trans (f4.trans f5)⟩
end Go.Proofs.Ytplhcfaonhkegaa
