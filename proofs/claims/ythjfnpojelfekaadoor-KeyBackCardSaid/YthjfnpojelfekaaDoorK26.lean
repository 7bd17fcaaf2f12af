/-
  KeyTexts, walked.
-/
import Derived.Test.YthjfnpojelfekaaDoorK9
import Derived.Test.YthjfnpojelfekaaDoorK12
import Derived.Test.YthjfnpojelfekaaDoorK25
namespace Go.Proofs.YthjfnpojelfekaaDoor
open Go.RowKit

/-- A row of bytes, as a text. -/
theorem sl_text {S : Nat → Prop} {w : World} {v : Value} {l : List UInt8} (h : Sl kByte S w v l) : (convert 41 9 v).run Tryd.prog w = .ok (.string ⟨l.toArray⟩) w := by
  rcases h with ⟨rfl, rfl⟩ | ⟨⟨g, o, sp⟩, c, rfl, h1, h2, h3, h4⟩
  · rw [run_convert_bytes_string w 41 9 5 none 0 0 Tryd.underlying41 Tryd.underlying5 Tryd.underlying9]
    rfl
  · refine run_convert_bytes_back (P := Tryd.prog) w 41 9 5 ⟨g, o, sp⟩ c l Tryd.underlying41 Tryd.underlying5 Tryd.underlying9 fun j hj => ?_
    have h0 := (h3 (by rintro rfl; simp at hj)).1
    simp only at h0
    subst h0
    obtain ⟨cs, hr, hx⟩ := h4 j hj
    obtain rfl : cs = _ := hr
    rw [addr_add']
    have := hx 0 (by simp)
    simpa [kByte] using this
theorem sl_form {α : Type} {k : Kd α} {S : Nat → Prop} {w : World} {v : Value} {l : List α} (h : Sl k S w v l) : ∃ a c, v = .slice a l.length c ∧ (a = none → l = []) ∧ l.length ≤ c ∧ c ≤ maxLen := by
  rcases h with ⟨rfl, rfl⟩ | ⟨a, c, rfl, h1, h2, _⟩
  · exact ⟨none, 0, rfl, fun _ => rfl, by simp, by unfold maxLen; omega⟩
  · exact ⟨_, _, rfl, fun h => (by cases h), h1, h2⟩
set_option maxRecDepth 100000 in
set_option maxHeartbeats 4000000 in
theorem cut_any (s : ByteArray) (w : World) : Calls Tryd.prog 30 #[.string s] w fun e w' => ∃ S : ByteArray, S.size ≤ 300 ∧ e = .returned (.string S) ∧ w' = w := by
  by_cases h : 300 < s.size
  · have i0 : (300 : Int) < (s.size : Int) := by omega
    have g0 : decide (300 < s.size) = true := decide_eq_true h
    have i1 : 300 ≤ s.size := by omega
    go_enter Tryd.func30, Tryd.ntmps30
    go_wp2_with fail
    go_ret
    refine ⟨_, ?_, by trivial, rfl⟩
    simp; (try omega)
  · have i0 : ¬ (300 : Int) < (s.size : Int) := by omega
    have g0 : decide (300 < s.size) = false := decide_eq_false h
    go_enter Tryd.func30, Tryd.ntmps30
    go_wp2_with fail
    go_ret
    exact ⟨s, by omega, by trivial, rfl⟩
set_option maxRecDepth 100000 in
set_option maxHeartbeats 4000000 in
theorem texts_law (w : World) (k : MK) (hk : kWf k) (s : ByteArray) {u : Value} {l : List UInt8} (hl : Sl kByte All w u l) (ht : pow10 w) (he : errs w) : Calls Tryd.prog 9 #[kV k, .string s, u] w (KEnd w) := by
  obtain ⟨a, c, rfl, hnone, hc1, hc2⟩ := sl_form hl
  have HL := Lib.hid hl
  have H0 := Lib.hid (fun w => awake_any w)
  have HC := Lib.hid (fun w => cut_any s w)
  have HT1 := Lib.hid (fun w ht => text_any w k hk ht)
  have HT2 := Lib.hid (fun w => rtext_any w k hk)
  have HB1 := Lib.hid (fun w => bytes_any w k hk)
  have HB2 := Lib.hid (fun w => rbytes_any w k hk)
  generalize hx : kTxt k = x at HT1 HT2
  clear hx
  obtain ⟨x1, x2⟩ := x
  generalize hy : kBytes k = y at HB1 HB2
  generalize hz : kChk k = z at HB1 HB2
  clear hy hz
  obtain ⟨k1, k2⟩ := k
  unfold kV at HT1 HT2 HB1 HB2 ⊢
  unfold tV at HT1 HT2
  obtain ⟨W, hW⟩ : ∃ W, w.alloc (.cells #[.int .i64 k1, .int .u64 k2] 25) = W := ⟨_, rfl⟩
  have f0 : Fr Non w W := by rw [← hW]; exact (Fr.refl _ _).alloc _
  have bK : W.heap[w.heap.size]? = some (.cells #[.int .i64 k1, .int .u64 k2] 25 (0, 0)) := by rw [← hW]; exact alloc_at w _
  have HTB := Lib.hid (ht.fr f0)
  have HER := Lib.hid (he.fr f0)
  have BK := Lib.hid bK
  have F0 := Lib.hid f0
  replace HL := Lib.hid (HL.out.frame f0 (fun _ _ _ => id))
  clear hl ht he bK f0
  unfold maxLen at hc2
  go_enter Tryd.func9, Tryd.ntmps9
  go_wp2_with fail
  (try rw [hW])
  refine (HC.out _).mono ?_
  rintro e w' ⟨S, hS, rfl, hE⟩
  rw [hE]
  clear hE
  have HP1 := Lib.hid (fun w he ht => parse_any S hS w he ht)
  have HP2 := Lib.hid (fun w => rparse_any S hS w)
  generalize hp : kParse S.data.toList = p at HP1 HP2
  clear hp hS HC hW hk
  obtain ⟨⟨p1, p2⟩, p3⟩ := p
  unfold pV kV at HP1 HP2
  by_cases h3 : 300 < l.length
  · have i0 : (300 : Int) < (l.length : Int) := by omega
    have g0 : decide (300 < l.length) = true := decide_eq_true h3
    have i1 : (300 : Int) ≤ (c : Int) := by omega
    have i2 : 300 ≤ c := by omega
    cases a with
    | none => have := hnone rfl; subst this; simp at h3
    | some ad =>
    obtain ⟨b, o, sp⟩ := ad
    obtain ⟨b', o', _, e, _⟩ := HL.out.at 0 (by omega)
    cases e
    have hsub := HL.out.sub 0 300 c (by omega) i2 (by unfold maxLen; omega)
    rw [Nat.zero_mul, Nat.add_zero, List.drop_zero] at hsub
    replace HL := Lib.hid hsub
    clear hsub
    obtain ⟨⟨⟨r1, r2⟩, r3⟩, hR⟩ : ∃ R, kRead (l.take 300) = R := ⟨_, rfl⟩
    have HRD := Lib.hid hR
    clear hR
    have HC0 := Lib.hid (HT1.out W HTB.out)
    have q00a : W.cell? ⟨w.heap.size, 0, none⟩ = some (.int .i64 k1) := by rw [(box_facts BK.out).1]; rfl
    have q00b : W.cell? ⟨w.heap.size, 1, none⟩ = some (.int .u64 k2) := by rw [(box_facts BK.out).1]; rfl
    go_wp2_with fail
    refine HC0.out.mono ?_
    rintro e v0 ⟨rfl, g0⟩
    replace BK := Lib.hid ((g0).heap BK.out id)
    replace HL := Lib.hid (HL.out.frame (g0) (fun _ _ _ => id))
    replace HTB := Lib.hid (HTB.out.fr (g0))
    replace HER := Lib.hid (HER.out.fr (g0))
    replace F0 := Lib.hid (F0.out.trans (g0))
    clear HC0 q00a q00b g0
    have HC1 := Lib.hid (HT2.out v0)
    have q10a : v0.cell? ⟨w.heap.size, 0, none⟩ = some (.int .i64 k1) := by rw [(box_facts BK.out).1]; rfl
    have q10b : v0.cell? ⟨w.heap.size, 1, none⟩ = some (.int .u64 k2) := by rw [(box_facts BK.out).1]; rfl
    go_wp2_with fail
    refine HC1.out.mono ?_
    rintro e v1 ⟨rfl, g1⟩
    replace BK := Lib.hid ((g1).heap BK.out id)
    replace HL := Lib.hid (HL.out.frame (g1) (fun _ _ _ => id))
    replace HTB := Lib.hid (HTB.out.fr (g1))
    replace HER := Lib.hid (HER.out.fr (g1))
    replace F0 := Lib.hid (F0.out.trans (g1))
    clear HC1 q10a q10b g1
    have HC2 := Lib.hid (HP1.out v1 HER.out HTB.out)
    go_wp2_with fail
    refine HC2.out.mono ?_
    rintro e v2 ⟨rfl, g2⟩
    replace BK := Lib.hid ((g2).heap BK.out id)
    replace HL := Lib.hid (HL.out.frame (g2) (fun _ _ _ => id))
    replace HTB := Lib.hid (HTB.out.fr (g2))
    replace HER := Lib.hid (HER.out.fr (g2))
    replace F0 := Lib.hid (F0.out.trans (g2))
    clear HC2 g2 HTB HER
    have h2 : Fr Non v2 (v2.alloc (.cells #[.int .i64 p1, .int .u64 p2] 25)) := (Fr.refl _ _).alloc _
    replace BK := Lib.hid ((h2).heap BK.out id)
    replace HL := Lib.hid (HL.out.frame (h2) (fun _ _ _ => id))
    replace F0 := Lib.hid (F0.out.trans (h2))
    have B2 := Lib.hid (alloc_at v2 (.cells #[.int .i64 p1, .int .u64 p2] 25))
    clear h2
    have HC3 := Lib.hid (HP2.out (v2.alloc (.cells #[.int .i64 p1, .int .u64 p2] 25)))
    go_wp2_with fail
    refine HC3.out.mono ?_
    rintro e v3 ⟨rfl, g3⟩
    replace BK := Lib.hid ((g3).heap BK.out id)
    replace B2 := Lib.hid ((g3).heap B2.out id)
    replace HL := Lib.hid (HL.out.frame (g3) (fun _ _ _ => id))
    replace F0 := Lib.hid (F0.out.trans (g3))
    clear HC3 g3
    have h3 : Fr Non v3 (v3.alloc (.cells #[.int .i64 p1, .int .u64 p2] 25)) := (Fr.refl _ _).alloc _
    replace BK := Lib.hid ((h3).heap BK.out id)
    replace B2 := Lib.hid ((h3).heap B2.out id)
    replace HL := Lib.hid (HL.out.frame (h3) (fun _ _ _ => id))
    replace F0 := Lib.hid (F0.out.trans (h3))
    have B3 := Lib.hid (alloc_at v3 (.cells #[.int .i64 p1, .int .u64 p2] 25))
    clear h3
    have HC4 := Lib.hid (HB1.out (v3.alloc (.cells #[.int .i64 p1, .int .u64 p2] 25)))
    have q40a : (v3.alloc (.cells #[.int .i64 p1, .int .u64 p2] 25)).cell? ⟨w.heap.size, 0, none⟩ = some (.int .i64 k1) := by rw [(box_facts BK.out).1]; rfl
    have q40b : (v3.alloc (.cells #[.int .i64 p1, .int .u64 p2] 25)).cell? ⟨w.heap.size, 1, none⟩ = some (.int .u64 k2) := by rw [(box_facts BK.out).1]; rfl
    go_wp2_with fail
    refine HC4.out.mono ?_
    rintro e v4 ⟨b4, rfl, hb4, g4⟩
    obtain ⟨a4, c4, rfl, _, _, _⟩ := sl_form hb4
    replace BK := Lib.hid ((g4).heap BK.out id)
    replace B2 := Lib.hid ((g4).heap B2.out id)
    replace B3 := Lib.hid ((g4).heap B3.out id)
    replace HL := Lib.hid (HL.out.frame (g4) (fun _ _ _ => id))
    replace F0 := Lib.hid (F0.out.trans (g4))
    have S4 := Lib.hid hb4
    clear HC4 q40a q40b g4 hb4
    have HC5 := Lib.hid (HB2.out v4)
    have q50a : v4.cell? ⟨w.heap.size, 0, none⟩ = some (.int .i64 k1) := by rw [(box_facts BK.out).1]; rfl
    have q50b : v4.cell? ⟨w.heap.size, 1, none⟩ = some (.int .u64 k2) := by rw [(box_facts BK.out).1]; rfl
    go_wp2_with fail
    refine HC5.out.mono ?_
    rintro e v5 ⟨b5, rfl, hb5, g5⟩
    obtain ⟨a5, c5, rfl, _, _, _⟩ := sl_form hb5
    replace BK := Lib.hid ((g5).heap BK.out id)
    replace B2 := Lib.hid ((g5).heap B2.out id)
    replace B3 := Lib.hid ((g5).heap B3.out id)
    replace HL := Lib.hid (HL.out.frame (g5) (fun _ _ _ => id))
    replace S4 := Lib.hid (S4.out.frame (g5) (fun _ _ _ => id))
    replace F0 := Lib.hid (F0.out.trans (g5))
    have S5 := Lib.hid hb5
    clear HC5 q50a q50b g5 hb5
    have HC6 := Lib.hid (read_any HL.out)
    rw [HRD.out] at HC6
    unfold pV kV at HC6
    go_wp2_with fail
    refine HC6.out.mono ?_
    rintro e v6 ⟨rfl, g6⟩
    replace BK := Lib.hid ((g6).heap BK.out id)
    replace B2 := Lib.hid ((g6).heap B2.out id)
    replace B3 := Lib.hid ((g6).heap B3.out id)
    replace HL := Lib.hid (HL.out.frame (g6) (fun _ _ _ => id))
    replace S4 := Lib.hid (S4.out.frame (g6) (fun _ _ _ => id))
    replace S5 := Lib.hid (S5.out.frame (g6) (fun _ _ _ => id))
    replace F0 := Lib.hid (F0.out.trans (g6))
    clear HC6 g6
    have h6 : Fr Non v6 (v6.alloc (.cells #[.int .i64 r1, .int .u64 r2] 25)) := (Fr.refl _ _).alloc _
    replace BK := Lib.hid ((h6).heap BK.out id)
    replace B2 := Lib.hid ((h6).heap B2.out id)
    replace B3 := Lib.hid ((h6).heap B3.out id)
    replace HL := Lib.hid (HL.out.frame (h6) (fun _ _ _ => id))
    replace S4 := Lib.hid (S4.out.frame (h6) (fun _ _ _ => id))
    replace S5 := Lib.hid (S5.out.frame (h6) (fun _ _ _ => id))
    replace F0 := Lib.hid (F0.out.trans (h6))
    have B6 := Lib.hid (alloc_at v6 (.cells #[.int .i64 r1, .int .u64 r2] 25))
    clear h6
    have HC7 := Lib.hid (rread_any HL.out)
    rw [HRD.out] at HC7
    unfold pV kV at HC7
    go_wp2_with fail
    refine HC7.out.mono ?_
    rintro e v7 ⟨rfl, g7⟩
    replace BK := Lib.hid ((g7).heap BK.out id)
    replace B2 := Lib.hid ((g7).heap B2.out id)
    replace B3 := Lib.hid ((g7).heap B3.out id)
    replace B6 := Lib.hid ((g7).heap B6.out id)
    replace HL := Lib.hid (HL.out.frame (g7) (fun _ _ _ => id))
    replace S4 := Lib.hid (S4.out.frame (g7) (fun _ _ _ => id))
    replace S5 := Lib.hid (S5.out.frame (g7) (fun _ _ _ => id))
    replace F0 := Lib.hid (F0.out.trans (g7))
    clear HC7 g7
    have h7 : Fr Non v7 (v7.alloc (.cells #[.int .i64 r1, .int .u64 r2] 25)) := (Fr.refl _ _).alloc _
    replace BK := Lib.hid ((h7).heap BK.out id)
    replace B2 := Lib.hid ((h7).heap B2.out id)
    replace B3 := Lib.hid ((h7).heap B3.out id)
    replace B6 := Lib.hid ((h7).heap B6.out id)
    replace HL := Lib.hid (HL.out.frame (h7) (fun _ _ _ => id))
    replace S4 := Lib.hid (S4.out.frame (h7) (fun _ _ _ => id))
    replace S5 := Lib.hid (S5.out.frame (h7) (fun _ _ _ => id))
    replace F0 := Lib.hid (F0.out.trans (h7))
    have B7 := Lib.hid (alloc_at v7 (.cells #[.int .i64 r1, .int .u64 r2] 25))
    clear h7
    have qz1a : (v7.alloc (.cells #[.int .i64 r1, .int .u64 r2] 25)).cell? ⟨v2.heap.size, 0, none⟩ = some (.int .i64 p1) := by rw [(box_facts B2.out).1]; rfl
    have qz1b : (v7.alloc (.cells #[.int .i64 r1, .int .u64 r2] 25)).cell? ⟨v2.heap.size, 1, none⟩ = some (.int .u64 p2) := by rw [(box_facts B2.out).1]; rfl
    have qz2a : (v7.alloc (.cells #[.int .i64 r1, .int .u64 r2] 25)).cell? ⟨v3.heap.size, 0, none⟩ = some (.int .i64 p1) := by rw [(box_facts B3.out).1]; rfl
    have qz2b : (v7.alloc (.cells #[.int .i64 r1, .int .u64 r2] 25)).cell? ⟨v3.heap.size, 1, none⟩ = some (.int .u64 p2) := by rw [(box_facts B3.out).1]; rfl
    have qz3a : (v7.alloc (.cells #[.int .i64 r1, .int .u64 r2] 25)).cell? ⟨v6.heap.size, 0, none⟩ = some (.int .i64 r1) := by rw [(box_facts B6.out).1]; rfl
    have qz3b : (v7.alloc (.cells #[.int .i64 r1, .int .u64 r2] 25)).cell? ⟨v6.heap.size, 1, none⟩ = some (.int .u64 r2) := by rw [(box_facts B6.out).1]; rfl
    have qz4a : (v7.alloc (.cells #[.int .i64 r1, .int .u64 r2] 25)).cell? ⟨v7.heap.size, 0, none⟩ = some (.int .i64 r1) := by rw [(box_facts B7.out).1]; rfl
    have qz4b : (v7.alloc (.cells #[.int .i64 r1, .int .u64 r2] 25)).cell? ⟨v7.heap.size, 1, none⟩ = some (.int .u64 r2) := by rw [(box_facts B7.out).1]; rfl
    have E1 := Lib.hid (fun w => eq_key (p1, p2) (p1, p2) w)
    have E2 := Lib.hid (fun w => eq_key (r1, r2) (r1, r2) w)
    unfold kV at E1 E2
    simp only [decide_true] at E1 E2
    have E1 := E1.out
    have E2 := E2.out
    have C1 := sl_text S4.out
    have C2 := sl_text S5.out
    clear HT2 HP2 HB1 HB2 HT1 HP1 BK B2 B3 B6 B7 HL S4 S5 HRD
    go_wp2_with fail
    refine (H0.out _).mono ?_
    rintro e v ⟨rfl, g⟩
    go_wp2_with fail
    go_ret
    exact ⟨by trivial, F0.out.trans g⟩

  · have i0 : ¬ (300 : Int) < (l.length : Int) := by omega
    have g0 : decide (300 < l.length) = false := decide_eq_false h3
    obtain ⟨⟨⟨r1, r2⟩, r3⟩, hR⟩ : ∃ R, kRead l = R := ⟨_, rfl⟩
    have HRD := Lib.hid hR
    clear hR
    have HC0 := Lib.hid (HT1.out W HTB.out)
    have q00a : W.cell? ⟨w.heap.size, 0, none⟩ = some (.int .i64 k1) := by rw [(box_facts BK.out).1]; rfl
    have q00b : W.cell? ⟨w.heap.size, 1, none⟩ = some (.int .u64 k2) := by rw [(box_facts BK.out).1]; rfl
    go_wp2_with fail
    refine HC0.out.mono ?_
    rintro e v0 ⟨rfl, g0⟩
    replace BK := Lib.hid ((g0).heap BK.out id)
    replace HL := Lib.hid (HL.out.frame (g0) (fun _ _ _ => id))
    replace HTB := Lib.hid (HTB.out.fr (g0))
    replace HER := Lib.hid (HER.out.fr (g0))
    replace F0 := Lib.hid (F0.out.trans (g0))
    clear HC0 q00a q00b g0
    have HC1 := Lib.hid (HT2.out v0)
    have q10a : v0.cell? ⟨w.heap.size, 0, none⟩ = some (.int .i64 k1) := by rw [(box_facts BK.out).1]; rfl
    have q10b : v0.cell? ⟨w.heap.size, 1, none⟩ = some (.int .u64 k2) := by rw [(box_facts BK.out).1]; rfl
    go_wp2_with fail
    refine HC1.out.mono ?_
    rintro e v1 ⟨rfl, g1⟩
    replace BK := Lib.hid ((g1).heap BK.out id)
    replace HL := Lib.hid (HL.out.frame (g1) (fun _ _ _ => id))
    replace HTB := Lib.hid (HTB.out.fr (g1))
    replace HER := Lib.hid (HER.out.fr (g1))
    replace F0 := Lib.hid (F0.out.trans (g1))
    clear HC1 q10a q10b g1
    have HC2 := Lib.hid (HP1.out v1 HER.out HTB.out)
    go_wp2_with fail
    refine HC2.out.mono ?_
    rintro e v2 ⟨rfl, g2⟩
    replace BK := Lib.hid ((g2).heap BK.out id)
    replace HL := Lib.hid (HL.out.frame (g2) (fun _ _ _ => id))
    replace HTB := Lib.hid (HTB.out.fr (g2))
    replace HER := Lib.hid (HER.out.fr (g2))
    replace F0 := Lib.hid (F0.out.trans (g2))
    clear HC2 g2 HTB HER
    have h2 : Fr Non v2 (v2.alloc (.cells #[.int .i64 p1, .int .u64 p2] 25)) := (Fr.refl _ _).alloc _
    replace BK := Lib.hid ((h2).heap BK.out id)
    replace HL := Lib.hid (HL.out.frame (h2) (fun _ _ _ => id))
    replace F0 := Lib.hid (F0.out.trans (h2))
    have B2 := Lib.hid (alloc_at v2 (.cells #[.int .i64 p1, .int .u64 p2] 25))
    clear h2
    have HC3 := Lib.hid (HP2.out (v2.alloc (.cells #[.int .i64 p1, .int .u64 p2] 25)))
    go_wp2_with fail
    refine HC3.out.mono ?_
    rintro e v3 ⟨rfl, g3⟩
    replace BK := Lib.hid ((g3).heap BK.out id)
    replace B2 := Lib.hid ((g3).heap B2.out id)
    replace HL := Lib.hid (HL.out.frame (g3) (fun _ _ _ => id))
    replace F0 := Lib.hid (F0.out.trans (g3))
    clear HC3 g3
    have h3 : Fr Non v3 (v3.alloc (.cells #[.int .i64 p1, .int .u64 p2] 25)) := (Fr.refl _ _).alloc _
    replace BK := Lib.hid ((h3).heap BK.out id)
    replace B2 := Lib.hid ((h3).heap B2.out id)
    replace HL := Lib.hid (HL.out.frame (h3) (fun _ _ _ => id))
    replace F0 := Lib.hid (F0.out.trans (h3))
    have B3 := Lib.hid (alloc_at v3 (.cells #[.int .i64 p1, .int .u64 p2] 25))
    clear h3
    have HC4 := Lib.hid (HB1.out (v3.alloc (.cells #[.int .i64 p1, .int .u64 p2] 25)))
    have q40a : (v3.alloc (.cells #[.int .i64 p1, .int .u64 p2] 25)).cell? ⟨w.heap.size, 0, none⟩ = some (.int .i64 k1) := by rw [(box_facts BK.out).1]; rfl
    have q40b : (v3.alloc (.cells #[.int .i64 p1, .int .u64 p2] 25)).cell? ⟨w.heap.size, 1, none⟩ = some (.int .u64 k2) := by rw [(box_facts BK.out).1]; rfl
    go_wp2_with fail
    refine HC4.out.mono ?_
    rintro e v4 ⟨b4, rfl, hb4, g4⟩
    obtain ⟨a4, c4, rfl, _, _, _⟩ := sl_form hb4
    replace BK := Lib.hid ((g4).heap BK.out id)
    replace B2 := Lib.hid ((g4).heap B2.out id)
    replace B3 := Lib.hid ((g4).heap B3.out id)
    replace HL := Lib.hid (HL.out.frame (g4) (fun _ _ _ => id))
    replace F0 := Lib.hid (F0.out.trans (g4))
    have S4 := Lib.hid hb4
    clear HC4 q40a q40b g4 hb4
    have HC5 := Lib.hid (HB2.out v4)
    have q50a : v4.cell? ⟨w.heap.size, 0, none⟩ = some (.int .i64 k1) := by rw [(box_facts BK.out).1]; rfl
    have q50b : v4.cell? ⟨w.heap.size, 1, none⟩ = some (.int .u64 k2) := by rw [(box_facts BK.out).1]; rfl
    go_wp2_with fail
    refine HC5.out.mono ?_
    rintro e v5 ⟨b5, rfl, hb5, g5⟩
    obtain ⟨a5, c5, rfl, _, _, _⟩ := sl_form hb5
    replace BK := Lib.hid ((g5).heap BK.out id)
    replace B2 := Lib.hid ((g5).heap B2.out id)
    replace B3 := Lib.hid ((g5).heap B3.out id)
    replace HL := Lib.hid (HL.out.frame (g5) (fun _ _ _ => id))
    replace S4 := Lib.hid (S4.out.frame (g5) (fun _ _ _ => id))
    replace F0 := Lib.hid (F0.out.trans (g5))
    have S5 := Lib.hid hb5
    clear HC5 q50a q50b g5 hb5
    have HC6 := Lib.hid (read_any HL.out)
    rw [HRD.out] at HC6
    unfold pV kV at HC6
    go_wp2_with fail
    refine HC6.out.mono ?_
    rintro e v6 ⟨rfl, g6⟩
    replace BK := Lib.hid ((g6).heap BK.out id)
    replace B2 := Lib.hid ((g6).heap B2.out id)
    replace B3 := Lib.hid ((g6).heap B3.out id)
    replace HL := Lib.hid (HL.out.frame (g6) (fun _ _ _ => id))
    replace S4 := Lib.hid (S4.out.frame (g6) (fun _ _ _ => id))
    replace S5 := Lib.hid (S5.out.frame (g6) (fun _ _ _ => id))
    replace F0 := Lib.hid (F0.out.trans (g6))
    clear HC6 g6
    have h6 : Fr Non v6 (v6.alloc (.cells #[.int .i64 r1, .int .u64 r2] 25)) := (Fr.refl _ _).alloc _
    replace BK := Lib.hid ((h6).heap BK.out id)
    replace B2 := Lib.hid ((h6).heap B2.out id)
    replace B3 := Lib.hid ((h6).heap B3.out id)
    replace HL := Lib.hid (HL.out.frame (h6) (fun _ _ _ => id))
    replace S4 := Lib.hid (S4.out.frame (h6) (fun _ _ _ => id))
    replace S5 := Lib.hid (S5.out.frame (h6) (fun _ _ _ => id))
    replace F0 := Lib.hid (F0.out.trans (h6))
    have B6 := Lib.hid (alloc_at v6 (.cells #[.int .i64 r1, .int .u64 r2] 25))
    clear h6
    have HC7 := Lib.hid (rread_any HL.out)
    rw [HRD.out] at HC7
    unfold pV kV at HC7
    go_wp2_with fail
    refine HC7.out.mono ?_
    rintro e v7 ⟨rfl, g7⟩
    replace BK := Lib.hid ((g7).heap BK.out id)
    replace B2 := Lib.hid ((g7).heap B2.out id)
    replace B3 := Lib.hid ((g7).heap B3.out id)
    replace B6 := Lib.hid ((g7).heap B6.out id)
    replace HL := Lib.hid (HL.out.frame (g7) (fun _ _ _ => id))
    replace S4 := Lib.hid (S4.out.frame (g7) (fun _ _ _ => id))
    replace S5 := Lib.hid (S5.out.frame (g7) (fun _ _ _ => id))
    replace F0 := Lib.hid (F0.out.trans (g7))
    clear HC7 g7
    have h7 : Fr Non v7 (v7.alloc (.cells #[.int .i64 r1, .int .u64 r2] 25)) := (Fr.refl _ _).alloc _
    replace BK := Lib.hid ((h7).heap BK.out id)
    replace B2 := Lib.hid ((h7).heap B2.out id)
    replace B3 := Lib.hid ((h7).heap B3.out id)
    replace B6 := Lib.hid ((h7).heap B6.out id)
    replace HL := Lib.hid (HL.out.frame (h7) (fun _ _ _ => id))
    replace S4 := Lib.hid (S4.out.frame (h7) (fun _ _ _ => id))
    replace S5 := Lib.hid (S5.out.frame (h7) (fun _ _ _ => id))
    replace F0 := Lib.hid (F0.out.trans (h7))
    have B7 := Lib.hid (alloc_at v7 (.cells #[.int .i64 r1, .int .u64 r2] 25))
    clear h7
    have qz1a : (v7.alloc (.cells #[.int .i64 r1, .int .u64 r2] 25)).cell? ⟨v2.heap.size, 0, none⟩ = some (.int .i64 p1) := by rw [(box_facts B2.out).1]; rfl
    have qz1b : (v7.alloc (.cells #[.int .i64 r1, .int .u64 r2] 25)).cell? ⟨v2.heap.size, 1, none⟩ = some (.int .u64 p2) := by rw [(box_facts B2.out).1]; rfl
    have qz2a : (v7.alloc (.cells #[.int .i64 r1, .int .u64 r2] 25)).cell? ⟨v3.heap.size, 0, none⟩ = some (.int .i64 p1) := by rw [(box_facts B3.out).1]; rfl
    have qz2b : (v7.alloc (.cells #[.int .i64 r1, .int .u64 r2] 25)).cell? ⟨v3.heap.size, 1, none⟩ = some (.int .u64 p2) := by rw [(box_facts B3.out).1]; rfl
    have qz3a : (v7.alloc (.cells #[.int .i64 r1, .int .u64 r2] 25)).cell? ⟨v6.heap.size, 0, none⟩ = some (.int .i64 r1) := by rw [(box_facts B6.out).1]; rfl
    have qz3b : (v7.alloc (.cells #[.int .i64 r1, .int .u64 r2] 25)).cell? ⟨v6.heap.size, 1, none⟩ = some (.int .u64 r2) := by rw [(box_facts B6.out).1]; rfl
    have qz4a : (v7.alloc (.cells #[.int .i64 r1, .int .u64 r2] 25)).cell? ⟨v7.heap.size, 0, none⟩ = some (.int .i64 r1) := by rw [(box_facts B7.out).1]; rfl
    have qz4b : (v7.alloc (.cells #[.int .i64 r1, .int .u64 r2] 25)).cell? ⟨v7.heap.size, 1, none⟩ = some (.int .u64 r2) := by rw [(box_facts B7.out).1]; rfl
    have E1 := Lib.hid (fun w => eq_key (p1, p2) (p1, p2) w)
    have E2 := Lib.hid (fun w => eq_key (r1, r2) (r1, r2) w)
    unfold kV at E1 E2
    simp only [decide_true] at E1 E2
    have E1 := E1.out
    have E2 := E2.out
    have C1 := sl_text S4.out
    have C2 := sl_text S5.out
    clear HT2 HP2 HB1 HB2 HT1 HP1 BK B2 B3 B6 B7 HL S4 S5 HRD
    go_wp2_with fail
    refine (H0.out _).mono ?_
    rintro e v ⟨rfl, g⟩
    go_wp2_with fail
    go_ret
    exact ⟨by trivial, F0.out.trans g⟩
end Go.Proofs.YthjfnpojelfekaaDoor
