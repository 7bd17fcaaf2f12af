/-
  Keys: Parse, on both sides.
-/
import Derived.Test.YthjfnpojelfekaaDoorK21
import Derived.Laws.Bits64
import Derived.Laws.BitsAllLaws
import Derived.Deep.DeepCutAuto
namespace Go.Proofs.YthjfnpojelfekaaDoor
open Go.RowKit Go.Lib

/-- The library's two errors, laid. -/
def errs (w : World) : Prop := ∃ t0 p0 t1 p1, w.var? Tryd.prog "strconv.ErrSyntax" = some #[.iface t0 p0] ∧ w.var? Tryd.prog "strconv.ErrRange" = some #[.iface t1 p1]
theorem errs.fr {w w' : World} (h : errs w) (f : Fr Non w w') : errs w' := by
  obtain ⟨t0, p0, t1, p1, h0, h1⟩ := h
  exact ⟨t0, p0, t1, p1, var_fr h0 f, var_fr h1 f⟩
def pV (p : MK × Int) : Value := .tuple #[kV p.1, .int .i64 p.2]
theorem below_fr {w w' : World} (h : Below w.heap.size w w') : Fr Non w w' := (Fr.of_below h).mono (fun b hb h => by omega)
theorem uint_any (s : ByteArray) (hs : s.size ≤ 100000) (w : World) (he : errs w) : Calls Tryd.prog 50 #[.string s, .int .i64 10, .int .i64 64] w fun e w' =>
    Fr Non w w' ∧ ((∃ u : Nat, parseUintB 64 s.data.toList = .ok u ∧ e = .returned (.tuple #[.int .u64 (u : Int), .nilIface])) ∨ ((∀ u, parseUintB 64 s.data.toList ≠ .ok u) ∧ ∃ n t p, e = .returned (.tuple #[.int .u64 n, .iface t p]))) := by
  cases hp : parseUintB 64 s.data.toList with
  | ok u =>
    refine (Any.strconv_ParseUint_10_at64_ok Tryd.parseUint s (by omega) u hp w).mono ?_
    rintro e w' ⟨rfl, h⟩
    refine ⟨?_, .inl ⟨u, rfl, rfl⟩⟩
    rcases h with rfl | rfl
    · exact Fr.refl _ _
    · exact below_fr (Lib.bytesWorld_below w _ s)
  | «syntax» =>
    obtain ⟨t0, p0, t1, p1, h0, h1⟩ := he
    refine (Any.strconv_ParseUint_10_at64_syntax_var Tryd.parseUint s (by omega) hp t0 p0 w h0).mono ?_
    rintro e w' ⟨N, rfl, _, _, hb⟩
    exact ⟨below_fr hb, .inr ⟨(by intro u h; cases h), _, _, _, rfl⟩⟩
  | range =>
    obtain ⟨t0, p0, t1, p1, h0, h1⟩ := he
    refine (Any.strconv_ParseUint_10_at64_range_var Tryd.parseUint s (by omega) hp t1 p1 w h1).mono ?_
    rintro e w' ⟨N, rfl, _, _, hb⟩
    exact ⟨below_fr hb, .inr ⟨(by intro u h; cases h), _, _, _, rfl⟩⟩

set_option maxRecDepth 100000 in
set_option maxHeartbeats 4000000 in
theorem parse_any (s : ByteArray) (hs : s.size ≤ 300) (w : World) (he : errs w) (ht : pow10 w) : Calls Tryd.prog 33 #[.string s] w fun e w' => e = .returned (pV (kParse s.data.toList)) ∧ Fr Non w w' := by
  by_cases h1 : s.data.toList = [45]
  · obtain rfl := ba_eq h1
    rw [show kParse _ = ((1, 0), 0) by unfold kParse; rw [if_pos h1]]
    clear h1 he ht hs
    go_enter Tryd.func33, Tryd.ntmps33
    go_wp2
    refine bodyPost_ret (v := .tuple #[.agg #[.int .i64 1, .int .u64 0], .int .i64 0]) (by rw [results_cell_tmp rfl]; go_simp) rfl ⟨by trivial, ?_⟩
    first | exact (Fr.refl _ _).alloc _ | exact ((Fr.refl _ _).alloc _).put2 (by omega) _ _
  by_cases h2 : s.data.toList = [43]
  · obtain rfl := ba_eq h2
    rw [show kParse _ = ((3, 0), 0) by unfold kParse; rw [if_neg h1, if_pos h2]]
    clear h1 h2 he ht hs
    go_enter Tryd.func33, Tryd.ntmps33
    go_wp2
    refine bodyPost_ret (v := .tuple #[.agg #[.int .i64 3, .int .u64 0], .int .i64 0]) (by rw [results_cell_tmp rfl]; go_simp) rfl ⟨by trivial, ?_⟩
    first | exact (Fr.refl _ _).alloc _ | exact ((Fr.refl _ _).alloc _).put2 (by omega) _ _
  have f0 : Fr Non w (w.alloc (.cells #[.int .i64 0, .int .u64 0] 25)) := (Fr.refl _ _).alloc _
  have bR := alloc_at w (.cells #[.int .i64 0, .int .u64 0] 25)
  have HU := Lib.hid (uint_any s (by omega) _ (he.fr f0))
  have HT := Lib.hid (ht.fr f0)
  have H1 := Lib.hid h1
  have H2 := Lib.hid h2
  have n1 : (s.toList == [45]) = false := by rw [ByteArray.toList_eq]; simpa using h1
  have n2 : (s.toList == [43]) = false := by rw [ByteArray.toList_eq]; simpa using h2
  have m1 : ¬ s.toList = [45] := by rw [ByteArray.toList_eq]; exact h1
  have m2 : ¬ s.toList = [43] := by rw [ByteArray.toList_eq]; exact h2
  clear he ht h1 h2
  go_enter Tryd.func33, Tryd.ntmps33
  go_wp2_with fail
  refine HU.out.mono ?_
  rintro e w1 ⟨f1, hres⟩
  have w1R := Lib.hid (f1.heap bR id)
  have F1 := Lib.hid (f0.trans f1)
  have HT1 := Lib.hid (HT.out.fr f1)
  clear f0 f1 bR HU HT
  rcases hres with ⟨u, hu, rfl⟩ | ⟨hno, en, et, ep, rfl⟩
  · have hu64 : u < 18446744073709551616 := by
      have := parseUintB_le hu
      have e64 : 2 ^ 64 - 1 = 18446744073709551615 := by decide
      omega
    have HF := Lib.hid (fmt_any u hu64 w1 HT1.out)
    have HU := Lib.hid hu
    clear HT1 hu
    go_wp2_with fail
    refine HF.out.mono ?_
    rintro e w2 ⟨rfl, f2⟩
    have w2R := Lib.hid (f2.heap w1R.out id)
    have F2 := Lib.hid (F1.out.trans f2)
    clear HF w1R F1 f2
    by_cases hd : decDigits u = s.data.toList
    · have HS := Lib.hid (show kParse s.data.toList = ((2, (u : Int)), 0) by unfold kParse; rw [if_neg H1.out, if_neg H2.out, HU.out]; simp only; rw [if_pos hd])
      have es : (⟨(decDigits u).toArray⟩ : ByteArray) = s := by rw [hd]
      rw [es]
      clear es hd
      obtain ⟨r0, rz⟩ := box_facts w2R.out
      have e0 : w2.cell? ⟨w.heap.size, 0, none⟩ = some (.int .i64 0) := by rw [r0]; rfl
      have e1 : w2.cell? ⟨w.heap.size, 1, none⟩ = some (.int .u64 0) := by rw [r0]; rfl
      have z0 := rz 0
      have z1 := rz 1
      clear r0 rz
      go_wp2_with fail
      refine bodyPost_ret (v := .tuple #[.agg #[.int .i64 2, .int .u64 u], .int .i64 0]) (by rw [results_cell_tmp rfl]; go_simp) rfl ⟨by rw [HS.out]; rfl, F2.out.put2 (by omega) _ _⟩
    · have HS := Lib.hid (show kParse s.data.toList = ((0, 0), 20) by unfold kParse; rw [if_neg H1.out, if_neg H2.out, HU.out]; simp only; rw [if_neg hd])
      have q1 : ((⟨(decDigits u).toArray⟩ : ByteArray).toList == s.toList) = false := by rw [ByteArray.toList_eq, ByteArray.toList_eq]; simpa using hd
      generalize (⟨(decDigits u).toArray⟩ : ByteArray) = T at q1 ⊢
      have q2 : ¬ T.toList = s.toList := by simpa using q1
      clear hd
      obtain ⟨r0, rz⟩ := box_facts w2R.out
      have e0 : w2.cell? ⟨w.heap.size, 0, none⟩ = some (.int .i64 0) := by rw [r0]; rfl
      have e1 : w2.cell? ⟨w.heap.size, 1, none⟩ = some (.int .u64 0) := by rw [r0]; rfl
      have z0 := rz 0
      have z1 := rz 1
      clear r0 rz
      go_wp2_with fail
      refine bodyPost_ret (v := .tuple #[.agg #[.int .i64 0, .int .u64 0], .int .i64 20]) (by rw [results_cell_tmp rfl]; go_simp) rfl ⟨by rw [HS.out]; rfl, F2.out.put2 (by omega) _ _⟩
  · have HS := Lib.hid (show kParse s.data.toList = ((0, 0), 20) by
      unfold kParse
      rw [if_neg H1.out, if_neg H2.out]
      cases hp : parseUintB 64 s.data.toList with
      | ok u => exact absurd hp (hno u)
      | «syntax» => rfl
      | range => rfl)
    clear hno HT1
    obtain ⟨r0, rz⟩ := box_facts w1R.out
    have e0 : w1.cell? ⟨w.heap.size, 0, none⟩ = some (.int .i64 0) := by rw [r0]; rfl
    have e1 : w1.cell? ⟨w.heap.size, 1, none⟩ = some (.int .u64 0) := by rw [r0]; rfl
    have z0 := rz 0
    have z1 := rz 1
    clear r0 rz
    go_wp2_with fail
    refine bodyPost_ret (v := .tuple #[.agg #[.int .i64 0, .int .u64 0], .int .i64 20]) (by rw [results_cell_tmp rfl]; go_simp) rfl ⟨by rw [HS.out]; rfl, F1.out.put2 (by omega) _ _⟩
end Go.Proofs.YthjfnpojelfekaaDoor
