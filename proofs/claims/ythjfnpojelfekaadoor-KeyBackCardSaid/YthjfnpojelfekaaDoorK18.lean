/-
  Keys: strconv.FormatUint at base 10, by the shelf's contracts of its parts.
-/
import Derived.Test.YthjfnpojelfekaaDoorK4
import Derived.Test.YthjfnpojelfekaaDoorKM
namespace Go.Proofs.YthjfnpojelfekaaDoor
open Go.RowKit Go.Shelf Go.Lib Go.Sort

def pow10 (w : World) : Prop := Lib.TabIs Tryd.prog w "internal/strconv.uint64pow10" .u64 Lib.pow10Tab
theorem var_fr {w w' : World} {n : String} {cs : Array Value} (h : w.var? Tryd.prog n = some cs) (f : Fr Non w w') : w'.var? Tryd.prog n = some cs := by
  unfold World.var? at h ⊢
  cases hg : Tryd.prog.globalNamed n with
  | none => rw [hg] at h; simp at h
  | some g =>
    rw [hg] at h
    simp only [Option.bind_some] at h ⊢
    cases hh : w.heap[g]? with
    | none => rw [hh] at h; simp at h
    | some o =>
      have hlt : g < w.heap.size := by
        rcases Nat.lt_or_ge g w.heap.size with h1 | h1
        · exact h1
        · rw [Array.getElem?_eq_none h1] at hh; cases hh
      rw [f.block g hlt id, hh]
      rw [hh] at h
      exact h
theorem pow10.fr {w w' : World} (h : pow10 w) (f : Fr Non w w') : pow10 w' := var_fr h f
theorem fmt20 {u : Nat} (h : 1 ≤ u) (h2 : u < 18446744073709551616) : Lib.nDigits u ≤ 20 := by
  have := Lib.numDigits_eq u h h2
  split at this <;> omega
def zer24 : Array Value := #[.int .u8 0, .int .u8 0, .int .u8 0, .int .u8 0, .int .u8 0, .int .u8 0, .int .u8 0, .int .u8 0, .int .u8 0, .int .u8 0, .int .u8 0, .int .u8 0, .int .u8 0, .int .u8 0, .int .u8 0, .int .u8 0, .int .u8 0, .int .u8 0, .int .u8 0, .int .u8 0, .int .u8 0, .int .u8 0, .int .u8 0, .int .u8 0]
theorem zer24_eq : zer24 = Lib.zeros24 := by rfl
theorem holds24 (w : World) (n : Nat) (hn : n ≤ 24) : Holds (fun (b : UInt8) => Value.int .u8 (b.toNat : Int)) (w.alloc (.cells zer24 82)) w.heap.size 0 (Array.replicate n (0 : UInt8)) := by
  intro j hj
  have hj2 : j < n := by simpa using hj
  rw [zer24_eq]
  refine ⟨?_, World.frozen?_alloc_new _ _ _ _⟩
  rw [Nat.zero_add, World.cell?_alloc_new, Lib.zeros24_at _ (by omega), getElem!_pos _ j hj]
  simp
theorem putRow_fr (w : World) (g k : Nat) (dk : Array UInt8) (w0 : World) (f : Fr Non w0 w) (hg : w0.heap.size ≤ g) : Fr Non w0 ((putRow (fun (b : UInt8) => Value.int .u8 (b.toNat : Int)) w g 0 dk).drewN k) := by
  refine f.trans2 (U := fun b => b = g) ?_ (fun b hb e => by omega)
  unfold putRow mapBlock World.drewN
  refine ⟨rfl, rfl, rfl, by simp, fun k hk hn => ?_⟩
  simp only
  rw [Array.getElem?_modify, if_neg (fun e => hn e.symm)]

set_option maxRecDepth 100000 in
set_option maxHeartbeats 4000000 in
theorem fmtIn_any (u : Nat) (h2 : u < 18446744073709551616) (w : World) (ht : pow10 w) : Calls Tryd.prog 55 #[.int .u64 u, .int .i64 10] w fun e w' => e = .returned (.string ⟨(Lib.decDigits u).toArray⟩) ∧ Fr Non w w' := by
  by_cases hs : u < 100
  · have hsm := fun w => Any.internal_strconv_small Tryd.small u hs w
    change ∀ w, Calls Tryd.prog 68 _ _ _ at hsm
    have HSM := Lib.hid hsm
    have i1 : (u : Int) < 100 := by omega
    have W1 : IntKind.i64.wrap (u : Int) = (u : Int) := by rw [IntWalk.i64_in _ (by omega)]
    clear hsm
    go_enter Tryd.func55, Tryd.ntmps55
    go_wp2_with fail
    refine (HSM.out _).mono ?_
    rintro e w' ⟨rfl, rfl⟩
    go_wp2_with fail
    go_ret
    exact ⟨by trivial, Fr.refl _ _⟩
  · have hu1 : 1 ≤ u := by omega
    have hnd := fmt20 hu1 h2
    have hndc := fun w (h : pow10 w) => Any.internal_strconv_numDigits Tryd.numDigits u hu1 h2 w h
    change ∀ w, pow10 w → Calls Tryd.prog 69 _ _ _ at hndc
    have HND := Lib.hid hndc
    have hH0 := holds24 w (Lib.nDigits u) (by omega)
    have hfmt := Any.internal_strconv_formatBase10 Tryd.formatBase10 w.heap.size 0 24 u (Array.replicate (Lib.nDigits u) 0) (w.alloc (.cells zer24 82)) hH0 (by rw [Array.size_replicate]; exact Lib.lt_pow_nDigits u) h2 (by rw [Array.size_replicate]; omega)
    change Calls Tryd.prog 70 _ _ _ at hfmt
    rw [Array.size_replicate] at hfmt
    have HFM := Lib.hid hfmt
    have HH0 := Lib.hid hH0
    have HT := Lib.hid (ht.fr ((Fr.refl Non w).alloc (.cells zer24 82)))
    have HNL := Lib.hid (Lib.decDigits_length u)
    obtain ⟨D, hD⟩ : ∃ D, Lib.nDigits u = D := ⟨_, rfl⟩
    rw [hD] at HND HFM HNL hnd
    have hDD := Lib.hid hD
    have i1 : ¬ (u : Int) < 100 := by omega
    have i2 : (D : Int) ≤ 24 := by omega
    have i3 : D ≤ 24 := by omega
    unfold zer24 at HT HFM
    clear hndc hfmt hH0 hD ht hs
    go_enter Tryd.func55, Tryd.ntmps55
    go_wp2_with fail
    refine (HND.out _ HT.out).mono ?_
    rintro e w' ⟨rfl, rfl⟩
    have hsl : ∀ W, (Instr.sliceAt 82 (.pointer (some ⟨w.heap.size, 0, none⟩)) none (some (.int .i64 (D : Int))) none).run Tryd.prog W = .ok (.slice (some ⟨w.heap.size, 0, none⟩) D 24) W := fun W => by
      rw [run_sliceAt_array_h W 82 ⟨w.heap.size, 0, none⟩ (by simp [Program.arrayLen, Program.elem, Tryd.underlying82]) .i64 (D : Int) (by omega) (by simp [Program.arrayLen, Tryd.underlying82]; omega)]
      have he : Tryd.prog.elem 82 = 5 := by simp [Program.elem, Tryd.underlying82]
      have hl : Tryd.prog.arrayLen 82 = 24 := by simp [Program.arrayLen, Tryd.underlying82]
      have z5 := Tryd.sizeOf5
      rw [he, hl]
      go_simp
    clear HND HT
    go_wp2_with fail
    refine HFM.out.mono ?_
    rintro e w1 ⟨rfl, k, v', dk, rfl, hF⟩
    have hcv : (convert 41 9 (.slice (some ⟨w.heap.size, 0, none⟩) D 24)).run Tryd.prog ((putRow (fun (b : UInt8) => Value.int .u8 (b.toNat : Int)) (w.alloc (.cells zer24 82)) w.heap.size 0 dk).drewN k) = .ok (.string ⟨(Lib.decDigits u).toArray⟩) ((putRow (fun (b : UInt8) => Value.int .u8 (b.toNat : Int)) (w.alloc (.cells zer24 82)) w.heap.size 0 dk).drewN k) := by
      have h := run_convert_bytes_back (P := Tryd.prog) ((putRow (fun (b : UInt8) => Value.int .u8 (b.toNat : Int)) (w.alloc (.cells zer24 82)) w.heap.size 0 dk).drewN k) 41 9 5 ⟨w.heap.size, 0, none⟩ 24 (Lib.decDigits u) Tryd.underlying41 Tryd.underlying5 Tryd.underlying9 (fun j hj => by
        have hj2 : j < D := by rw [← HNL.out]; exact hj
        have hF2 := hF
        rw [← hDD.out] at hF2
        rw [Lib.row_is_numeral hF2 j hj, Lib.add_plain, World.cell?_drewN]
        exact cell?_putRow (fun (b : UInt8) => Value.int .u8 (b.toNat : Int)) _ w.heap.size 0 _ dk HH0.out (by rw [hF.size, Array.size_replicate, hDD.out]) j (by rw [hF.size]; exact hj2))
      rw [HNL.out] at h
      exact h
    have FP := Lib.hid (putRow_fr (w.alloc (.cells zer24 82)) w.heap.size k dk w ((Fr.refl _ _).alloc _) (Nat.le_refl _))
    unfold zer24 at hcv FP
    clear hF HH0 HFM HNL hDD
    go_wp2_with fail
    go_ret
    exact ⟨by trivial, FP.out⟩

set_option maxRecDepth 100000 in
set_option maxHeartbeats 1000000 in
theorem fmt_any (u : Nat) (h2 : u < 18446744073709551616) (w : World) (ht : pow10 w) : Calls Tryd.prog 48 #[.int .u64 u, .int .i64 10] w fun e w' => e = .returned (.string ⟨(Lib.decDigits u).toArray⟩) ∧ Fr Non w w' := by
  have H := Lib.hid (fmtIn_any u h2 w ht)
  clear ht
  go_enter Tryd.func48, Tryd.ntmps48
  go_wp2_with fail
  refine H.out.mono ?_
  rintro e w' ⟨rfl, f⟩
  go_wp2_with fail
  go_ret
  exact ⟨by trivial, f⟩
end Go.Proofs.YthjfnpojelfekaaDoor
