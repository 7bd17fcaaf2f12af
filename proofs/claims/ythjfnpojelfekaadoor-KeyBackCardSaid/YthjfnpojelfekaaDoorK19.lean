/-
  Keys: the reference's digits.
-/
import Derived.Test.YthjfnpojelfekaaDoorK18
import Derived.Deep.DeepCutAuto
namespace Go.Proofs.YthjfnpojelfekaaDoor
open Go.RowKit

theorem dec_small {u : Nat} (h : u < 10) : Lib.decDigits u = [UInt8.ofNat (48 + u)] := by rw [Lib.decDigits]; simp [h]
theorem dec_big {u : Nat} (h : ¬ u < 10) : Lib.decDigits u = Lib.decDigits (u / 10) ++ [UInt8.ofNat (48 + u % 10)] := by rw [Lib.decDigits]; simp [h]
/-- What is left over of the digits. -/
def decRest (m : Nat) : List UInt8 := if m = 0 then [] else Lib.decDigits m
theorem dec_step (u : Nat) : Lib.decDigits u = decRest (u / 10) ++ [UInt8.ofNat (48 + u % 10)] := by
  unfold decRest
  by_cases h : u < 10
  · rw [dec_small h, if_pos (by omega), Nat.mod_eq_of_lt h]
    rfl
  · rw [dec_big h, if_neg (by omega)]
theorem ba_eq {a : ByteArray} {l : List UInt8} (h : a.data.toList = l) : a = ⟨l.toArray⟩ := by
  subst h
  cases a
  simp
theorem dec_len (u : Nat) (h2 : u < 18446744073709551616) : (Lib.decDigits u).length ≤ 20 := by
  by_cases h : 1 ≤ u
  · rw [Lib.decDigits_length]; exact fmt20 h h2
  · obtain rfl : u = 0 := by omega
    rw [dec_small (by omega)]
    simp
theorem ba_app (a b : ByteArray) : (a ++ b).data.toList = a.data.toList ++ b.data.toList := by simp
/-- One byte, as a text. -/
theorem one_text (w : World) (c : Nat) (hc : c < 256) : (convert 41 9 (.slice (some ⟨w.heap.size, 0, none⟩) 1 1)).run Tryd.prog (w.alloc (.cells #[.int .u8 (c : Int)] 5)) = .ok (.string ⟨#[UInt8.ofNat c]⟩) (w.alloc (.cells #[.int .u8 (c : Int)] 5)) := by
  have h := run_convert_bytes_back (P := Tryd.prog) (w.alloc (.cells #[.int .u8 (c : Int)] 5)) 41 9 5 ⟨w.heap.size, 0, none⟩ 1 [UInt8.ofNat c] Tryd.underlying41 Tryd.underlying5 Tryd.underlying9 (fun j hj => by
    obtain rfl : j = 0 := by simpa using hj
    rw [addr_add, cell_of_row _ w.heap.size _ _ _ _ (alloc_at w _)]
    simp
    omega)
  exact h

set_option maxRecDepth 100000 in
set_option maxHeartbeats 4000000 in
theorem digits_any (u : Nat) (h2 : u < 18446744073709551616) (w : World) : Calls Tryd.prog 49 #[.int .u64 u] w fun e w' => e = .returned (.string ⟨(Lib.decDigits u).toArray⟩) ∧ Fr Non w w' := by
  have HD := Lib.hid (dec_step u)
  have HT := Lib.hid (one_text w (48 + u % 10) (by omega))
  have W1 : IntKind.u64.wrap (48 + (u : Int) % 10) = 48 + (u : Int) % 10 := by rw [IntWalk.u64_in _ (by omega)]
  have W2 : IntKind.u8.wrap (48 + (u : Int) % 10) = 48 + (u : Int) % 10 := by rw [IntWalk.u8_in _ (by omega)]
  have ht := HT.out
  rw [show ((48 + u % 10 : Nat) : Int) = 48 + (u : Int) % 10 by omega] at ht
  go_enter Tryd.func49, Tryd.ntmps49
  go_wp2_with fail
  clear HT ht W1 W2
  go_loopw [0, 3] (fun x s wr => ∃ (m : Nat) (S : ByteArray), m < 18446744073709551616 ∧ x = .int .u64 m ∧ s = .string S ∧ Hid (Lib.decDigits u = decRest m ++ S.data.toList ∧ Fr Non w wr)) (fun x _ _ => (intOf x).toNat)
  case atStart => exact ⟨u / 10, _, by omega, by simp, rfl, by have := HD.out; simp at this ⊢; exact this, (Fr.refl _ _).alloc _⟩
  case round =>
    obtain ⟨m, S, hm, rfl, rfl, HI⟩ := hrel
    by_cases h0 : m = 0
    · subst h0
      go_wp2_with fail
      go_ret
      refine ⟨?_, HI.out.2⟩
      rw [← ba_eq (a := S) (l := Lib.decDigits u) (by rw [HI.out.1]; simp [decRest])]
      trivial
    · have HM := Lib.hid (show decRest m = decRest (m / 10) ++ [UInt8.ofNat (48 + m % 10)] by rw [← dec_step]; unfold decRest; rw [if_neg h0])
      have i0 : (0 : Int) < (m : Int) := by omega
      have i1 : 0 < m := by omega
      have hsz : S.size ≤ 20 := by
        have h := dec_len u h2
        rw [HI.out.1, List.length_append] at h
        have e : S.data.toList.length = S.size := by simp
        omega
      have s0 : ¬ 9223372036854775807 < 1 + S.size := by omega
      have gd : decide (0 < m) = true := decide_eq_true i1
      have ht := one_text wr (48 + m % 10) (by omega)
      rw [show ((48 + m % 10 : Nat) : Int) = 48 + (m : Int) % 10 by omega] at ht
      have W1 : IntKind.u64.wrap (48 + (m : Int) % 10) = 48 + (m : Int) % 10 := by rw [IntWalk.u64_in _ (by omega)]
      have W2 : IntKind.u8.wrap (48 + (m : Int) % 10) = 48 + (m : Int) % 10 := by rw [IntWalk.u8_in _ (by omega)]
      go_wp2_with fail
      go_roundw
      case rel =>
        refine ⟨m / 10, _, by omega, by simp, rfl, ?_, HI.out.2.trans ((Fr.refl _ _).alloc _)⟩
        rw [HI.out.1, HM.out, ba_app]
        simp
      case measure => simp [intOf]; omega
end Go.Proofs.YthjfnpojelfekaaDoor
