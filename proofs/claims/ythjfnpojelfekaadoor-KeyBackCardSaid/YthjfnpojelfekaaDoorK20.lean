/-
  Keys: texts of keys, on both sides.
-/
import Derived.Test.YthjfnpojelfekaaDoorK3
import Derived.Test.YthjfnpojelfekaaDoorK19
namespace Go.Proofs.YthjfnpojelfekaaDoor
open Go.RowKit

def kTxt (k : MK) : List UInt8 × Int := if kOk k = false then ([], 20) else if k.1 = 1 then ([45], 0) else if k.1 = 3 then ([43], 0) else (Lib.decDigits k.2.toNat, 0)
def tV (t : List UInt8 × Int) : Value := .tuple #[.string ⟨t.1.toArray⟩, .int .i64 t.2]

set_option maxRecDepth 100000 in
set_option maxHeartbeats 4000000 in
theorem text_any (w : World) (k : MK) (hk : kWf k) (ht : pow10 w) : Calls Tryd.prog 31 #[kV k] w fun e w' => e = .returned (tV (kTxt k)) ∧ Fr Non w w' := by
  have HC := Lib.hid (fun w => check_any w k)
  obtain ⟨r, n⟩ := k
  have hn := hk.2
  simp only at hn
  obtain ⟨u, rfl⟩ : ∃ u : Nat, n = (u : Int) := ⟨n.toNat, by omega⟩
  unfold kV at HC ⊢
  have bA := alloc_at w (.cells #[.int .i64 r, .int .u64 (u : Int)] 25)
  have f0 : Fr Non w (w.alloc (.cells #[.int .i64 r, .int .u64 (u : Int)] 25)) := (Fr.refl _ _).alloc _
  go_enter Tryd.func31, Tryd.ntmps31
  go_wp2_with fail
  refine (HC.out _).mono ?_
  rintro e w1 ⟨rfl, f1⟩
  obtain ⟨x0, _⟩ := box_facts (f1.heap bA id)
  have c0 : w1.cell? ⟨w.heap.size, 0, none⟩ = some (.int .i64 r) := by rw [x0]; rfl
  have c1 : w1.cell? ⟨w.heap.size, 1, none⟩ = some (.int .u64 (u : Int)) := by rw [x0]; rfl
  have F1 := Lib.hid (f0.trans f1)
  have HT := Lib.hid (ht.fr (f0.trans f1))
  clear ht
  clear x0 f0 f1 bA HC
  by_cases hok : kOk (r, (u : Int)) = true
  rotate_left
  · rw [show kChk (r, (u : Int)) = 20 by unfold kChk; rw [if_neg hok]]
    have hf : kOk (r, (u : Int)) = false := by simpa using hok
    have HS := Lib.hid (show kTxt (r, (u : Int)) = ([], 20) by unfold kTxt; rw [if_pos hf])
    clear hf hok
    go_wp2_with fail
    refine bodyPost_ret (v := .tuple #[.string ⟨#[]⟩, .int .i64 20]) (by simp [results, Tryd.results31, go_sem]) rfl ⟨by rw [HS.out]; rfl, F1.out⟩
  rw [show kChk (r, (u : Int)) = 0 by unfold kChk; rw [if_pos hok]]
  rcases kOk_ranks hok with rfl | ⟨rfl, hu⟩ | ⟨rfl, hu⟩
  · have HS := Lib.hid (show kTxt (2, (u : Int)) = (Lib.decDigits u, 0) by simp [kTxt, kOk])
    have HD := Lib.hid (fmt_any u (by omega) w1 HT.out)
    clear hok
    go_wp2_with fail
    refine HD.out.mono ?_
    rintro e w2 ⟨rfl, f2⟩
    go_wp2_with fail
    refine bodyPost_ret (v := .tuple #[.string ⟨(Lib.decDigits u).toArray⟩, .int .i64 0]) (by simp [results, Tryd.results31, go_sem]) rfl ⟨by rw [HS.out]; rfl, F1.out.trans f2⟩
  · have HS := Lib.hid (show kTxt (1, (u : Int)) = ([45], 0) by rw [hu]; rfl)
    clear hok
    go_wp2_with fail
    refine bodyPost_ret (v := .tuple #[.string ⟨#[45]⟩, .int .i64 0]) (by simp [results, Tryd.results31, go_sem]) rfl ⟨by rw [HS.out]; rfl, F1.out⟩
  · have HS := Lib.hid (show kTxt (3, (u : Int)) = ([43], 0) by rw [hu]; rfl)
    clear hok
    go_wp2_with fail
    refine bodyPost_ret (v := .tuple #[.string ⟨#[43]⟩, .int .i64 0]) (by simp [results, Tryd.results31, go_sem]) rfl ⟨by rw [HS.out]; rfl, F1.out⟩

set_option maxRecDepth 100000 in
set_option maxHeartbeats 4000000 in
theorem rtext_any (w : World) (k : MK) (hk : kWf k) : Calls Tryd.prog 32 #[kV k] w fun e w' => e = .returned (tV (kTxt k)) ∧ Fr Non w w' := by
  have HC := Lib.hid (fun w => rcheck_any w k)
  obtain ⟨r, n⟩ := k
  have hn := hk.2
  simp only at hn
  obtain ⟨u, rfl⟩ : ∃ u : Nat, n = (u : Int) := ⟨n.toNat, by omega⟩
  unfold kV at HC ⊢
  have bA := alloc_at w (.cells #[.int .i64 r, .int .u64 (u : Int)] 25)
  have f0 : Fr Non w (w.alloc (.cells #[.int .i64 r, .int .u64 (u : Int)] 25)) := (Fr.refl _ _).alloc _
  go_enter Tryd.func32, Tryd.ntmps32
  go_wp2_with fail
  refine (HC.out _).mono ?_
  rintro e w1 ⟨rfl, f1⟩
  obtain ⟨x0, _⟩ := box_facts (f1.heap bA id)
  have c0 : w1.cell? ⟨w.heap.size, 0, none⟩ = some (.int .i64 r) := by rw [x0]; rfl
  have c1 : w1.cell? ⟨w.heap.size, 1, none⟩ = some (.int .u64 (u : Int)) := by rw [x0]; rfl
  have F1 := Lib.hid (f0.trans f1)
  clear x0 f0 f1 bA HC
  by_cases hok : kOk (r, (u : Int)) = true
  rotate_left
  · rw [show kChk (r, (u : Int)) = 20 by unfold kChk; rw [if_neg hok]]
    have hf : kOk (r, (u : Int)) = false := by simpa using hok
    have HS := Lib.hid (show kTxt (r, (u : Int)) = ([], 20) by unfold kTxt; rw [if_pos hf])
    clear hf hok
    go_wp2_with fail
    refine bodyPost_ret (v := .tuple #[.string ⟨#[]⟩, .int .i64 20]) (by simp [results, Tryd.results32, go_sem]) rfl ⟨by rw [HS.out]; rfl, F1.out⟩
  rw [show kChk (r, (u : Int)) = 0 by unfold kChk; rw [if_pos hok]]
  rcases kOk_ranks hok with rfl | ⟨rfl, hu⟩ | ⟨rfl, hu⟩
  · have HS := Lib.hid (show kTxt (2, (u : Int)) = (Lib.decDigits u, 0) by simp [kTxt, kOk])
    have HD := Lib.hid (digits_any u (by omega) w1)
    clear hok
    go_wp2_with fail
    refine HD.out.mono ?_
    rintro e w2 ⟨rfl, f2⟩
    go_wp2_with fail
    refine bodyPost_ret (v := .tuple #[.string ⟨(Lib.decDigits u).toArray⟩, .int .i64 0]) (by simp [results, Tryd.results32, go_sem]) rfl ⟨by rw [HS.out]; rfl, F1.out.trans f2⟩
  · have HS := Lib.hid (show kTxt (1, (u : Int)) = ([45], 0) by rw [hu]; rfl)
    clear hok
    go_wp2_with fail
    refine bodyPost_ret (v := .tuple #[.string ⟨#[45]⟩, .int .i64 0]) (by simp [results, Tryd.results32, go_sem]) rfl ⟨by rw [HS.out]; rfl, F1.out⟩
  · have HS := Lib.hid (show kTxt (3, (u : Int)) = ([43], 0) by rw [hu]; rfl)
    clear hok
    go_wp2_with fail
    refine bodyPost_ret (v := .tuple #[.string ⟨#[43]⟩, .int .i64 0]) (by simp [results, Tryd.results32, go_sem]) rfl ⟨by rw [HS.out]; rfl, F1.out⟩

end Go.Proofs.YthjfnpojelfekaaDoor
