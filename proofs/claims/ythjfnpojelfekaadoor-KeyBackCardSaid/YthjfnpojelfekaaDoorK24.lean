/-
  Keys: bytes of keys, on both sides.
-/
import Derived.Test.YthjfnpojelfekaaDoorK23
namespace Go.Proofs.YthjfnpojelfekaaDoor
open Go.RowKit

def bcs (l : List UInt8) : List Value := l.map fun x => .int .u8 (x.toNat : Int)
def byteAt (u j : Nat) : UInt8 := UInt8.ofNat (u / 2 ^ (56 - 8 * j) % 256)
def bytesTo (r : Int) (u j : Nat) : List UInt8 := UInt8.ofNat r.toNat :: (List.range j).map (byteAt u)
def kBytes (k : MK) : List UInt8 := if kOk k = false then [] else bytesTo k.1 k.2.toNat 8
theorem bytesTo_len (r : Int) (u j : Nat) : (bytesTo r u j).length = 1 + j := by simp [bytesTo]; omega
theorem bytesTo_next (r : Int) (u j : Nat) : bytesTo r u (j + 1) = bytesTo r u j ++ [byteAt u j] := by simp [bytesTo, List.range_succ]
theorem byteAt_toNat (u j : Nat) : (byteAt u j).toNat = u / 2 ^ (56 - 8 * j) % 256 := by unfold byteAt; rw [UInt8.toNat_ofNat']; omega
theorem eI5 : ElemInfo Tryd.prog 41 5 1 1 := elemInfo (z := .int .u8 0) Tryd.underlying41 (by kernel_rfl) rfl (by decide)
/-- A row that was built, read as bytes. -/
theorem GRow.sl {w : World} {v : Value} {n : Nat} {l : List UInt8} {S : Nat → Prop} (h : GRow w 5 1 v n (bcs l)) (hS : ∀ b, v.ownBlock = some b → S b) : Sl kByte S w v l := by
  have hc := fun g => GRow.cells h (g := g)
  obtain ⟨hl, h⟩ := h
  have hn : n = l.length := by simpa [bcs] using hl.symm
  subst hn
  rcases h with ⟨rfl, h0⟩ | ⟨g, cap, cur, rfl, hg, h1, h2, _⟩
  · exact .inl ⟨rfl, List.eq_nil_of_length_eq_zero h0⟩
  · refine .inr ⟨_, cap, rfl, h1, h2, fun _ => ⟨rfl, hS g rfl⟩, fun i hi => ⟨[.int .u8 (l[i].toNat : Int)], rfl, fun j hj => ?_⟩⟩
    obtain rfl : j = 0 := by simpa using hj
    have := hc g rfl i (.int .u8 (l[i].toNat : Int)) (by simp [bcs, hi])
    simpa [kByte] using this
set_option maxRecDepth 100000 in
set_option maxHeartbeats 4000000 in
theorem bytes_any (w : World) (k : MK) (hk : kWf k) : Calls Tryd.prog 35 #[kV k] w fun e w' => ∃ v, e = .returned (.tuple #[v, .int .i64 (kChk k)]) ∧ Sl kByte (fun b => w.heap.size < b) w' v (kBytes k) ∧ Fr Non w w' := by
  have HC := Lib.hid (fun w => check_any w k)
  obtain ⟨r, n⟩ := k
  have hn := hk.2
  simp only at hn
  obtain ⟨u, rfl⟩ : ∃ u : Nat, n = (u : Int) := ⟨n.toNat, by omega⟩
  unfold kV at HC ⊢
  have bA := alloc_at w (.cells #[.int .i64 r, .int .u64 (u : Int)] 25)
  have f0 : Fr Non w (w.alloc (.cells #[.int .i64 r, .int .u64 (u : Int)] 25)) := (Fr.refl _ _).alloc _
  go_enter Tryd.func35, Tryd.ntmps35
  go_wp2_with fail
  refine (HC.out _).mono ?_
  rintro e w1 ⟨rfl, f1⟩
  have w1B := Lib.hid (f1.heap bA id)
  have F1 := Lib.hid (f0.trans f1)
  clear f0 f1 bA HC
  by_cases hok : kOk (r, (u : Int)) = true
  rotate_left
  · rw [show kChk (r, (u : Int)) = 20 by unfold kChk; rw [if_neg hok]]
    have hf : kOk (r, (u : Int)) = false := by simpa using hok
    have HE := Lib.hid (show kChk (r, (u : Int)) = 20 by unfold kChk; rw [if_neg hok])
    have HS := Lib.hid (show kBytes (r, (u : Int)) = [] by unfold kBytes; rw [if_pos hf])
    clear hf hok
    go_wp2_with fail
    refine bodyPost_ret (v := .tuple #[.slice none 0 0, .int .i64 20]) (by simp [results, Tryd.results35, go_sem]) rfl ⟨.slice none 0 0, by rw [HE.out], .inl ⟨rfl, HS.out⟩, F1.out⟩
  rw [show kChk (r, (u : Int)) = 0 by unfold kChk; rw [if_pos hok]]
  have HE := Lib.hid (show kChk (r, (u : Int)) = 0 by unfold kChk; rw [if_pos hok])
  have HS := Lib.hid (show kBytes (r, (u : Int)) = bytesTo r u 8 by unfold kBytes; rw [if_neg (by rw [hok]; simp)]; rfl)
  have hr : 0 ≤ r ∧ r < 256 := by rcases kOk_ranks hok with rfl | ⟨rfl, _⟩ | ⟨rfl, _⟩ <;> omega
  clear hok
  obtain ⟨x0, x1⟩ := box_facts w1B.out
  have c0 : w1.cell? ⟨w.heap.size, 0, none⟩ = some (.int .i64 r) := by rw [x0]; rfl
  have z0 := x1 0
  clear x0 x1
  have hW : IntKind.u8.wrap r = r := by rw [IntWalk.u8_in _ (by omega)]
  have hm : r % 256 = r := by omega
  have hz := lt_of_block w1B.out
  go_wp2_with fail
  go_loopw [5, 6] (fun v i wr => ∃ j : Nat, j ≤ 8 ∧ i = .int .i64 (56 - 8 * (j : Int)) ∧ Hid (GRow wr 5 1 v (1 + j) (bcs (bytesTo r u j)) ∧ Fr Non w1 wr ∧ ∀ b, v.ownBlock = some b → w1.heap.size ≤ b)) (fun _ i _ => (RowKit.intOf i + 8).toNat)
  case atStart =>
    refine ⟨0, by omega, by go_num, ?_, (Fr.refl _ _).alloc _, by simp [Value.ownBlock]⟩
    have e : (((UInt8.ofNat r.toNat).toNat : Nat) : Int) = r := by rw [UInt8.toNat_ofNat']; omega
    exact ⟨by simp [bcs, bytesTo], .inr ⟨w1.heap.size, 1, _, rfl, alloc_at w1 _, by omega, by decide, by simp, by simp [bcs, bytesTo]; omega⟩⟩
  case round =>
    obtain ⟨j, hj, rfl, HI⟩ := hrel
    obtain ⟨g1, f2, g3⟩ := HI.out
    have wB := Lib.hid (f2.heap w1B.out id)
    by_cases hlt : j < 8
    · obtain ⟨x0, x1⟩ := box_facts wB.out
      have c1 : wr.cell? ⟨w.heap.size, 1, none⟩ = some (.int .u64 (u : Int)) := by rw [x0]; rfl
      have z1 := x1 1
      clear x0 x1
      have i0 : (0 : Int) ≤ 56 - 8 * (j : Int) := by omega
      go_wp2_with (at_builtin; refine wpList_append_g rfl _ _ eI5 rfl _ _ _ rfl (g1.keep fun b hb => ?k1) _ 1 [.int .u8 ((u : Int) / 2 ^ (56 - 8 * j) % 256)] rfl (Src.block (m := 1) (alloc_at wr _) rfl (by simp [Value.oneCell'])) ?k2 ?k3 ?_)
      case k1 => exact Below.heap_alloc _ _ _ (g1.lt b hb)
      case k2 => unfold maxLen; omega
      case k3 => omega
      intro v' w2 r1 r2 r3
      go_wp2_with fail
      go_roundw
      case rel =>
        refine ⟨j + 1, by omega, by go_num, ?_, ?_, ?_⟩
        · have e : (((byteAt u j).toNat : Nat) : Int) = (u : Int) / 2 ^ (56 - 8 * j) % 256 := by rw [byteAt_toNat, show 56 - 8 * j = 56 - 8 * j by omega]; norm_cast
          rw [bytesTo_next]
          simpa [bcs, e, Nat.add_assoc] using r1
        · exact (f2.alloc _).trans2 r2 (fun b hb hx => by have := g3 b hx; omega)
        · intro b hb
          rcases r3 with r3 | ⟨r3, _⟩
          · exact g3 b (r3 ▸ hb)
          · rw [r3] at hb; cases hb; have := f2.size; simp; omega
      case measure => simp [RowKit.intOf]; omega
    · obtain rfl : j = 8 := by omega
      clear hlt
      go_wp2_with fail
      refine bodyPost_ret (v := .tuple #[_, .int .i64 0]) (by simp [results, Tryd.results35, go_sem]; rfl) rfl ⟨_, by rw [HE.out], ?_, F1.out.trans f2⟩
      rw [HS.out]
      exact GRow.sl g1 fun b hb => by have := g3 b hb; omega
set_option maxRecDepth 100000 in
set_option maxHeartbeats 4000000 in
theorem rbytes_any (w : World) (k : MK) (hk : kWf k) : Calls Tryd.prog 36 #[kV k] w fun e w' => ∃ v, e = .returned (.tuple #[v, .int .i64 (kChk k)]) ∧ Sl kByte (fun b => w.heap.size < b) w' v (kBytes k) ∧ Fr Non w w' := by
  have HC := Lib.hid (fun w => rcheck_any w k)
  obtain ⟨r, n⟩ := k
  have hn := hk.2
  simp only at hn
  obtain ⟨u, rfl⟩ : ∃ u : Nat, n = (u : Int) := ⟨n.toNat, by omega⟩
  unfold kV at HC ⊢
  have bA := alloc_at w (.cells #[.int .i64 r, .int .u64 (u : Int)] 25)
  have f0 : Fr Non w (w.alloc (.cells #[.int .i64 r, .int .u64 (u : Int)] 25)) := (Fr.refl _ _).alloc _
  go_enter Tryd.func36, Tryd.ntmps36
  go_wp2_with fail
  refine (HC.out _).mono ?_
  rintro e w1 ⟨rfl, f1⟩
  have w1B := Lib.hid (f1.heap bA id)
  have F1 := Lib.hid (f0.trans f1)
  clear f0 f1 bA HC
  by_cases hok : kOk (r, (u : Int)) = true
  rotate_left
  · rw [show kChk (r, (u : Int)) = 20 by unfold kChk; rw [if_neg hok]]
    have hf : kOk (r, (u : Int)) = false := by simpa using hok
    have HE := Lib.hid (show kChk (r, (u : Int)) = 20 by unfold kChk; rw [if_neg hok])
    have HS := Lib.hid (show kBytes (r, (u : Int)) = [] by unfold kBytes; rw [if_pos hf])
    clear hf hok
    go_wp2_with fail
    refine bodyPost_ret (v := .tuple #[.slice none 0 0, .int .i64 20]) (by simp [results, Tryd.results36, go_sem]) rfl ⟨.slice none 0 0, by rw [HE.out], .inl ⟨rfl, HS.out⟩, F1.out⟩
  rw [show kChk (r, (u : Int)) = 0 by unfold kChk; rw [if_pos hok]]
  have HE := Lib.hid (show kChk (r, (u : Int)) = 0 by unfold kChk; rw [if_pos hok])
  have HS := Lib.hid (show kBytes (r, (u : Int)) = bytesTo r u 8 by unfold kBytes; rw [if_neg (by rw [hok]; simp)]; rfl)
  have hr : 0 ≤ r ∧ r < 256 := by rcases kOk_ranks hok with rfl | ⟨rfl, _⟩ | ⟨rfl, _⟩ <;> omega
  clear hok
  obtain ⟨x0, x1⟩ := box_facts w1B.out
  have c0 : w1.cell? ⟨w.heap.size, 0, none⟩ = some (.int .i64 r) := by rw [x0]; rfl
  have z0 := x1 0
  clear x0 x1
  have hW : IntKind.u8.wrap r = r := by rw [IntWalk.u8_in _ (by omega)]
  have hm : r % 256 = r := by omega
  have hz := lt_of_block w1B.out
  go_wp2_with fail
  go_loopw [4, 5] (fun v i wr => ∃ j : Nat, j ≤ 8 ∧ i = .int .i64 (7 - (j : Int)) ∧ Hid (GRow wr 5 1 v (1 + j) (bcs (bytesTo r u j)) ∧ Fr Non w1 wr ∧ ∀ b, v.ownBlock = some b → w1.heap.size ≤ b)) (fun _ i _ => (RowKit.intOf i + 8).toNat)
  case atStart =>
    refine ⟨0, by omega, by go_num, ?_, (Fr.refl _ _).alloc _, by simp [Value.ownBlock]⟩
    have e : (((UInt8.ofNat r.toNat).toNat : Nat) : Int) = r := by rw [UInt8.toNat_ofNat']; omega
    exact ⟨by simp [bcs, bytesTo], .inr ⟨w1.heap.size, 1, _, rfl, alloc_at w1 _, by omega, by decide, by simp, by simp [bcs, bytesTo]; omega⟩⟩
  case round =>
    obtain ⟨j, hj, rfl, HI⟩ := hrel
    obtain ⟨g1, f2, g3⟩ := HI.out
    have wB := Lib.hid (f2.heap w1B.out id)
    by_cases hlt : j < 8
    · obtain ⟨x0, x1⟩ := box_facts wB.out
      have c1 : wr.cell? ⟨w.heap.size, 1, none⟩ = some (.int .u64 (u : Int)) := by rw [x0]; rfl
      have z1 := x1 1
      clear x0 x1
      have i0 : (0 : Int) ≤ 7 - (j : Int) := by omega
      have i1 : (8 * (7 - (j : Int))) % 18446744073709551616 = 56 - 8 * (j : Int) := by omega
      have i2 : (0 : Int) ≤ 56 - 8 * (j : Int) := by omega
      go_wp2_with (at_builtin; refine wpList_append_g rfl _ _ eI5 rfl _ _ _ rfl (g1.keep fun b hb => ?k1) _ 1 [.int .u8 ((u : Int) / 2 ^ (8 * (7 - j)) % 256)] rfl (Src.block (m := 1) (alloc_at wr _) rfl (by simp [Value.oneCell'])) ?k2 ?k3 ?_)
      case k1 => exact Below.heap_alloc _ _ _ (g1.lt b hb)
      case k2 => unfold maxLen; omega
      case k3 => omega
      intro v' w2 r1 r2 r3
      go_wp2_with fail
      go_roundw
      case rel =>
        refine ⟨j + 1, by omega, by go_num, ?_, ?_, ?_⟩
        · have e : (((byteAt u j).toNat : Nat) : Int) = (u : Int) / 2 ^ (8 * (7 - j)) % 256 := by rw [byteAt_toNat, show 8 * (7 - j) = 56 - 8 * j by omega]; norm_cast
          rw [bytesTo_next]
          simpa [bcs, e, Nat.add_assoc] using r1
        · exact (f2.alloc _).trans2 r2 (fun b hb hx => by have := g3 b hx; omega)
        · intro b hb
          rcases r3 with r3 | ⟨r3, _⟩
          · exact g3 b (r3 ▸ hb)
          · rw [r3] at hb; cases hb; have := f2.size; simp; omega
      case measure => simp [RowKit.intOf]; omega
    · obtain rfl : j = 8 := by omega
      clear hlt
      go_wp2_with fail
      refine bodyPost_ret (v := .tuple #[_, .int .i64 0]) (by simp [results, Tryd.results36, go_sem]; rfl) rfl ⟨_, by rw [HE.out], ?_, F1.out.trans f2⟩
      rw [HS.out]
      exact GRow.sl g1 fun b hb => by have := g3 b hb; omega
end Go.Proofs.YthjfnpojelfekaaDoor
