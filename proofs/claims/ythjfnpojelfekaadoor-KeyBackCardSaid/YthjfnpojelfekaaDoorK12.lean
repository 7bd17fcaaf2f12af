/-
  Keys: few, Place on both sides.
-/
import Derived.Test.YthjfnpojelfekaaDoorK8
namespace Go.Proofs.YthjfnpojelfekaaDoor
open Go.RowKit

theorem keys_rd {S : Nat → Prop} {w : World} {a : Option Addr} {n c : Nat} {l : List MK} (h : Sl kKey S w (.slice a n c) l) (i : Nat) (hi : i < l.length) :
    ∃ b o, a = some ⟨b, o, none⟩ ∧ w.cell? ⟨b, o + i * 2, none⟩ = some (.int .i64 l[i].1) ∧ w.cell? ⟨b, o + i * 2 + 1, none⟩ = some (.int .u64 l[i].2) := by
  obtain ⟨b, o, cs, rfl, _, _, _, hr, hc⟩ := h.at i hi
  obtain ⟨e, _⟩ := key_cells hr
  subst e
  exact ⟨b, o, rfl, hc 0 (by simp), hc 1 (by simp)⟩
theorem Keys.sl {w : World} {v : Value} {l : List MK} (h : Keys w v l) (hw : ∀ x ∈ l, kWf x) : Sl kKey All w v l := by
  have hr : Row kKey All w (keyCells l) l := by
    clear h
    induction l with
    | nil => rfl
    | cons x l ih =>
      obtain ⟨h1, h2⟩ := hw x (by simp)
      have m1 : IntKind.min .i64 = -9223372036854775808 := by decide
      have m2 : IntKind.max .i64 = 9223372036854775807 := by decide
      have m3 : IntKind.min .u64 = 0 := by decide
      have m4 : IntKind.max .u64 = 18446744073709551615 := by decide
      exact ⟨[_, _], _, rfl, ⟨[_], _, rfl, ⟨rfl, by simp only [Lit.wf, Bool.and_eq_true, decide_eq_true_eq, m1, m2]; exact h1⟩, ⟨rfl, by simp only [Lit.wf, Bool.and_eq_true, decide_eq_true_eq, m3, m4]; exact h2⟩⟩, ih (fun y hy => hw y (by simp [hy]))⟩
  rcases id h.2 with ⟨rfl, h0⟩ | ⟨b, cap, cur, rfl, _, h1, h2, _⟩
  · exact .inl ⟨rfl, List.eq_nil_of_length_eq_zero h0⟩
  · refine .inr ⟨_, _, rfl, h1, h2, fun _ => ⟨rfl, trivial⟩, Elems.of_row hr fun j u hu => ?_⟩
    rw [Nat.zero_add]
    exact GRow.cells h rfl j u hu
theorem keys_wf {S : Nat → Prop} {w : World} {v : Value} {l : List MK} (h : Sl kKey S w v l) : ∀ x ∈ l, kWf x := by
  intro x hx
  obtain ⟨i, hi, rfl⟩ := List.getElem_of_mem hx
  obtain ⟨a, c, rfl, _⟩ := h.frm
  obtain ⟨b, o, cs, _, _, _, _, hr, _⟩ := h.at i hi
  obtain ⟨_, h1, h2⟩ := key_cells hr
  have m1 : IntKind.min .i64 = -9223372036854775808 := by decide
  have m2 : IntKind.max .i64 = 9223372036854775807 := by decide
  have m3 : IntKind.min .u64 = 0 := by decide
  have m4 : IntKind.max .u64 = 18446744073709551615 := by decide
  simp only [Lit.wf, Bool.and_eq_true, decide_eq_true_eq, m1, m2] at h1
  simp only [Lit.wf, Bool.and_eq_true, decide_eq_true_eq, m3, m4] at h2
  exact ⟨h1, h2⟩

set_option maxRecDepth 100000 in
set_option maxHeartbeats 1000000 in
theorem few_any {w : World} {u : Value} {l : List MK} (hl : Sl kKey All w u l) :
    Calls Tryd.prog 18 #[u] w fun e w' => ∃ v, e = .returned v ∧ Sl kKey All w' v (l.take 100) ∧ w' = w := by
  obtain ⟨a, n, rfl, hn, hm, ha⟩ := hl.frm
  unfold maxLen at hm
  by_cases h : 100 < l.length
  · have i0 : (100 : Int) < (l.length : Int) := by omega
    have i1 : (100 : Int) ≤ (n : Int) := by omega
    have i2 : 100 ≤ n := by omega
    cases a with
    | none => have := ha rfl; subst this; simp at h
    | some ad =>
    obtain ⟨b, o, sp⟩ := ad
    obtain ⟨b', o', _, e, _⟩ := hl.at 0 (by omega)
    cases e
    have hsub := hl.sub 0 100 n (by omega) i2 (by unfold maxLen; omega)
    rw [Nat.zero_mul, Nat.add_zero, List.drop_zero] at hsub
    have HS := Lib.hid hsub
    clear hl ha hsub
    go_enter Tryd.func18, Tryd.ntmps18
    go_wp2_with fail
    go_ret
    exact ⟨_, by trivial, HS.out, rfl⟩
  · have i0 : decide ((100 : Int) < (l.length : Int)) = false := by simp; omega
    have HL := Lib.hid hl
    have HT := Lib.hid (show l.take 100 = l from List.take_of_length_le (by omega))
    clear hl h ha
    go_enter Tryd.func18, Tryd.ntmps18
    go_wp2_with fail
    go_ret
    exact ⟨_, by trivial, by rw [HT.out]; exact HL.out, rfl⟩

def kCount (k : MK) (l : List MK) : Nat := l.countP fun x => kLess x k
theorem kCount_next (k : MK) {l : List MK} {j : Nat} (h : j < l.length) : kCount k (l.take (j + 1)) = kCount k (l.take j) + (if kLess l[j] k then 1 else 0) := by
  unfold kCount
  rw [← List.take_append_getElem h, List.countP_append]
  simp [List.countP_cons]
theorem kCount_le (k : MK) (l : List MK) (j : Nat) : kCount k (l.take j) ≤ l.length := by
  unfold kCount
  have h1 := List.countP_le_length (p := fun x => kLess x k) (l := l.take j)
  rw [List.length_take] at h1
  omega
def kThere (k : MK) (l : List MK) : Bool := l.any fun x => decide (x = k)
theorem kThere_next (k : MK) {l : List MK} {j : Nat} (h : j < l.length) : kThere k (l.take (j + 1)) = (kThere k (l.take j) || decide (l[j] = k)) := by
  unfold kThere
  rw [← List.take_append_getElem h, List.any_append]
  simp

set_option maxRecDepth 100000 in
set_option maxHeartbeats 4000000 in
theorem place_any {w : World} {u : Value} {l : List MK} (hl : Sl kKey All w u l) (hn : l.length ≤ 200000) (k : MK) :
    Calls Tryd.prog 19 #[u, kV k] w fun e w' => e = .returned (.tuple #[.int .i64 (kCount k l), .bool (kThere k l)]) ∧ Fr Non w w' := by
  obtain ⟨a, n, rfl, _, hm, _⟩ := hl.frm
  have HL := Lib.hid hl.there
  obtain ⟨k1, k2⟩ := k
  unfold kV
  have bK := alloc_at w (.cells #[.int .i64 k1, .int .u64 k2] 25)
  have f0 : Fr Non w (w.alloc (.cells #[.int .i64 k1, .int .u64 k2] 25)) := (Fr.refl _ _).alloc _
  obtain ⟨w0, hw0⟩ : ∃ w0, w.alloc (.cells #[.int .i64 k1, .int .u64 k2] 25) = w0 := ⟨_, rfl⟩
  rw [hw0] at bK f0
  have BK := Lib.hid bK
  have F0 := Lib.hid f0
  have HS := Lib.hid (HL.out.stay f0)
  clear hl bK f0
  go_enter Tryd.func19, Tryd.ntmps19
  go_wp2_with fail
  (try rw [hw0])
  clear hw0
  go_loopw [6, 7, 12] (fun c t i wr => ∃ (j : Nat), j ≤ l.length ∧ i = .int .i64 j ∧ c = .int .i64 (kCount (k1, k2) (l.take j)) ∧ t = .bool (kThere (k1, k2) (l.take j)) ∧ Hid (Fr Non w0 wr)) (fun _ _ i _ => l.length - (intOf i).toNat)
  case atStart => exact ⟨0, by omega, rfl, rfl, rfl, Fr.refl _ _⟩
  case round =>
    obtain ⟨j, hj, rfl, rfl, rfl, HI⟩ := hrel
    have j0 : (0 : Int) ≤ (j : Int) := by omega
    by_cases hlt : j < l.length
    · have j1 : (j : Int) < (l.length : Int) := by omega
      obtain ⟨b, o, rfl, x0, x1⟩ := keys_rd (HS.out.stay HI.out) j hlt
      have N1 := Lib.hid (kCount_next (k1, k2) hlt)
      have N2 := Lib.hid (kThere_next (k1, k2) hlt)
      have hcb := kCount_le (k1, k2) l j
      obtain ⟨X, hX⟩ : ∃ X, l[j] = X := ⟨_, rfl⟩
      rw [hX] at x0 x1 N1 N2
      obtain ⟨C, hC⟩ : ∃ C, kCount (k1, k2) (l.take j) = C := ⟨_, rfl⟩
      obtain ⟨T, hT⟩ : ∃ T, kThere (k1, k2) (l.take j) = T := ⟨_, rfl⟩
      rw [hC] at N1 hcb ⊢
      rw [hT] at N2 ⊢
      have HLS := Lib.hid (fun w => less_any w X (k1, k2))
      have E := Lib.hid (fun w => eq_key X (k1, k2) w)
      obtain ⟨P, hP⟩ : ∃ P, kLess X (k1, k2) = P := ⟨_, rfl⟩
      obtain ⟨D, hD⟩ : ∃ D, decide (X = (k1, k2)) = D := ⟨_, rfl⟩
      rw [hP] at N1 HLS
      rw [hD] at N2 E
      obtain ⟨X1, X2⟩ := X
      unfold kV at HLS E
      have bK1 := HI.out.heap BK.out id
      have s0a : wr.cell? ⟨w.heap.size, 0, none⟩ = some (.int .i64 k1) := by rw [(box_facts bK1).1]; rfl
      have s0b : wr.cell? ⟨w.heap.size, 1, none⟩ = some (.int .u64 k2) := by rw [(box_facts bK1).1]; rfl
      have lK : w.heap.size < wr.heap.size := lt_of_block bK1
      have nK : w.heap.size ≠ wr.heap.size := by omega
      clear hX hC hT hP hD
      go_wp2_with fail
      refine (HLS.out _).mono ?_
      rintro e v ⟨rfl, g⟩
      have bN := g.fr.heap (alloc_at wr (.cells #[.int .i64 X1, .int .u64 X2] 25)) id
      have l1 : Fr Non wr v := ((Fr.refl _ _).alloc _).trans g.fr
      have bK2 := l1.heap bK1 id
      have F1 := Lib.hid (HI.out.trans l1)
      generalize hG : wr.heap.size = G at bN ⊢
      clear hG l1 g s0a s0b lK nK bK1 x0 x1
      have s0a : v.cell? ⟨w.heap.size, 0, none⟩ = some (.int .i64 k1) := by rw [(box_facts bK2).1]; rfl
      have s0b : v.cell? ⟨w.heap.size, 1, none⟩ = some (.int .u64 k2) := by rw [(box_facts bK2).1]; rfl
      have s1a : v.cell? ⟨G, 0, none⟩ = some (.int .i64 X1) := by rw [(box_facts bN).1]; rfl
      have s1b : v.cell? ⟨G, 1, none⟩ = some (.int .u64 X2) := by rw [(box_facts bN).1]; rfl
      have e1 := E.out
      have c1 : (C : Int) + 1 ≤ 200001 := by omega
      have c0 : (0 : Int) ≤ (C : Int) := by omega
      clear bK2 bN E hcb
      cases P with
      | true =>
        cases T with
        | true =>
          go_wp2_with fail
          go_roundw
          case rel => exact ⟨j + 1, by omega, by go_num, by rw [N1.out]; rfl, by rw [N2.out]; rfl, F1⟩
          case measure => simp [intOf]; omega
        | false =>
          go_wp2_with fail
          go_roundw
          case rel => exact ⟨j + 1, by omega, by go_num, by rw [N1.out]; rfl, by rw [N2.out]; rfl, F1⟩
          case measure => simp [intOf]; omega
      | false =>
        cases T with
        | true =>
          go_wp2_with fail
          go_roundw
          case rel => exact ⟨j + 1, by omega, by go_num, by rw [N1.out]; rfl, by rw [N2.out]; rfl, F1⟩
          case measure => simp [intOf]; omega
        | false =>
          go_wp2_with fail
          go_roundw
          case rel => exact ⟨j + 1, by omega, by go_num, by rw [N1.out]; rfl, by rw [N2.out]; rfl, F1⟩
          case measure => simp [intOf]; omega
    · obtain rfl : j = l.length := by omega
      have HT := Lib.hid (List.take_length (l := l))
      go_wp2_with fail
      refine bodyPost_ret (v := .tuple #[.int .i64 (kCount (k1, k2) (l.take l.length)), .bool (kThere (k1, k2) (l.take l.length))]) (by simp [results, Tryd.results19, go_sem]) rfl ⟨by rw [HT.out], F0.out.trans HI.out⟩
end Go.Proofs.YthjfnpojelfekaaDoor
