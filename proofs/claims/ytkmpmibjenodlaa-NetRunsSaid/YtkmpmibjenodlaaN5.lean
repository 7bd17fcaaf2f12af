/-
  Net: place, Len, New.
-/
import Derived.Test.YtkmpmibjenodlaaN4
namespace Go.Proofs.Ytkmpmibjenodlaa
open Go.RowKit Go.Maps

/-- Is there such a place? -/
def isPlace (n : Nat) (i : Int) : Bool := decide (0 ≤ i) && decide (i < n)

def ics (l : List Int) : List Value := l.map fun x => .int .i64 x

set_option maxRecDepth 100000 in
set_option maxHeartbeats 1000000 in
theorem place_ok {w : World} {bn bm : Nat} {lv : Value} {vs : List Value} {k : Nat} {st : NetSt} (h : NetAt w bn bm lv vs k st) (is : List Int) (b c : Nat)
    (hi : ∀ j, (hj : j < is.length) → w.cell? ⟨b, j, none⟩ = some (.int .i64 is[j])) (hl : is.length ≤ 100) (ha : ∀ x ∈ is, 0 ≤ x ∧ x < st.l.length) :
    Calls Try.prog 27 #[.pointer (some ⟨bn, 0, none⟩), .slice (some ⟨b, 0, none⟩) is.length c] w fun e w' => e = .returned (.int .i64 0) ∧ w' = w := by
  obtain ⟨a, c1, rfl⟩ := h.row.form
  obtain ⟨q1, q2⟩ := h.box
  have hfull := h.full
  have HA := Lib.hid ha
  have HI := Lib.hid hi
  have q3 := q1 1
  clear ha hi h
  go_enter Try.func27, Try.ntmps27
  go_wp2_with fail
  refine (made_yes _ bm _ q3).mono ?_
  rintro e w' ⟨rfl, rfl⟩
  go_wp2_with fail
  go_loop [12] (fun i => ∃ j : Nat, j ≤ is.length ∧ i = .int .i64 j) (fun i => is.length - (intOf i).toNat)
  case atStart => exact ⟨0, by omega, rfl⟩
  case round =>
    obtain ⟨j, hj, rfl⟩ := hrel
    by_cases hlt : j < is.length
    · have hc := HI.out j hlt
      obtain ⟨hp1, hp2⟩ := HA.out is[j] (List.getElem_mem _)
      go_wp2_with fail
      go_round
      case rel => exact ⟨j + 1, by omega, by go_num⟩
      case measure => simp [intOf]; omega
    · go_wp2_with fail
      go_ret
      exact ⟨rfl, rfl⟩

set_option maxRecDepth 100000 in
set_option maxHeartbeats 1000000 in
theorem place_bad {w : World} {bn bm : Nat} {lv : Value} {vs : List Value} {k : Nat} {st : NetSt} (h : NetAt w bn bm lv vs k st) (is : List Int) (b c : Nat)
    (hi : ∀ j, (hj : j < is.length) → w.cell? ⟨b, j, none⟩ = some (.int .i64 is[j])) (hl : is.length ≤ 100) (ha : ¬ ∀ x ∈ is, 0 ≤ x ∧ x < st.l.length) :
    Calls Try.prog 27 #[.pointer (some ⟨bn, 0, none⟩), .slice (some ⟨b, 0, none⟩) is.length c] w fun e w' => e = .returned (.int .i64 5) ∧ w' = w := by
  obtain ⟨a, c1, rfl⟩ := h.row.form
  obtain ⟨q1, q2⟩ := h.box
  have hfull := h.full
  have HA := Lib.hid ha
  have HI := Lib.hid hi
  have q3 := q1 1
  clear ha hi h
  go_enter Try.func27, Try.ntmps27
  go_wp2_with fail
  refine (made_yes _ bm _ q3).mono ?_
  rintro e w' ⟨rfl, rfl⟩
  go_wp2_with fail
  go_loop [12] (fun i => ∃ j : Nat, j ≤ is.length ∧ i = .int .i64 j ∧ Hid (∀ m, (hm : m < is.length) → m < j → 0 ≤ is[m] ∧ is[m] < st.l.length)) (fun i => is.length - (intOf i).toNat)
  case atStart => exact ⟨0, by omega, rfl, fun m hm h0 => by omega⟩
  case round =>
    obtain ⟨j, hj, rfl, HALL⟩ := hrel
    by_cases hlt : j < is.length
    · have hc := HI.out j hlt
      obtain ⟨x, hxe⟩ : ∃ x, is[j] = x := ⟨_, rfl⟩
      rw [hxe] at hc
      have HX := Lib.hid hxe
      clear hxe
      by_cases hp1 : x < 0
      · go_wp2_with fail
        go_ret
        exact ⟨rfl, rfl⟩
      · have hp3 : 0 ≤ x := by omega
        clear hp1
        by_cases hp2 : (st.l.length : Int) ≤ x
        · go_wp2_with fail
          go_ret
          exact ⟨rfl, rfl⟩
        · have hp4 : x < (st.l.length : Int) := by omega
          clear hp2
          go_wp2_with fail
          go_round
          case rel => exact ⟨j + 1, by omega, by go_num, fun m hm hmj => by
            by_cases e : m = j
            · subst e; rw [HX.out]; exact ⟨hp3, hp4⟩
            · exact HALL.out m hm (by omega)⟩
          case measure => simp [intOf]; omega
    · exfalso
      refine HA.out fun x hx => ?_
      obtain ⟨m, hm, rfl⟩ := List.getElem_of_mem hx
      exact HALL.out m hm (by omega)

theorem place_nil (w : World) (v : Value) : Calls Try.prog 27 #[.pointer none, v] w fun e w' => e = .returned (.int .i64 4) ∧ w' = w := by
  go_enter Try.func27, Try.ntmps27
  go_wp2_with fail
  refine (made_nil _).mono ?_
  rintro e w' ⟨rfl, rfl⟩
  go_wp2_with fail
  go_ret
  exact ⟨rfl, rfl⟩

theorem place_zero {bn : Nat} (w : World) (v : Value) (h : w.cell? ⟨bn, 1, none⟩ = some (.map none)) : Calls Try.prog 27 #[.pointer (some ⟨bn, 0, none⟩), v] w fun e w' => e = .returned (.int .i64 4) ∧ w' = w := by
  go_enter Try.func27, Try.ntmps27
  go_wp2_with fail
  refine (made_zero _ _ h).mono ?_
  rintro e w' ⟨rfl, rfl⟩
  go_wp2_with fail
  go_ret
  exact ⟨rfl, rfl⟩

theorem len_any {w : World} {bn bm : Nat} {lv : Value} {vs : List Value} {k : Nat} {st : NetSt} (h : NetAt w bn bm lv vs k st) :
    Calls Try.prog 18 #[.pointer (some ⟨bn, 0, none⟩)] w fun e w' => e = .returned (.int .i64 st.l.length) ∧ w' = w := by
  obtain ⟨a, c1, rfl⟩ := h.row.form
  obtain ⟨q1, q2⟩ := h.box
  go_enter Try.func18, Try.ntmps18
  go_wp2_with fail
  refine (made_yes _ bm _ (h.box.1 1)).mono ?_
  rintro e w' ⟨rfl, rfl⟩
  go_wp2_with fail
  go_ret
  exact ⟨rfl, rfl⟩

theorem len_nil (w : World) : Calls Try.prog 18 #[.pointer none] w fun e w' => e = .returned (.int .i64 0) ∧ w' = w := by
  go_enter Try.func18, Try.ntmps18
  go_wp2_with fail
  refine (made_nil _).mono ?_
  rintro e w' ⟨rfl, rfl⟩
  go_wp2_with fail
  go_ret
  exact ⟨rfl, rfl⟩

theorem len_zero {bn : Nat} (w : World) (h : w.cell? ⟨bn, 1, none⟩ = some (.map none)) : Calls Try.prog 18 #[.pointer (some ⟨bn, 0, none⟩)] w fun e w' => e = .returned (.int .i64 0) ∧ w' = w := by
  go_enter Try.func18, Try.ntmps18
  go_wp2_with fail
  refine (made_zero _ _ h).mono ?_
  rintro e w' ⟨rfl, rfl⟩
  go_wp2_with fail
  go_ret
  exact ⟨rfl, rfl⟩

def net0 : NetSt := { l := [], c := fun _ => 0 }

theorem new_any (w : World) : Calls Try.prog 8 #[] w fun e w' => ∃ bn bm, e = .returned (.pointer (some ⟨bn, 0, none⟩)) ∧ NetAt w' bn bm (.slice none 0 0) [] 0 net0 ∧ Fr Non w w' ∧ ∀ b ∈ netFp bn bm (.slice none 0 0) [], w.heap.size ≤ b := by
  have hmm := @run_makeMap Try.prog
  go_enter Try.func8, Try.ntmps8
  go_wp2_with fail
  go_ret
  refine ⟨w.heap.size + 1, w.heap.size, rfl, ⟨?_, ?_, GRow.nil _ _ _, trivial, ?_, by omega, by simp [net0], fun j => by simp [net0]⟩, ((Fr.refl _ _).alloc _).alloc _, ?_⟩
  · have := alloc_at (w.alloc (Obj.map #[] 0)) (Obj.cells #[Value.slice none 0 0, Value.map (some w.heap.size)] 58)
    simpa using this
  · exact (MapI.made w _ 64 3).keep (Below.heap_alloc _ _ _ (by simp))
  · rw [nodup_fp]; simp [Value.ownBlock]
  · intro b hb
    simp [netFp, Value.ownBlock] at hb
    omega
end Go.Proofs.Ytkmpmibjenodlaa
