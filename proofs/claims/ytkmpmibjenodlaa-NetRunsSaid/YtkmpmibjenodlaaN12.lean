/-
  Net: To.
-/
import Derived.Test.YtkmpmibjenodlaaN11
namespace Go.Proofs.Ytkmpmibjenodlaa
open Go.RowKit Go.Maps

def isTo (ta : Bool) (tn : Int) (p : Parcel) : Bool := p.ta == ta && p.tn == tn

/-- The places of those that go to an address, among the first j. -/
def toIdx (ta : Bool) (tn : Int) (l : List Parcel) : Nat → List Int
  | 0 => []
  | j + 1 => toIdx ta tn l j ++ (match l[j]? with | some p => if isTo ta tn p then [(j : Int)] else [] | none => [])
theorem toIdx_len (ta : Bool) (tn : Int) (l : List Parcel) : ∀ j, (toIdx ta tn l j).length ≤ j
  | 0 => by simp [toIdx]
  | j + 1 => by
    have := toIdx_len ta tn l j
    simp only [toIdx, List.length_append]
    split
    · split <;> simp <;> omega
    · simp; omega

theorem to_nil (w : World) (x : Value) (hx : ∃ a b, x = .agg #[.bool a, .int .i64 b]) : Calls Try.prog 24 #[.pointer none, x] w fun e w' => e = .returned (.slice none 0 0) ∧ Fr Non w w' := by
  obtain ⟨a, b, rfl⟩ := hx
  go_enter Try.func24, Try.ntmps24
  go_wp2_with fail
  refine (made_nil _).mono ?_
  rintro e w' ⟨rfl, rfl⟩
  go_wp2_with fail
  go_ret
  exact ⟨rfl, (Fr.refl _ _).alloc _⟩

theorem to_zero {bn : Nat} {w : World} (h : w.cell? ⟨bn, 1, none⟩ = some (.map none)) (x : Value) (hx : ∃ a b, x = .agg #[.bool a, .int .i64 b]) : Calls Try.prog 24 #[.pointer (some ⟨bn, 0, none⟩), x] w fun e w' => e = .returned (.slice none 0 0) ∧ Fr Non w w' := by
  obtain ⟨a, b, rfl⟩ := hx
  go_enter Try.func24, Try.ntmps24
  go_wp2_with fail
  refine (made_zero _ _ (((Fr.refl Non w).alloc _).cell h id)).mono ?_
  rintro e w' ⟨rfl, rfl⟩
  go_wp2_with fail
  go_ret
  exact ⟨rfl, (Fr.refl _ _).alloc _⟩

set_option maxRecDepth 100000 in
set_option maxHeartbeats 4000000 in
theorem to_any {w : World} {bn bm : Nat} {lv : Value} {vs : List Value} {k : Nat} {st : NetSt} (h : NetAt w bn bm lv vs k st) (ta : Bool) (tn : Int) :
    Calls Try.prog 24 #[.pointer (some ⟨bn, 0, none⟩), .agg #[.bool ta, .int .i64 tn]] w fun e w' => ∃ a c, e = .returned (.slice a (toIdx ta tn st.l st.l.length).length c) ∧
      GRow w' 3 1 (.slice a (toIdx ta tn st.l st.l.length).length c) (toIdx ta tn st.l st.l.length).length (ics (toIdx ta tn st.l st.l.length)) ∧ Fr Non w w' ∧ ∀ b, a = some b → w.heap.size ≤ b.block := by
  obtain ⟨a, c, rfl⟩ := h.row.form
  have hfull := h.full
  go_enter Try.func24, Try.ntmps24
  go_wp2_with fail
  have f0 : Fr Non w (w.alloc (.cells #[.bool ta, .int .i64 tn] 27)) := (Fr.refl _ _).alloc _
  have h1 := h.fr f0 (fun _ _ => id)
  refine (made_yes _ bm _ (h1.box.1 1)).mono ?_
  rintro e w' ⟨rfl, rfl⟩
  have q1 := h1.box.1 0
  simp only [List.getElem?_toArray, List.getElem?_cons_zero] at q1
  go_wp2_with fail
  clear q1
  go_loopw [5, 16] (fun v i wr => ∃ (j : Nat), j ≤ st.l.length ∧ i = .int .i64 j ∧ Hid (GRow wr 3 1 v (toIdx ta tn st.l j).length (ics (toIdx ta tn st.l j)) ∧
      Fr Non (w.alloc (.cells #[.bool ta, .int .i64 tn] 27)) wr ∧ ∀ b, v.ownBlock = some b → w.heap.size < b)) (fun _ i _ => st.l.length - (intOf i).toNat)
  case atStart => exact ⟨0, by omega, rfl, GRow.nil _ _ _, Fr.refl _ _, by simp [Value.ownBlock]⟩
  case round =>
    obtain ⟨j, hj, rfl, HI⟩ := hrel
    obtain ⟨g1, f1, g3⟩ := HI.out
    have h2 := h1.fr f1 (fun _ _ => id)
    obtain ⟨q2, _⟩ := f1.box (alloc_at w _) id
    have hz : w.heap.size < wr.heap.size := by have := f1.size; simp only [World.size_alloc] at this; omega
    by_cases hlt : j < st.l.length
    · obtain ⟨g, rfl, hl, hm, e0, e1, e2, e3, e4⟩ := h2.parcel j hlt
      unfold maxLen at hm
      obtain ⟨p, hp⟩ : ∃ p, st.l[j] = p := ⟨_, rfl⟩
      rw [hp] at e0 e1 e2 e3
      have HP := Lib.hid hp
      obtain ⟨va, vc, hv⟩ : ∃ a c, vs[j]'(h.bytes.len ▸ hlt) = .slice a st.l[j].b.length c := (h.bytes.form j hlt (h.bytes.len ▸ hlt)).form
      rw [hv] at e4
      clear hp hv
      have j0 : (0 : Int) ≤ (j : Int) := by omega
      have j1 : (j : Int) < (st.l.length : Int) := by omega
      have hlen := toIdx_len ta tn st.l j
      cases hto : isTo ta tn p with
      | true =>
        have hst : toIdx ta tn st.l (j + 1) = toIdx ta tn st.l j ++ [(j : Int)] := by simp [toIdx, hlt, HP.out, hto]
        have HST := Lib.hid hst
        obtain ⟨ha, hn⟩ : p.ta = ta ∧ p.tn = tn := by simpa [isTo] using hto
        clear hst hto
        subst ha hn
        go_wp2_with (at_builtin; refine wpList_append_g rfl _ _ eI3 rfl _ _ _ rfl (g1.keep fun b hb => ?k1) _ 1 [.int .i64 j] rfl (Src.block (m := 1) (alloc_at2' wr _ _) rfl (by simp [Value.oneCell'])) ?k2 ?k3 ?_)
        case k1 =>
          have := g1.lt b hb
          rw [Below.heap_alloc _ _ _ (by simp; omega), Below.heap_alloc _ _ _ this]
        case k2 => unfold maxLen; omega
        case k3 => omega
        intro v' w1 r1 r2 r3
        go_wp2_with fail
        go_roundw
        case rel =>
          refine ⟨j + 1, by omega, by go_num, ?_, ?_, ?_⟩
          · rw [HST.out]; simpa [ics] using r1
          · exact ((f1.alloc _).alloc _).trans2 r2 (fun b hb hx => by have := g3 b hx; simp at hb; omega)
          · intro b hb
            rcases r3 with r3 | ⟨r3, _⟩
            · exact g3 b (r3 ▸ hb)
            · rw [r3] at hb; cases hb; (try simp); omega
        case measure => simp [intOf]; omega
      | false =>
        have hst : toIdx ta tn st.l (j + 1) = toIdx ta tn st.l j := by simp [toIdx, hlt, HP.out, hto]
        have HST := Lib.hid hst
        have hb : p.ta = ta → (p.tn == tn) = false := fun ha => by subst ha; simpa [isTo] using hto
        clear hst hto
        by_cases ha : p.ta = ta
        · have hn := hb ha
          subst ha
          clear hb
          go_wp2_with fail
          all_goals
            go_roundw
            case rel =>
              refine ⟨j + 1, by omega, by go_num, ?_, f1.alloc _, g3⟩
              rw [HST.out]; exact g1.keep fun b hb => Below.heap_alloc _ _ _ (g1.lt b hb)
            case measure => simp [intOf]; omega
        · have hn : (p.ta == ta) = false := by simpa using ha
          clear hb ha
          go_wp2_with fail
          all_goals
            go_roundw
            case rel =>
              refine ⟨j + 1, by omega, by go_num, ?_, f1.alloc _, g3⟩
              rw [HST.out]; exact g1.keep fun b hb => Below.heap_alloc _ _ _ (g1.lt b hb)
            case measure => simp [intOf]; omega
    · obtain rfl : j = st.l.length := by omega
      obtain ⟨a1, c1, rfl⟩ := g1.form
      go_wp2_with fail
      go_ret
      exact ⟨a1, c1, rfl, g1, f0.trans f1, fun b hb => by have := g3 b.block (by simp [Value.ownBlock, hb]); omega⟩
end Go.Proofs.Ytkmpmibjenodlaa
