/-
  Keys: slices.SortFunc at keys, by the shelf's contract.
-/
import Derived.Test.YthjfnpojelfekaaDoorK5
import Derived.Test.YthjfnpojelfekaaDoorKL
namespace Go.Proofs.YthjfnpojelfekaaDoor
open Go.RowKit Go.Shelf Go.Lib Go.Sort

def encK (x : MK) : List Value := [.int .i64 x.1, .int .u64 x.2]
def kSort (l : List MK) : List MK := l.mergeSort fun x y => !kLess y x
theorem kSort_len (l : List MK) : (kSort l).length = l.length := List.length_mergeSort l
theorem lt_kCmp (x y : MK) : ltOf kCmp x y = kLess x y := rfl
theorem swoK : SWO (ltOf kCmp) where
  irrefl x := kLess_irr x
  trans x y z h1 h2 := by rw [lt_kCmp, kLess_iff] at *; omega
  ntrans x y z h1 h2 := by
    rw [lt_kCmp, ← Bool.not_eq_true, kLess_iff] at *
    omega
theorem flat_keys (l : List MK) : (flatK encK 2 l.toArray).toList = keyCells l := by
  refine List.ext_getElem? fun j => ?_
  by_cases hj : j < l.length * 2
  · have h1 : j < (flatK encK 2 l.toArray).toList.length := by simpa using hj
    have hi : j / 2 < l.length := by omega
    have hg := get_flatK encK 2 l.toArray j (by simpa using hj)
    have e : (flatK encK 2 l.toArray)[j]! = (flatK encK 2 l.toArray).toList[j] := by
      rw [getElem!_pos _ j (by simpa using hj)]; simp
    rw [List.getElem?_eq_getElem h1, ← e, hg]
    have hd : l.toArray[j / 2]! = l[j / 2] := by rw [getElem!_pos _ _ (by simpa using hi)]; simp
    rw [hd]
    obtain ⟨k0, k1⟩ := keyCells_at hi
    have : j % 2 = 0 ∨ j % 2 = 1 := by omega
    rcases this with h | h
    · have e2 : j = j / 2 * 2 := by omega
      rw [h]
      conv => rhs; rw [e2]
      rw [k0]; rfl
    · have e2 : j = j / 2 * 2 + 1 := by omega
      rw [h]
      conv => rhs; rw [e2]
      rw [k1]; rfl
  · rw [List.getElem?_eq_none (by simp; omega), List.getElem?_eq_none (by rw [keyCells_len]; omega)]
theorem keys_holds {w : World} {g n cap : Nat} {l : List MK} (h : Keys w (.slice (some ⟨g, 0, none⟩) n cap) l) : HoldsK encK 2 w g 0 l.toArray := by
  intro j hj
  have hj2 : j < l.length * 2 := by simpa using hj
  rcases h.2 with ⟨h0, _⟩ | ⟨g', cap', cur, e, h1, h2, h3, h4, h5⟩
  · cases h0
  cases e
  have hc := GRow.cells h (g := g) rfl j
  obtain ⟨x0, z0⟩ := box_facts h1
  refine ⟨?_, by rw [Nat.zero_add]; exact z0 j⟩
  have hf : (keyCells l)[j]? = some ((flatK encK 2 l.toArray)[j]!) := by
    rw [← flat_keys, getElem!_pos _ j (by simpa using hj2)]
    simp [hj2]
  rw [Nat.zero_add]
  exact hc _ hf
theorem sortWorld_block {w : World} {g n : Nat} {cur : Array Value} {t : TypeId} {fr : Nat × Nat} (h : w.heap[g]? = some (.cells cur t fr)) (d : Array MK) (os : Array Obj) :
    (sortWorldK encK 2 w g 0 n d os).heap[g]? = some (.cells (putCells id 0 (flatK encK 2 d) cur) t fr) := by
  have hg : g < w.heap.size := lt_of_block h
  unfold sortWorldK grow putRowK putRow mapBlock Sort.ahead
  simp only
  rw [Array.getElem?_append_left (by simpa using hg), Array.getElem?_modify, if_pos rfl, h]
  rfl
theorem sortWorld_fr (w : World) (g n : Nat) (d : Array MK) (os : Array Obj) : Fr (fun b => b = g) w (sortWorldK encK 2 w g 0 n d os) := by
  unfold sortWorldK grow putRowK putRow mapBlock Sort.ahead
  refine ⟨rfl, rfl, rfl, by simp, fun k hk hn => ?_⟩
  simp only
  rw [Array.getElem?_append_left (by simpa using hk), Array.getElem?_modify, if_neg (fun e => hn e.symm)]
set_option maxRecDepth 100000 in
set_option maxHeartbeats 4000000 in
theorem sort_any {w : World} {g cap : Nat} {l : List MK} (h : Keys w (.slice (some ⟨g, 0, none⟩) l.length cap) l) (hn : l.length ≤ 200000) :
    Calls Tryd.prog 44 #[.slice (some ⟨g, 0, none⟩) l.length cap, .func (.func 45) #[] #[]] w fun e w' => e = .returned (.tuple #[]) ∧ Keys w' (.slice (some ⟨g, 0, none⟩) l.length cap) (kSort l) ∧ Fr (fun b => b = g) w w' := by
  have eg : ∀ args w, (callFunc 45 args).run Tryd.prog w = .ok (.enter 45 args) w := enters_of Tryd.func45 (by kernel_rfl) rfl
  have hcmp : CmpLays Tryd.prog 45 #[] encK 2 kCmp g 0 l.toArray.size w := fun m os dk _ x y => clos_any _ x y
  have hcon := AnyQ.slices_SortFunc_total Tryd.sortKeys 2 Tryd.isAgg25 Tryd.sizeOf25 encK (fun _ => rfl) (fun x v hv => by simp [encK] at hv; rcases hv with rfl | rfl <;> rfl) kCmp swoK 45 #[] g 0 cap l.toArray w eg hcmp (keys_holds h)
    (by rcases h.2 with ⟨h0, _⟩ | ⟨g', cap', cur, e, h1, _⟩
        · cases h0
        · cases e; exact lt_of_block h1) (by simp; omega) (fun x y h1 h2 => kLess_total h1 h2)
  change Calls Tryd.prog 44 _ _ _ at hcon
  rw [List.size_toArray] at hcon
  refine hcon.mono ?_
  rintro e w' ⟨rfl, n, os, rfl⟩
  refine ⟨rfl, ?_, sortWorld_fr _ _ _ _ _⟩
  have hm : (l.mergeSort fun x y => !ltOf kCmp y x) = kSort l := rfl
  rw [hm]
  rcases h.2 with ⟨h0, _⟩ | ⟨g', cap', cur, e, h1, h2, h3, h4, h5⟩
  · cases h0
  cases e
  refine ⟨keyCells_len _, .inr ⟨g, cap, _, by rw [kSort_len], sortWorld_block h1 _ _, by rw [kSort_len]; exact h2, h3, by simp [putCells]; exact h4, ?_⟩⟩
  rw [kSort_len]
  refine List.ext_getElem? fun j => ?_
  rw [List.getElem?_take]
  by_cases hj : j < l.length * 2
  · rw [if_pos hj]
    have hjc : j < cur.size := by omega
    unfold putCells
    rw [Array.getElem?_toList, Array.getElem?_mapIdx, Array.getElem?_eq_getElem hjc]
    simp only [Option.map_some, size_flatK, List.size_toArray, kSort_len]
    rw [if_pos (by omega), Nat.sub_zero, ← flat_keys, getElem!_pos _ j (by simp [kSort_len]; omega)]
    simp [kSort_len, hj]
  · rw [if_neg hj, List.getElem?_eq_none (by rw [keyCells_len, kSort_len]; omega)]
end Go.Proofs.YthjfnpojelfekaaDoor
