/-
  Model: awake.
-/
import Derived.Test.YtplhcfaonhkegaaM17
import Derived.Test.YtplhcfaonhkegaaM14
namespace Go.Proofs.Ytplhcfaonhkegaa
open Go.RowKit Go.Maps

theorem doneC1 (key high : Int) (bs : List UInt8) : DoneC (1, key, high, bs) := fun _ _ _ _ _ _ _ h1 h2 h3 h4 h5 h6 => done1 h1 h2 h3 key high h4 h5 h6
theorem doneC4 (key high : Int) (bs : List UInt8) : DoneC (4, key, high, bs) := fun _ _ _ _ _ _ _ h1 h2 h3 h4 h5 h6 => done4 h1 h2 h3 key high h4 h5 h6

def awakeCs : List MCall := [(1, 5, 0, [97]), (1, 5, 0, []), (4, 2, 0, []), (4, 6, 0, [])]
theorem awake_run : mRun [] awakeCs = ([(5, [97])], [mErr 0, mErr 100, (0, 5, [97], [], r0, r0, true), mErr 101], 0) := by rfl

theorem res_at {S : Nat → Prop} {w : World} {a : Option Addr} {n c : Nat} {l : List MRes} (h : Sl kRes S w (.slice a n c) l) (i : Nat) (hi : i < l.length) :
    ∃ b o u v, a = some ⟨b, o, none⟩ ∧ n = l.length ∧ l.length ≤ c ∧ c ≤ maxLen ∧ (∀ j x, (resCells l[i] u v)[j]? = some x → w.cell? ⟨b, o + i * 15 + j, none⟩ = some x) ∧ Sl kByte S w u l[i].2.2.1 ∧ Sl kItem S w v l[i].2.2.2.1 := by
  obtain ⟨b, o, cs, rfl, h0, h1, h2, hr, hc⟩ := h.at i hi
  obtain ⟨u, v, rfl, hu, _, hv, _⟩ := res_cells hr
  refine ⟨b, o, u, v, rfl, h0, h1, h2, fun j x hx => ?_, hu, hv⟩
  obtain ⟨hj, rfl⟩ := List.getElem?_eq_some_iff.1 hx
  exact hc j hj

set_option maxRecDepth 100000 in
set_option maxHeartbeats 4000000 in
theorem awake_any (w : World) : Calls Try.prog 27 #[] w fun e w' => e = .returned (.bool true) ∧ Fr Non w w' := by
  have kc := fun (w : World) (C : Array Value) (n c : Nat) => Lib.run_convert_bytes_const (P := Try.prog) w 37 5 C n c Try.underlying37 Try.underlying5
  have hcs : awakeCs = [(1, 5, 0, [97]), (1, 5, 0, []), (4, 2, 0, []), (4, 6, 0, [])] := rfl
  go_enter Try.func27, Try.ntmps27
  go_wp2_with fail
  obtain ⟨w1, hw1⟩ : ∃ w1, w.alloc (.cells #[.int .u8 97] 5 (1, 2)) = w1 := ⟨_, rfl⟩
  have f1 : Fr Non w w1 := by rw [← hw1]; exact (Fr.refl _ _).alloc _
  have b1 : w1.heap[w.heap.size]? = some (.cells #[.int .u8 97] 5 (1, 2)) := by rw [← hw1]; exact alloc_at w _
  have hz1 : w1.heap.size = w.heap.size + 1 := by rw [← hw1]; simp
  have hby : Sl kByte All w1 (.slice (some ⟨w.heap.size, 0, none⟩) 1 1) [97] := .inr ⟨_, 1, rfl, by simp, by unfold maxLen; omega, fun _ => ⟨rfl, trivial⟩, fun i hi => by
    obtain rfl : i = 0 := by simpa using hi
    refine ⟨[.int .u8 97], rfl, fun j hj => ?_⟩
    obtain rfl : j = 0 := by simpa using hj
    rw [cell_of_row _ _ _ _ _ _ b1]
    rfl⟩
  have f2 : Fr Non w1 (w1.alloc (.cells #[.int .i64 1, .int .u64 5, .int .u64 0, .slice (some ⟨w.heap.size, 0, none⟩) 1 1, .int .i64 1, .int .u64 5, .int .u64 0, .slice none 0 0, .int .i64 4, .int .u64 2, .int .u64 0, .slice none 0 0, .int .i64 4, .int .u64 6, .int .u64 0, .slice none 0 0] 39)) := (Fr.refl _ _).alloc _
  have b2 := alloc_at w1 (.cells #[.int .i64 1, .int .u64 5, .int .u64 0, .slice (some ⟨w.heap.size, 0, none⟩) 1 1, .int .i64 1, .int .u64 5, .int .u64 0, .slice none 0 0, .int .i64 4, .int .u64 2, .int .u64 0, .slice none 0 0, .int .i64 4, .int .u64 6, .int .u64 0, .slice none 0 0] 39)
  have hnil : ∀ w : World, Sl kByte All w (.slice none 0 0) [] := fun _ => .inl ⟨rfl, rfl⟩
  have hrow : ∀ w2 : World, Sl kByte All w2 (.slice (some ⟨w.heap.size, 0, none⟩) 1 1) [97] → Row kCall All w2 [.int .i64 1, .int .u64 5, .int .u64 0, .slice (some ⟨w.heap.size, 0, none⟩) 1 1, .int .i64 1, .int .u64 5, .int .u64 0, .slice none 0 0, .int .i64 4, .int .u64 2, .int .u64 0, .slice none 0 0, .int .i64 4, .int .u64 6, .int .u64 0, .slice none 0 0] awakeCs := fun w2 h =>
    ⟨[.int .i64 1, .int .u64 5, .int .u64 0, .slice (some ⟨w.heap.size, 0, none⟩) 1 1], _, rfl, cells_call (x := (1, 5, 0, [97])) h (by decide) (by decide) (by decide) (by decide),
     [.int .i64 1, .int .u64 5, .int .u64 0, .slice none 0 0], _, rfl, cells_call (x := (1, 5, 0, [])) (hnil w2) (by decide) (by decide) (by decide) (by decide),
     [.int .i64 4, .int .u64 2, .int .u64 0, .slice none 0 0], _, rfl, cells_call (x := (4, 2, 0, [])) (hnil w2) (by decide) (by decide) (by decide) (by decide),
     [.int .i64 4, .int .u64 6, .int .u64 0, .slice none 0 0], [], rfl, cells_call (x := (4, 6, 0, [])) (hnil w2) (by decide) (by decide) (by decide) (by decide), rfl⟩
  have hsl : Sl kCall All (w1.alloc (.cells #[.int .i64 1, .int .u64 5, .int .u64 0, .slice (some ⟨w.heap.size, 0, none⟩) 1 1, .int .i64 1, .int .u64 5, .int .u64 0, .slice none 0 0, .int .i64 4, .int .u64 2, .int .u64 0, .slice none 0 0, .int .i64 4, .int .u64 6, .int .u64 0, .slice none 0 0] 39)) (.slice (some ⟨w1.heap.size, 0, none⟩) 4 4) awakeCs :=
    .inr ⟨_, 4, rfl, by decide, by unfold maxLen; omega, fun _ => ⟨rfl, trivial⟩, Elems.of_row (hrow _ (hby.stay f2)) fun j u hu => by
      rw [Nat.zero_add, cell_of_row _ _ _ _ _ _ b2]
      simpa using hu⟩
  have hrn := run_any (l := []) (cs := awakeCs) (w := w1.alloc (.cells #[.int .i64 1, .int .u64 5, .int .u64 0, .slice (some ⟨w.heap.size, 0, none⟩) 1 1, .int .i64 1, .int .u64 5, .int .u64 0, .slice none 0 0, .int .i64 4, .int .u64 2, .int .u64 0, .slice none 0 0, .int .i64 4, .int .u64 6, .int .u64 0, .slice none 0 0] 39))
    (v := .slice none 0 0) (.inl ⟨rfl, rfl⟩) hsl (by simp) (by decide) (fun c hc => by
      rw [hcs] at hc
      simp only [List.mem_cons, List.not_mem_nil, or_false] at hc
      rcases hc with rfl | rfl | rfl | rfl
      · exact doneC1 _ _ _
      · exact doneC1 _ _ _
      · exact doneC4 _ _ _
      · exact doneC4 _ _ _)
  rw [awake_run] at hrn
  have HRN := Lib.hid hrn
  have hs0 : w.heap.size + 1 = w1.heap.size := hz1.symm
  clear hrn hsl hrow hnil hby b2 hz1 kc
  rw [hw1, hs0]
  refine HRN.out.mono ?_
  rintro e w5 ⟨x, y, rfl, hBx, hBy, f5⟩
  have f6 : Fr Non w w5 := (f1.trans f2).trans f5
  obtain ⟨xa, xc, rfl⟩ : ∃ a c, x = .slice a 1 c := hBx.form
  obtain ⟨ya, yc, rfl⟩ : ∃ a c, y = .slice a 4 c := hBy.form
  obtain ⟨g, rfl⟩ : ∃ g, ya = some ⟨g, 0, none⟩ := by
    obtain ⟨cs, gr, _⟩ := hBy
    rcases gr.2 with ⟨he, h0⟩ | ⟨G, cap, cur, he, _⟩
    · cases he
    · cases he; exact ⟨G, rfl⟩
  obtain ⟨d0, d1, d2, d3, d4, hyc⟩ : w5.cell? ⟨g, 0, none⟩ = some (.int .i64 0) ∧ w5.cell? ⟨g, 15, none⟩ = some (.int .i64 100) ∧ w5.cell? ⟨g, 31, none⟩ = some (.int .u64 5) ∧ w5.cell? ⟨g, 44, none⟩ = some (.bool true) ∧ w5.cell? ⟨g, 45, none⟩ = some (.int .i64 101) ∧ 4 ≤ yc := by
    obtain ⟨_, _, u0, v0, e0, _, h4, _, r0, _⟩ := res_at hBy.sl 0 (by simp)
    cases e0
    obtain ⟨_, _, u1, v1, e1, _, _, _, r1, _⟩ := res_at hBy.sl 1 (by simp)
    cases e1
    obtain ⟨_, _, u2, v2, e2, _, _, _, r2, _⟩ := res_at hBy.sl 2 (by simp)
    cases e2
    obtain ⟨_, _, u3, v3, e3, _, _, _, r3, _⟩ := res_at hBy.sl 3 (by simp)
    cases e3
    exact ⟨by simpa [mErr] using r0 0 _ rfl, by simpa [mErr] using r1 0 _ rfl, by simpa using r2 1 _ rfl, by simpa using r2 14 _ rfl, by simpa [mErr] using r3 0 _ rfl, h4⟩
  clear hBx hBy f5
  go_wp2_with fail
  go_ret
  exact ⟨by trivial, f6⟩
end Go.Proofs.Ytplhcfaonhkegaa
