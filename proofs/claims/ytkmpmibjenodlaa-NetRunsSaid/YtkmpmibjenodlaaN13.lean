/-
  Net: the law's helpers: a row's text; alive.
-/
import Derived.Test.YtkmpmibjenodlaaN12
import Derived.Laws.BytesString
import Derived.Lib.SlBytesConst
namespace Go.Proofs.Ytkmpmibjenodlaa
open Go.RowKit Go.Maps

theorem bytes_fold : ∀ (l : List UInt8) (s : ByteArray), (l.map fun x => (x.toNat : Int)).foldl (fun r n => r.push (UInt8.ofNat n.toNat)) s = ⟨s.data ++ l.toArray⟩
  | [], s => by simp
  | n :: ns, s => by
    rw [List.map_cons, List.foldl_cons, bytes_fold ns]
    simp [ByteArray.push]

/-- The text of a row of bytes. -/
theorem conv_src {w : World} {v : Value} {m : Nat} {l : List UInt8} (h : Src w 1 v m (bcs l)) : (convert 28 9 v).run Try.prog w = .ok (.string ⟨l.toArray⟩) w := by
  rcases h.2.2 with ⟨rfl, h0⟩ | ⟨ad, c, rfl, hc⟩
  · have hl : l = [] := by have := h.1; subst h0; simpa [bcs] using this
    subst hl
    rw [run_convert_bytes_string w 28 9 5 none 0 0 Try.underlying28 Try.underlying5 Try.underlying9]
    simp [Conv.bytesToString]
    rfl
  · have hl : (bcs l).length = m := by have := h.1; omega
    rw [run_convert_bytes_string w 28 9 5 (some ad) m c Try.underlying28 Try.underlying5 Try.underlying9]
    rw [run_bytesToString w ad m c (l.map fun x => (x.toNat : Int)) (by
      have := run_loadCells_list (P := Try.prog) w ad (bcs l) hc
      rw [hl] at this
      rw [this]; simp [bcs])]
    rw [bytes_fold]
    simp [ByteArray.empty, ByteArray.emptyWithCapacity]
    rfl

theorem grow_src {w : World} {v : Value} {n : Nat} {l : List UInt8} (h : GRow w 5 1 v n (bcs l)) : Src w 1 v n (bcs l) := h.src (by
  intro u hu
  obtain ⟨x, _, rfl⟩ := List.mem_map.1 hu
  rfl)
theorem conv_row {w : World} {v : Value} {m : Nat} {l : List UInt8} (h : GRow w 5 1 v m (bcs l)) : (convert 28 9 v).run Try.prog w = .ok (.string ⟨l.toArray⟩) w := conv_src (grow_src h)

/-- A net of one's own since w0. -/
structure Mine (w0 w : World) (bn bm : Nat) (lv : Value) (vs : List Value) (k : Nat) (st : NetSt) : Prop where
  fr : Fr Non w0 w
  net : NetAt w bn bm lv vs k st
  new : ∀ b ∈ netFp bn bm lv vs, w0.heap.size ≤ b
theorem Mine.quiet {w0 w w' : World} {bn bm : Nat} {lv : Value} {vs : List Value} {k : Nat} {st : NetSt} (h : Mine w0 w bn bm lv vs k st) (f : Fr Non w w') : Mine w0 w' bn bm lv vs k st :=
  ⟨h.fr.trans f, h.net.fr f (fun _ _ => id), h.new⟩
theorem Mine.post {w0 w w' : World} {bn bm : Nat} {lv lv' : Value} {vs vs' : List Value} {k k' : Nat} {st st' : NetSt} (h : Mine w0 w bn bm lv vs k st) (f : Fr (fun b => b ∈ netFp bn bm lv vs) w w')
    (n : NetAt w' bn bm lv' vs' k' st') (hs : ∀ b ∈ netFp bn bm lv' vs', b ∈ netFp bn bm lv vs ∨ w.heap.size ≤ b) : Mine w0 w' bn bm lv' vs' k' st' :=
  ⟨h.fr.trans2 f (fun b hb hm => by have := h.new b hm; omega), n, fun b hb => (hs b hb).elim (h.new b) (fun hx => Nat.le_trans h.fr.size hx)⟩
theorem Mine.alloc {w0 w : World} {bn bm : Nat} {lv : Value} {vs : List Value} {k : Nat} {st : NetSt} (h : Mine w0 w bn bm lv vs k st) (o : Obj) : Mine w0 (w.alloc o) bn bm lv vs k st := h.quiet ((Fr.refl _ _).alloc _)

set_option maxRecDepth 100000 in
set_option maxHeartbeats 4000000 in
theorem alive_any (w : World) : Calls Try.prog 15 #[] w fun e w' => e = .returned (.bool true) ∧ Fr Non w w' := by
  have kc := fun (w : World) (C : Array Value) (n c : Nat) => Lib.run_convert_bytes_const (P := Try.prog) w 28 5 C n c Try.underlying28 Try.underlying5
  go_enter Try.func15, Try.ntmps15
  go_wp2_with fail
  refine (new_any _).mono ?_
  rintro e w1 ⟨bn, bm, rfl, h1, f1, d1⟩
  go_wp2_with fail
  have a1 := (Mine.mk f1 h1 d1).alloc (.cells #[.int .u8 97] 5 (1, 2))
  refine (put_ok a1.net (by omega) ⟨false, 0, false, 0, [97]⟩ _ (Src.block (m := 1) (alloc_at w1 _) rfl (by simp [Value.oneCell'])) (by decide) (by decide) (by decide) (by decide)).mono ?_
  rintro e w2 ⟨rfl, f2, lv2, vs2, h2, d2⟩
  go_wp2_with fail
  have a2 := (a1.post f2 h2 d2).alloc (.cells #[.int .u8 98] 5 (1, 2))
  refine (put_ok a2.net (by omega) ⟨false, 0, true, 3, [98]⟩ _ (Src.block (m := 1) (alloc_at w2 _) rfl (by simp [Value.oneCell'])) (by decide) (by decide) (by decide) (by decide)).mono ?_
  rintro e w3 ⟨rfl, f3, lv3, vs3, h3, d3⟩
  have a3 := a2.post f3 h3 d3
  go_wp2_with fail
  refine (swap_ok h3 0 1 (by decide) (by decide)).mono ?_
  rintro e w4 ⟨rfl, f4, lv4, vs4, h4, d4⟩
  replace h4 : NetAt w4 bn bm lv4 vs4 2 { l := [⟨false, 0, true, 3, [98]⟩, ⟨false, 0, false, 0, [97]⟩], c := _ } := h4
  have a4 := a3.post f4 h4 d4
  go_wp2_with fail
  refine (take_ok h4 (by omega) 0 (by decide)).mono ?_
  rintro e w5 ⟨rfl, f5, ⟨lv5, vs5, h5, d5, _⟩, g5⟩
  obtain ⟨va, vc, hv⟩ : ∃ a c, vs4[0]'(h4.bytes.len ▸ (by decide)) = .slice a 1 c := g5.form
  rw [hv] at g5 ⊢
  clear hv
  simp only [pcs, List.getElem_cons_zero]
  have a5 := (a4.post f5 h5 d5).alloc (.cells #[.bool false, .int .i64 0, .bool true, .int .i64 3, .slice va 1 vc] 30)
  have hcv := conv_row (g5.keep (w' := w5.alloc (.cells #[.bool false, .int .i64 0, .bool true, .int .i64 3, .slice va 1 vc] 30)) (fun b hb => Below.heap_alloc _ _ _ (g5.lt b hb)))
  go_wp2_with fail
  refine (len_any a5.net).mono ?_
  rintro e w6 ⟨rfl, rfl⟩
  go_wp2_with fail
  go_ret
  exact ⟨rfl, a5.fr⟩
end Go.Proofs.Ytkmpmibjenodlaa
