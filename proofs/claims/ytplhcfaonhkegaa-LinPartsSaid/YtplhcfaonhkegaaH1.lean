/-
  How what happened lies in cells; done, sure, ahead, nothing.
-/
import Derived.Test.YtplhcfaonhkegaaH0
import Derived.Test.YtplhcfaonhkegaaM11
namespace Go.Proofs.Ytplhcfaonhkegaa
open Go.RowKit Go.Maps

theorem beq_dec (a b : Int) : (a == b) = decide (a = b) := by rw [Bool.eq_iff_iff]; simp
def kHap : Kd MHap := kPair kCall (kPair kRes (kPair kI (kPair kI (kPair kBool kBool))))
def hapCells (x : MHap) (u v1 v2 : Value) : List Value :=
  [.int .i64 x.1.1, .int .u64 x.1.2.1, .int .u64 x.1.2.2.1, u] ++ resCells x.2.1 v1 v2 ++ [.int .i64 x.2.2.1, .int .i64 x.2.2.2.1, .bool x.2.2.2.2.1, .bool x.2.2.2.2.2]
/-- A value that is what happened, with its slices in certain blocks. -/
def HapV (S : Nat → Prop) (w : World) (v : Value) (x : MHap) : Prop :=
  ∃ a0 n0 a1 n1 a2 n2, v = .agg (hapCells x (.slice a0 x.1.2.2.2.length n0) (.slice a1 x.2.1.2.2.1.length n1) (.slice a2 x.2.1.2.2.2.1.length n2)).toArray ∧
    Sl kByte S w (.slice a0 x.1.2.2.2.length n0) x.1.2.2.2 ∧ Sl kByte S w (.slice a1 x.2.1.2.2.1.length n1) x.2.1.2.2.1 ∧ Sl kItem S w (.slice a2 x.2.1.2.2.2.1.length n2) x.2.1.2.2.2.1
theorem HapV.stay {S : Nat → Prop} {w w' : World} {v : Value} {x : MHap} (h : HapV S w v x) (f : Fr Non w w') : HapV S w' v x := by
  obtain ⟨a0, n0, a1, n1, a2, n2, e, h0, h1, h2⟩ := h
  exact ⟨a0, n0, a1, n1, a2, n2, e, h0.stay f, h1.stay f, h2.stay f⟩
theorem HapV.mono {S S' : Nat → Prop} {w : World} {v : Value} {x : MHap} (h : HapV S w v x) (hS : ∀ b, b < w.heap.size → S b → S' b) : HapV S' w v x := by
  obtain ⟨a0, n0, a1, n1, a2, n2, e, h0, h1, h2⟩ := h
  exact ⟨a0, n0, a1, n1, a2, n2, e, h0.mono hS, h1.mono hS, h2.mono hS⟩
theorem HapV.frame {S T : Nat → Prop} {w w' : World} {v : Value} {x : MHap} (h : HapV S w v x) (f : Fr T w w') (hd : ∀ b, b < w.heap.size → S b → ¬ T b) : HapV S w' v x := by
  obtain ⟨a0, n0, a1, n1, a2, n2, e, h0, h1, h2⟩ := h
  exact ⟨a0, n0, a1, n1, a2, n2, e, h0.frame f hd, h1.frame f hd, h2.frame f hd⟩

set_option maxRecDepth 100000 in
set_option maxHeartbeats 2000000 in
theorem hdone_any {S : Nat → Prop} {w w0 : World} {v : Value} {x : MHap} (h : HapV S w0 v x) (k : Int) :
    Calls Try.prog 130 #[v, .int .i64 k] w fun e w' => e = .returned (.bool (hDone x k)) ∧ Fr Non w w' := by
  obtain ⟨a0, n0, a1, n1, a2, n2, rfl, _⟩ := h
  obtain ⟨⟨kd, key, high, bs⟩, ⟨e1, k1, b1, l1, ⟨r1, ⟨r2, r3⟩, r4, r5⟩, ⟨c1, ⟨c2, c3⟩, c4, c5⟩, t1⟩, fr, to, op, fe⟩ := x
  simp only [hapCells, resCells, refCells, List.cons_append, List.nil_append, hDone]
  by_cases h1 : kd = k
  rotate_left
  · have n1 : (kd == k) = false := by simpa using h1
    rw [decide_eq_false h1]
    clear h1
    go_enter Try.func130, Try.ntmps130
    go_wp2_with fail
    go_ret
    exact ⟨by trivial, (Fr.refl _ _).alloc _⟩
  subst h1
  cases op with
  | true =>
    go_enter Try.func130, Try.ntmps130
    go_wp2_with fail
    go_ret
    exact ⟨by simp, (Fr.refl _ _).alloc _⟩
  | false =>
    cases fe with
    | true =>
      go_enter Try.func130, Try.ntmps130
      go_wp2_with fail
      go_ret
      exact ⟨by simp, (Fr.refl _ _).alloc _⟩
    | false =>
      go_enter Try.func130, Try.ntmps130
      go_wp2_with fail
      go_ret
      exact ⟨by rw [show (e1 == 0) = decide (e1 = 0) from beq_dec e1 0]; simp, (Fr.refl _ _).alloc _⟩

set_option maxRecDepth 100000 in
set_option maxHeartbeats 2000000 in
theorem hsure_any {S : Nat → Prop} {w w0 : World} {v : Value} {x : MHap} (h : HapV S w0 v x) :
    Calls Try.prog 134 #[v] w fun e w' => e = .returned (.bool (hSure x)) ∧ Fr Non w w' := by
  obtain ⟨a0, n0, a1, n1, a2, n2, rfl, _⟩ := h
  obtain ⟨⟨kd, key, high, bs⟩, ⟨e1, k1, b1, l1, ⟨r1, ⟨r2, r3⟩, r4, r5⟩, ⟨c1, ⟨c2, c3⟩, c4, c5⟩, t1⟩, fr, to, op, fe⟩ := x
  simp only [hapCells, resCells, refCells, List.cons_append, List.nil_append, hSure]
  cases op with
  | true =>
    go_enter Try.func134, Try.ntmps134
    go_wp2_with fail
    go_ret
    exact ⟨by trivial, (Fr.refl _ _).alloc _⟩
  | false =>
    go_enter Try.func134, Try.ntmps134
    go_wp2_with fail
    go_ret
    exact ⟨by trivial, (Fr.refl _ _).alloc _⟩

set_option maxRecDepth 100000 in
set_option maxHeartbeats 2000000 in
theorem hnothing_any {S : Nat → Prop} {w w0 : World} {v : Value} {x : MHap} (h : HapV S w0 v x) :
    Calls Try.prog 113 #[v] w fun e w' => e = .returned (.bool (hNothing x)) ∧ Fr Non w w' := by
  obtain ⟨a0, n0, a1, n1, a2, n2, rfl, _⟩ := h
  obtain ⟨⟨kd, key, high, bs⟩, ⟨e1, k1, b1, l1, ⟨r1, ⟨r2, r3⟩, r4, r5⟩, ⟨c1, ⟨c2, c3⟩, c4, c5⟩, t1⟩, fr, to, op, fe⟩ := x
  simp only [hapCells, resCells, refCells, List.cons_append, List.nil_append, hNothing]
  cases op with
  | true =>
    go_enter Try.func113, Try.ntmps113
    go_wp2_with fail
    go_ret
    exact ⟨by trivial, (Fr.refl _ _).alloc _⟩
  | false =>
    go_enter Try.func113, Try.ntmps113
    go_wp2_with fail
    go_ret
    exact ⟨by rw [show (e1 == 121) = decide (e1 = 121) from beq_dec e1 121]; simp, (Fr.refl _ _).alloc _⟩

set_option maxRecDepth 100000 in
set_option maxHeartbeats 2000000 in
theorem hahead_any {S S' : Nat → Prop} {w w0 w1 : World} {v v' : Value} {x y : MHap} (h : HapV S w0 v x) (h' : HapV S' w1 v' y) :
    Calls Try.prog 135 #[v, v'] w fun e w' => e = .returned (.bool (hAhead x y)) ∧ Fr Non w w' := by
  obtain ⟨a0, n0, a1, n1, a2, n2, rfl, _⟩ := h
  obtain ⟨a3, n3, a4, n4, a5, n5, rfl, _⟩ := h'
  obtain ⟨⟨kd, key, high, bs⟩, ⟨e1, k1, b1, l1, ⟨r1, ⟨r2, r3⟩, r4, r5⟩, ⟨c1, ⟨c2, c3⟩, c4, c5⟩, t1⟩, fr, to, op, fe⟩ := x
  obtain ⟨⟨kd', key', high', bs'⟩, ⟨e1', k1', b1', l1', ⟨r1', ⟨r2', r3'⟩, r4', r5'⟩, ⟨c1', ⟨c2', c3'⟩, c4', c5'⟩, t1'⟩, fr', to', op', fe'⟩ := y
  simp only [hapCells, resCells, refCells, List.cons_append, List.nil_append, hAhead]
  cases op with
  | true =>
    go_enter Try.func135, Try.ntmps135
    go_wp2_with fail
    go_ret
    exact ⟨by trivial, ((Fr.refl _ _).alloc _).alloc _⟩
  | false =>
    go_enter Try.func135, Try.ntmps135
    go_wp2_with fail
    go_ret
    exact ⟨by simp, ((Fr.refl _ _).alloc _).alloc _⟩
end Go.Proofs.Ytplhcfaonhkegaa
