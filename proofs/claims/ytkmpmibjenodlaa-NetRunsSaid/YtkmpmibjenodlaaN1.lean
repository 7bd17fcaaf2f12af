/-
  Net: the first contracts.
-/
import Derived.Test.YtkmpmibjenodlaaProg
import Derived.Test.YtkmpmibjenodlaaL
import Derived.Test.YtkmpmibjenodlaaA
import Derived.Test.YtkmpmibjenodlaaM
import Derived.KernelRfl
import Derived.Deep.QuietTactic
import Derived.BigQuiet
namespace Go.Proofs.Ytkmpmibjenodlaa
open Go.RowKit Go.Maps

structure Parcel where
  fa : Bool
  fn : Int
  ta : Bool
  tn : Int
  b : List UInt8

def bcs (l : List UInt8) : List Value := l.map fun x => .int .u8 (x.toNat : Int)
theorem bcs_one (l : List UInt8) : ∀ u ∈ bcs l, u.oneCell' = true := by simp [bcs, Value.oneCell']
theorem bcs_len (l : List UInt8) : (bcs l).length = l.length := by simp [bcs]

theorem eI30 : ElemInfo Try.prog 25 30 5 56 := elemInfo (z := .agg #[.bool false, .int .i64 0, .bool false, .int .i64 0, .slice none 0 0]) Try.underlying25 (by kernel_rfl) rfl (by decide)
theorem eI5 : ElemInfo Try.prog 28 5 1 1 := elemInfo (z := .int .u8 0) Try.underlying28 (by kernel_rfl) rfl (by decide)
theorem eI3 : ElemInfo Try.prog 61 3 1 8 := elemInfo (z := .int .i64 0) Try.underlying61 (by kernel_rfl) rfl (by decide)

theorem run_neq_map (w : World) (r : Option Nat) : Sem.run Try.prog (binOp BinOp.neq 56 (Value.map r) (Value.map none)) w = .ok (.bool (!r.isNone)) w :=
  run_neq_map_nil w 56 64 3 r Try.underlying56

theorem made_yes (bn bm : Nat)  (w : World) (h : w.cell? ⟨bn, 1, none⟩ = some (.map (some bm))) :
    Calls Try.prog 25 #[.pointer (some ⟨bn, 0, none⟩)] w fun e w' => e = .returned (.bool true) ∧ w' = w := by
  have hm := fun (w : World) r => run_neq_map w (some r)
  go_enter Try.func25, Try.ntmps25
  go_wp2
  go_ret
  exact ⟨rfl, rfl⟩

theorem made_nil (w : World) :
    Calls Try.prog 25 #[.pointer none] w fun e w' => e = .returned (.bool false) ∧ w' = w := by
  go_enter Try.func25, Try.ntmps25
  go_wp2
  go_ret
  exact ⟨rfl, rfl⟩

theorem made_zero (bn : Nat)  (w : World) (h : w.cell? ⟨bn, 1, none⟩ = some (.map none)) :
    Calls Try.prog 25 #[.pointer (some ⟨bn, 0, none⟩)] w fun e w' => e = .returned (.bool false) ∧ w' = w := by
  have hm := run_neq_map
  go_enter Try.func25, Try.ntmps25
  go_wp2
  go_ret
  exact ⟨rfl, rfl⟩

theorem check_ok (a : Bool) (n : Int) (w : World) (h0 : 0 ≤ n) (h1 : n < 1024) :
    Calls Try.prog 21 #[.agg #[.bool a, .int .i64 n]] w fun e w' => e = .returned (.int .i64 0) ∧ Fr Non w w' := by
  go_enter Try.func21, Try.ntmps21
  go_wp2
  go_ret
  exact ⟨rfl, (Fr.refl _ _).alloc _⟩

theorem check_bad (a : Bool) (n : Int) (w : World) (h : ¬ (0 ≤ n ∧ n < 1024)) :
    Calls Try.prog 21 #[.agg #[.bool a, .int .i64 n]] w fun e w' => e = .returned (.int .i64 50) ∧ Fr Non w w' := by
  go_enter Try.func21, Try.ntmps21
  go_wp2
  all_goals go_ret
  all_goals exact ⟨rfl, (Fr.refl _ _).alloc _⟩

/-- bytes.Clone. -/
theorem clone_any (v : Value) (l : List UInt8) (w : World) (h : Src w 1 v l.length (bcs l)) (hl : l.length ≤ 140737488355328) :
    Calls Try.prog 39 #[v] w fun e w' => ∃ a c, e = .returned (.slice a l.length c) ∧ GRow w' 5 1 (.slice a l.length c) l.length (bcs l) ∧ Fr Non w w' ∧ ∀ b, a = some b → w.heap.size ≤ b.block := by
  have hN := fun (w : World) (a : Option Addr) n c => Lib.run_eql_slice_nil (P := Try.prog) w 28 5 a n c 0 0 Try.underlying28
  rcases h.2.2 with ⟨rfl, h0⟩ | ⟨ad, c, rfl, hc⟩
  · go_enter Try.func39, Try.ntmps39
    go_wp2
    go_ret
    have hl0 : l = [] := List.eq_nil_of_length_eq_zero h0
    subst hl0
    exact ⟨_, _, rfl, GRow.nil _ _ _, Fr.refl _ _, by simp⟩
  · go_enter Try.func39, Try.ntmps39
    go_wp2_with (at_builtin; refine wpList_append_g rfl _ _ eI5 rfl _ 0 [] rfl ?hg _ l.length (bcs l) rfl (h.alloc _) ?h1 ?h2 ?_)
    case hg => exact ⟨by simp, .inr ⟨_, _, _, rfl, heap_alloc_new _ _, Nat.le_refl _, by decide, by simp, by simp⟩⟩
    case h1 => unfold maxLen; omega
    case h2 => omega
    intro v' w' g1 g2 g3 g4
    obtain ⟨a, c', rfl⟩ := g1.form
    go_wp2
    go_ret
    refine ⟨a, c', rfl, g1, (((Fr.refl Non w).alloc _).trans2 g2 fun k hk he => by simp [Value.ownBlock] at he; omega), fun b hb => ?_⟩
    subst hb
    rcases g3 with g3 | g3 <;> simp [Value.ownBlock] at g3 <;> omega

/-- own. -/
theorem own_any (fa ta : Bool) (fn tn : Int) (v : Value) (l : List UInt8) (w : World) (h : Src w 1 v l.length (bcs l)) (hl : l.length ≤ 140737488355328) :
    Calls Try.prog 26 #[.agg #[.bool fa, .int .i64 fn, .bool ta, .int .i64 tn, v]] w fun e w' =>
      ∃ a c, e = .returned (.agg #[.bool fa, .int .i64 fn, .bool ta, .int .i64 tn, .slice a l.length c]) ∧ GRow w' 5 1 (.slice a l.length c) l.length (bcs l) ∧ Fr Non w w' ∧ ∀ b, a = some b → w.heap.size ≤ b.block := by
  obtain ⟨hx1, hx2, hx3⟩ := h
  obtain ⟨va, vc, rfl⟩ : ∃ a c, v = .slice a l.length c := by
    rcases hx3 with ⟨rfl, h0⟩ | ⟨ad, c, rfl, _⟩
    · exact ⟨_, _, by rw [h0]⟩
    · exact ⟨_, _, rfl⟩
  have h : Src w 1 (.slice va l.length vc) l.length (bcs l) := ⟨hx1, hx2, hx3⟩
  clear hx1 hx2 hx3
  go_enter Try.func26, Try.ntmps26
  go_wp2_with fail
  refine (clone_any _ l _ ((h.alloc _).alloc _) hl).mono ?_
  rintro e w' ⟨a, c, rfl, g1, g2, g3⟩
  obtain ⟨b1, f1⟩ := g2.box (alloc_at2 _ _ _) id
  obtain ⟨b2, f2⟩ := g2.box (alloc_at2' _ _ _) id
  have hz := g2.size
  simp only [World.size_alloc] at hz
  go_wp2_with fail
  refine bodyPost_ret (v := .agg #[.bool fa, .int .i64 fn, .bool ta, .int .i64 tn, .slice a l.length c]) (by simp [results, Try.results26, go_sem, b2]) rfl ⟨a, c, rfl, ?_, ?_, fun b hb => by have := g3 b hb; simp at this; omega⟩
  · refine g1.keep fun k hk => ?_
    cases a with
    | none => simp [Value.ownBlock] at hk
    | some ad =>
      simp [Value.ownBlock] at hk; subst hk
      have h3 := g3 ad rfl
      simp only [World.size_alloc] at h3
      simp only [heap_setCell_other, show ad.block ≠ w.heap.size from by omega, show ad.block ≠ w.heap.size + 1 from by omega, ne_eq, not_false_eq_true]
  · have := (((Fr.refl Non w).alloc (.cells #[Value.bool fa, Value.int IntKind.i64 fn, Value.bool ta, Value.int IntKind.i64 tn, Value.slice va l.length vc] 30)).alloc (.cells #[Value.bool false, Value.int IntKind.i64 0, Value.bool false, Value.int IntKind.i64 0, Value.slice none 0 0] 30)).trans g2
    repeat (refine Fr.setCell ?_ (.inr (by simp)) _)
    exact this
end Go.Proofs.Ytkmpmibjenodlaa
