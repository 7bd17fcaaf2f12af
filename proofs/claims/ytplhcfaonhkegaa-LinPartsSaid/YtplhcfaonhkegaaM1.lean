/-
  How calls, items and results lie in cells; bytes.
-/
import Derived.Test.YtplhcfaonhkegaaProg
import Derived.Test.YtplhcfaonhkegaaM0
import Derived.Test.YtplhcfaonhkegaaM
import Derived.KernelRfl
import Derived.Deep.QuietTactic
import Derived.BigQuiet
import Derived.Test.YtplhcfaonhkegaaR
import Derived.Test.YtplhcfaonhkegaaD
import Derived.Test.YtplhcfaonhkegaaE
import Derived.Test.YtplhcfaonhkegaaS
import Derived.Lib.SlBytesConst
import Derived.Laws.BytesString
namespace Go.Proofs.Ytplhcfaonhkegaa
open Go.RowKit Go.Maps

def kI : Kd Int := kInt .i64
def kU : Kd Int := kInt .u64
def kItem : Kd MItem := kPair kU (kRow kByte 1)
def kCall : Kd MCall := kPair kI (kPair kU (kPair kU (kRow kByte 1)))
def kRef : Kd MRef := kPair kI (kPair (kPair kI kU) (kPair kI kU))
def kRes : Kd MRes := kPair kI (kPair kU (kPair (kRow kByte 1) (kPair (kRow kItem 32) (kPair kRef (kPair kRef kBool)))))

theorem wf_u64 {x : Int} : (Lit.int .u64 x).wf = true ↔ 0 ≤ x ∧ x ≤ 18446744073709551615 := by
  have h1 : IntKind.min .u64 = 0 := by decide
  have h2 : IntKind.max .u64 = 18446744073709551615 := by decide
  simp only [Lit.wf, Bool.and_eq_true, decide_eq_true_eq, h1, h2]
theorem wf_i64 {x : Int} : (Lit.int .i64 x).wf = true ↔ -9223372036854775808 ≤ x ∧ x ≤ 9223372036854775807 := by
  have h1 : IntKind.min .i64 = -9223372036854775808 := by decide
  have h2 : IntKind.max .i64 = 9223372036854775807 := by decide
  simp only [Lit.wf, Bool.and_eq_true, decide_eq_true_eq, h1, h2]

section
variable {S : Nat → Prop} {w : World} {cs : List Value}
theorem item_cells {x : MItem} (h : kItem.rd S w cs x) : ∃ v, cs = [.int .u64 x.1, v] ∧ Sl kByte S w v x.2 ∧ x.2.length ≤ reachBytes ∧ 0 ≤ x.1 ∧ x.1 ≤ 18446744073709551615 := by
  obtain ⟨_, _, rfl, ⟨rfl, h1⟩, v, rfl, hv, hB⟩ := h
  obtain ⟨h2, h3⟩ := wf_u64.1 h1
  exact ⟨v, rfl, hv, by omega, h2, h3⟩
theorem cells_item {x : MItem} {v : Value} (hv : Sl kByte S w v x.2) (hB : x.2.length ≤ reachBytes) (h0 : 0 ≤ x.1) (h1 : x.1 ≤ 18446744073709551615) : kItem.rd S w [.int .u64 x.1, v] x :=
  ⟨[.int .u64 x.1], [v], rfl, ⟨rfl, wf_u64.2 ⟨h0, h1⟩⟩, v, rfl, hv, by omega⟩
theorem call_cells {x : MCall} (h : kCall.rd S w cs x) : ∃ v, cs = [.int .i64 x.1, .int .u64 x.2.1, .int .u64 x.2.2.1, v] ∧ Sl kByte S w v x.2.2.2 ∧ x.2.2.2.length ≤ reachBytes ∧ (0 ≤ x.2.1 ∧ x.2.1 ≤ 18446744073709551615) ∧ (0 ≤ x.2.2.1 ∧ x.2.2.1 ≤ 18446744073709551615) ∧ (Lit.int .i64 x.1).wf = true := by
  obtain ⟨_, _, rfl, ⟨rfl, h1⟩, _, _, rfl, ⟨rfl, h2⟩, _, _, rfl, ⟨rfl, h3⟩, v, rfl, hv, hB⟩ := h
  exact ⟨v, rfl, hv, by omega, wf_u64.1 h2, wf_u64.1 h3, h1⟩
theorem cells_call {x : MCall} {v : Value} (hv : Sl kByte S w v x.2.2.2) (hB : x.2.2.2.length ≤ reachBytes) (h1 : 0 ≤ x.2.1 ∧ x.2.1 ≤ 18446744073709551615) (h2 : 0 ≤ x.2.2.1 ∧ x.2.2.1 ≤ 18446744073709551615) (h3 : (Lit.int .i64 x.1).wf = true) :
    kCall.rd S w [.int .i64 x.1, .int .u64 x.2.1, .int .u64 x.2.2.1, v] x :=
  ⟨[.int .i64 x.1], _, rfl, ⟨rfl, h3⟩, [.int .u64 x.2.1], _, rfl, ⟨rfl, wf_u64.2 h1⟩, [.int .u64 x.2.2.1], _, rfl, ⟨rfl, wf_u64.2 h2⟩, v, rfl, hv, by omega⟩
def refCells (x : MRef) : List Value := [.int .i64 x.1, .int .i64 x.2.1.1, .int .u64 x.2.1.2, .int .i64 x.2.2.1, .int .u64 x.2.2.2]
theorem ref_cells {x : MRef} (h : kRef.rd S w cs x) : cs = refCells x := by
  obtain ⟨_, _, rfl, ⟨rfl, _⟩, _, _, rfl, ⟨_, _, rfl, ⟨rfl, _⟩, rfl, _⟩, _, _, rfl, ⟨rfl, _⟩, rfl, _⟩ := h
  rfl
theorem cells_ref0 : kRef.rd S w (refCells r0) r0 :=
  ⟨[.int .i64 0], _, rfl, ⟨rfl, by decide⟩, [.int .i64 0, .int .u64 0], _, rfl, ⟨[.int .i64 0], _, rfl, ⟨rfl, by decide⟩, rfl, by decide⟩, [.int .i64 0], _, rfl, ⟨rfl, by decide⟩, rfl, by decide⟩
def resCells (x : MRes) (u v : Value) : List Value := [.int .i64 x.1, .int .u64 x.2.1, u, v] ++ (refCells x.2.2.2.2.1 ++ (refCells x.2.2.2.2.2.1 ++ [.bool x.2.2.2.2.2.2]))
theorem res_cells {x : MRes} (h : kRes.rd S w cs x) : ∃ u v, cs = resCells x u v ∧ Sl kByte S w u x.2.2.1 ∧ x.2.2.1.length ≤ reachBytes ∧ Sl kItem S w v x.2.2.2.1 ∧ x.2.2.2.1.length * 32 ≤ reachBytes ∧ (0 ≤ x.2.1 ∧ x.2.1 ≤ 18446744073709551615) := by
  obtain ⟨_, _, rfl, ⟨rfl, _⟩, _, _, rfl, ⟨rfl, h1⟩, _, _, rfl, ⟨u, rfl, hu, hB⟩, _, _, rfl, ⟨v, rfl, hv, hC⟩, _, _, rfl, h2, _, _, rfl, h3, rfl⟩ := h
  rw [ref_cells h2, ref_cells h3]
  exact ⟨u, v, rfl, hu, by omega, hv, hC, wf_u64.1 h1⟩
theorem cells_res {e k : Int} {b : List UInt8} {l : List MItem} {f : Bool} {u v : Value} (he : (Lit.int .i64 e).wf = true) (hk : 0 ≤ k ∧ k ≤ 18446744073709551615) (hu : Sl kByte S w u b) (hB : b.length ≤ reachBytes) (hv : Sl kItem S w v l) (hC : l.length * 32 ≤ reachBytes) :
    kRes.rd S w (resCells (e, k, b, l, r0, r0, f) u v) (e, k, b, l, r0, r0, f) :=
  ⟨[.int .i64 e], _, rfl, ⟨rfl, he⟩, [.int .u64 k], _, rfl, ⟨rfl, wf_u64.2 hk⟩, [u], _, rfl, ⟨u, rfl, hu, by simpa using hB⟩, [v], _, rfl, ⟨v, rfl, hv, hC⟩, refCells r0, _, rfl, cells_ref0, refCells r0, _, rfl, cells_ref0, rfl⟩
end

/-- Bytes. -/
def bcs (l : List UInt8) : List Value := l.map fun x => .int .u8 (x.toNat : Int)
theorem bcs_one (l : List UInt8) : ∀ u ∈ bcs l, u.oneCell' = true := by simp [bcs, Value.oneCell']
theorem bcs_len (l : List UInt8) : (bcs l).length = l.length := by simp [bcs]
theorem eI5 : ElemInfo Try.prog 37 5 1 1 := elemInfo (z := .int .u8 0) Try.underlying37 (by kernel_rfl) rfl (by decide)
theorem eI60 : ElemInfo Try.prog 22 60 2 32 := elemInfo (z := .agg #[.int .u64 0, .slice none 0 0]) Try.underlying22 (by kernel_rfl) rfl (by decide)
theorem eI52 : ElemInfo Try.prog 26 52 15 152 := elemInfo (z := .agg (resCells (mErr 0) (.slice none 0 0) (.slice none 0 0)).toArray) Try.underlying26 (by kernel_rfl) rfl (by decide)

theorem sl_src {S : Nat → Prop} {w : World} {v : Value} {l : List UInt8} (h : Sl kByte S w v l) : Src w 1 v l.length (bcs l) := by
  refine ⟨by simp [bcs], fun u hu => by obtain ⟨x, _, rfl⟩ := List.mem_map.1 hu; rfl, ?_⟩
  rcases h with ⟨rfl, rfl⟩ | ⟨a, c, rfl, h1, h2, h3, h4⟩
  · exact .inl ⟨rfl, rfl⟩
  · refine .inr ⟨a, c, rfl, fun j u hu => ?_⟩
    have hj : j < l.length := by have := (List.getElem?_eq_some_iff.1 hu).1; simpa [bcs] using this
    obtain ⟨b, o, sp⟩ := a
    have hne : l ≠ [] := by intro e; subst e; simp at hj
    obtain ⟨hsp, _⟩ := h3 hne
    simp only at hsp
    subst hsp
    rw [addr_add']
    obtain ⟨cs, hr, hc⟩ := h4 j hj
    have hcs : cs = [Value.int .u8 (l[j].toNat : Int)] := hr
    subst hcs
    have h0 := hc 0 (by simp)
    have hsz : kByte.sz = 1 := rfl
    rw [hsz] at h0
    simp only [Nat.mul_one, Nat.add_zero, List.getElem_cons_zero] at h0
    rw [h0]
    simp [bcs, hj] at hu
    rw [hu]
theorem grow_sl {S : Nat → Prop} {w : World} {v : Value} {l : List UInt8} (h : GRow w 5 1 v l.length (bcs l)) (hS : ∀ b, v.ownBlock = some b → S b) : Sl kByte S w v l := by
  rcases id h.2 with ⟨rfl, h0⟩ | ⟨b, cap, cur, rfl, _, h1, h2, _⟩
  · exact .inl ⟨rfl, List.eq_nil_of_length_eq_zero h0⟩
  · refine .inr ⟨_, _, rfl, h1, h2, fun _ => ⟨rfl, hS b rfl⟩, fun i hi => ⟨[.int .u8 (l[i].toNat : Int)], rfl, fun j hj => ?_⟩⟩
    have hj0 : j = 0 := by simpa using hj
    subst hj0
    have hsz : kByte.sz = 1 := rfl
    rw [hsz]
    simp only [Nat.mul_one, Nat.add_zero, Nat.zero_add, List.getElem_cons_zero]
    exact h.cells rfl i _ (by simp [bcs, hi])

theorem bytes_fold : ∀ (l : List UInt8) (s : ByteArray), (l.map fun x => (x.toNat : Int)).foldl (fun r n => r.push (UInt8.ofNat n.toNat)) s = ⟨s.data ++ l.toArray⟩
  | [], s => by simp
  | n :: ns, s => by
    rw [List.map_cons, List.foldl_cons, bytes_fold ns]
    simp [ByteArray.push]

/-- The text of a row of bytes. -/
theorem conv_src {w : World} {v : Value} {m : Nat} {l : List UInt8} (h : Src w 1 v m (bcs l)) : (convert 37 9 v).run Try.prog w = .ok (.string ⟨l.toArray⟩) w := by
  rcases h.2.2 with ⟨rfl, h0⟩ | ⟨ad, c, rfl, hc⟩
  · have hl : l = [] := by have := h.1; subst h0; simpa [bcs] using this
    subst hl
    rw [run_convert_bytes_string w 37 9 5 none 0 0 Try.underlying37 Try.underlying5 Try.underlying9]
    simp [Conv.bytesToString]
    rfl
  · have hl : (bcs l).length = m := by have := h.1; omega
    rw [run_convert_bytes_string w 37 9 5 (some ad) m c Try.underlying37 Try.underlying5 Try.underlying9]
    rw [run_bytesToString w ad m c (l.map fun x => (x.toNat : Int)) (by
      have := run_loadCells_list (P := Try.prog) w ad (bcs l) hc
      rw [hl] at this
      rw [this]; simp [bcs])]
    rw [bytes_fold]
    simp [ByteArray.empty, ByteArray.emptyWithCapacity]
    rfl

set_option maxHeartbeats 1000000 in
theorem clone_bytes {w : World} {v : Value} {l : List UInt8} (h : Sl kByte All w v l) (hl : l.length ≤ reachBytes) :
    Calls Try.prog 72 #[v] w fun e w' => ∃ a c, e = .returned (.slice a l.length c) ∧ Sl kByte (fun b => w.heap.size ≤ b) w' (.slice a l.length c) l ∧ Fr Non w w' := by
  have hs := sl_src h
  have hr : reachBytes ≤ 140737488355328 := by decide
  have hN := fun (w : World) (a : Option Addr) n c => Lib.run_eql_slice_nil (P := Try.prog) w 37 5 a n c 0 0 Try.underlying37
  rcases hs.2.2 with ⟨rfl, h0⟩ | ⟨ad, c, rfl, hc⟩
  · go_enter Try.func72, Try.ntmps72
    go_wp2
    go_ret
    have hl0 : l = [] := List.eq_nil_of_length_eq_zero h0
    subst hl0
    exact ⟨_, _, rfl, .inl ⟨rfl, rfl⟩, Fr.refl _ _⟩
  · go_enter Try.func72, Try.ntmps72
    go_wp2_with (at_builtin; refine wpList_append_g rfl _ _ eI5 rfl _ 0 [] rfl ?hg _ l.length (bcs l) rfl (hs.alloc _) ?h1 ?h2 ?_)
    case hg => exact ⟨by simp, .inr ⟨_, _, _, rfl, heap_alloc_new _ _, Nat.le_refl _, by decide, by simp, by simp⟩⟩
    case h1 => unfold maxLen; omega
    case h2 => omega
    intro v' w' g1 g2 g3 g4
    obtain ⟨a, c', rfl⟩ := g1.form
    go_wp2
    go_ret
    refine ⟨a, c', rfl, grow_sl (by simpa using g1) (fun b hb => ?_), (((Fr.refl Non w).alloc _).trans2 g2 fun k hk he => by simp [Value.ownBlock] at he; omega)⟩
    rw [hb] at g3
    rcases g3 with g3 | g3 <;> simp [Value.ownBlock] at g3 <;> omega

/-- bytes.Equal. -/
theorem bytes_equal {w : World} {u v : Value} {l m : List UInt8} (hu : Sl kByte All w u l) (hv : Sl kByte All w v m) :
    Calls Try.prog 79 #[u, v] w fun e w' => e = .returned (.bool (decide (l = m))) ∧ w' = w := by
  have k1 := conv_src (sl_src hu)
  have k2 := conv_src (sl_src hv)
  obtain ⟨a, c, rfl, _⟩ := hu.frm
  obtain ⟨b, d, rfl, _⟩ := hv.frm
  by_cases e : l = m
  · subst e
    go_enter Try.func79, Try.ntmps79
    go_wp2
    go_ret
    exact ⟨by simp, rfl⟩
  · have e5 : ¬ ((⟨l.toArray⟩ : ByteArray) = ⟨m.toArray⟩) := fun h => e (by simpa using congrArg (fun x : ByteArray => x.data.toList) h)
    go_enter Try.func79, Try.ntmps79
    go_wp2
    go_ret
    exact ⟨by simp_all, rfl⟩
end Go.Proofs.Ytplhcfaonhkegaa
