/-
  What a map told, call by call, is linearizable: the plain law.
  Told, walked.
  The law of what a map told, walked.
-/
import Derived.Test.YtplhcfaonhkegaaLG
import Derived.KernelRfl
namespace Go.Proofs.Ytplhcfaonhkegaa
open Go.RowKit

abbrev MWas := MCall × (UInt8 × (UInt8 × (Bool × Bool)))
def wAt (i : Nat) : Int := 1000 + 10 * (i : Int)
def wHap (i : Nat) (x : MWas) (r : MRes) : MHap :=
  (x.1, (if x.2.2.2.1 then mErr 0 else r), wAt i - (x.2.1.toNat : Int), (if x.2.2.2.1 then 0 else wAt i + (x.2.2.1.toNat : Int)), x.2.2.2.1, (x.2.2.2.2 && !x.2.2.2.1))
def lTold : Nat → List MItem → Nat → List MWas → List MHap
  | _, _, _, [] => []
  | i, m, n, x :: xs =>
    if 40 ≤ n then []
    else if x.1.1 = 5 ∨ 200 < x.1.2.2.2.length then lTold (i + 1) m n xs
    else if (mDo m x.1).2.2 = 0 then wHap i x (mDo m x.1).2.1 :: lTold (i + 1) (mDo m x.1).1 (n + 1) xs
    else lTold (i + 1) m n xs
theorem mDo_zero {m : List MItem} {c : MCall} (h : (mDo m c).2.2 = 0) : mOk none m = true ∧ mCallOk c = true ∧ mDo m c = ((mDone m c).1, (mDone m c).2, 0) := by
  unfold mDo at h ⊢
  by_cases h1 : mOk none m = true
  · by_cases h2 : mCallOk c = true
    · exact ⟨h1, h2, by rw [if_pos h1, if_pos h2]⟩
    · rw [if_pos h1, if_neg h2] at h
      cases h
  · rw [if_neg h1] at h
    cases h
theorem lTold_ok : ∀ (xs : List MWas) (i : Nat) (m : List MItem) (n : Nat), mOk none m = true → n ≤ 40 →
    (lTold i m n xs).length ≤ 40 - n ∧ (∀ y ∈ lTold i m n xs, lMay y = true ∧ ∃ j, i ≤ j ∧ y.2.2.1 ≤ wAt j ∧ (y.2.2.2.2.1 = false → wAt j ≤ y.2.2.2.1)) ∧
      (lAll m (lTold i m n xs)).isSome = true ∧ (lTold i m n xs).Pairwise fun a b => hAhead b a = false
  | [], i, m, n, _, _ => by simp [lTold, lAll]
  | x :: xs, i, m, n, hm, hn => by
    have skip : ∀ m', mOk none m' = true → (lTold (i + 1) m' n xs).length ≤ 40 - n ∧ (∀ y ∈ lTold (i + 1) m' n xs, lMay y = true ∧ ∃ j, i ≤ j ∧ y.2.2.1 ≤ wAt j ∧ (y.2.2.2.2.1 = false → wAt j ≤ y.2.2.2.1)) ∧
        (lAll m' (lTold (i + 1) m' n xs)).isSome = true ∧ (lTold (i + 1) m' n xs).Pairwise fun a b => hAhead b a = false := fun m' hm' => by
      obtain ⟨h1, h2, h3, h4⟩ := lTold_ok xs (i + 1) m' n hm' hn
      refine ⟨h1, fun y hy => ?_, h3, h4⟩
      obtain ⟨a, j, hj, b⟩ := h2 y hy
      exact ⟨a, j, by omega, b⟩
    rw [lTold]
    by_cases hn40 : 40 ≤ n
    · rw [if_pos hn40]
      simp [lAll]
    rw [if_neg hn40]
    by_cases hs : x.1.1 = 5 ∨ 200 < x.1.2.2.2.length
    · rw [if_pos hs]
      exact skip m hm
    rw [if_neg hs]
    by_cases h0 : (mDo m x.1).2.2 = 0
    rotate_left
    · rw [if_neg h0]
      exact skip m hm
    rw [if_pos h0]
    obtain ⟨k1, k2, k3⟩ := mDo_zero h0
    have hm2 := mDone_ok (c := x.1) hm k2
    rw [k3]
    simp only
    obtain ⟨h1, h2, h3, h4⟩ := lTold_ok xs (i + 1) (mDone m x.1).1 (n + 1) hm2 (by omega)
    have ha := x.2.1.toNat_lt
    have hb := x.2.2.1.toNat_lt
    have hy0 : (wHap i x (mDone m x.1).2).2.2.1 ≤ wAt i := by unfold wHap; simp only; omega
    refine ⟨by rw [List.length_cons]; omega, fun y hy => ?_, ?_, ?_⟩
    · rcases List.mem_cons.1 hy with rfl | hy
      · refine ⟨?_, i, Nat.le_refl _, hy0, fun ho => ?_⟩
        · unfold lMay wHap
          simp only [Bool.and_eq_true, decide_eq_true_eq]
          refine ⟨k2, fun e => hs (.inl e), by unfold wAt; omega, ?_⟩
          cases x.2.2.2.1 with
          | true => simp
          | false => simp; omega
        · have ho' : x.2.2.2.1 = false := ho
          unfold wHap
          simp only [ho']
          simp
          omega
      · obtain ⟨a, j, hj, b⟩ := h2 y hy
        exact ⟨a, j, by omega, b⟩
    · have e : lAfter m (wHap i x (mDone m x.1).2) = some (mDone m x.1).1 := lAfter_of hm k2 fun hs => by
        unfold hSure wHap at hs
        simp only [Bool.and_eq_true, Bool.not_eq_true'] at hs
        unfold wHap
        simp only [hs.1]
        simp
      rw [lAll, e]
      exact h3
    · refine List.pairwise_cons.2 ⟨fun y hy => ?_, h4⟩
      obtain ⟨_, j, hj, _, hto⟩ := h2 y hy
      unfold hAhead
      cases ho : y.2.2.2.2.1 with
      | true => rfl
      | false =>
        have h5 := hto ho
        simp only [Bool.not_false, Bool.true_and, decide_eq_false_iff_not]
        have : wAt i < wAt j := by unfold wAt; omega
        omega
theorem pick_all (l : List MHap) : lPick l (List.range l.length) = l := by
  apply List.ext_getElem?
  intro k
  rw [pick_get (fun p hp => List.mem_range.1 hp)]
  by_cases hk : k < l.length
  · rw [List.getElem?_range hk, Option.bind_some]
  · rw [List.getElem?_eq_none (by simpa using hk), List.getElem?_eq_none (by omega)]
    rfl
/-- The law. -/
theorem lin_was (xs : List MWas) : (lLinear (lTold 0 [] 0 xs)).2 = 3 ∨ ((lLinear (lTold 0 [] 0 xs)).2 = 0 ∧ (lLinear (lTold 0 [] 0 xs)).1 = true) := by
  obtain ⟨h1, h2, h3, h4⟩ := lTold_ok xs 0 [] 0 rfl (by omega)
  refine lin_has (lCheck_iff.2 ⟨by omega, fun y hy => (h2 y hy).1⟩) ⟨List.range (lTold 0 [] 0 xs).length, fun i hi => List.mem_range.1 hi, List.nodup_range, ?_, fun k x hx _ => List.mem_range.2 (List.getElem?_eq_some_iff.1 hx).1, by rw [pick_all]; exact h3⟩
  refine List.pairwise_iff_getElem.2 fun i j hi hj hij x y hx hy => ?_
  simp only [List.getElem_range] at hx hy
  obtain ⟨a, rfl⟩ := List.getElem?_eq_some_iff.1 hx
  obtain ⟨b, rfl⟩ := List.getElem?_eq_some_iff.1 hy
  exact List.pairwise_iff_getElem.1 h4 i j a b hij
end Go.Proofs.Ytplhcfaonhkegaa

namespace Go.Proofs.Ytplhcfaonhkegaa
open Go.RowKit Go.Maps

abbrev kWas : Kd MWas := kPair kCall (kPair kByte (kPair kByte (kPair kBool kBool)))
/-- One of a row, with its cells. -/
theorem was_at {S : Nat → Prop} {w : World} {a : Option Addr} {n c : Nat} {l : List MWas} (h : Sl kWas S w (.slice a n c) l) (i : Nat) (hi : i < l.length) :
    ∃ (b o : Nat) (a0 : Option Addr) (n0 : Nat), a = some ⟨b, o, none⟩ ∧ Sl kByte S w (.slice a0 l[i].1.2.2.2.length n0) l[i].1.2.2.2 ∧ (0 ≤ l[i].1.2.1 ∧ l[i].1.2.1 ≤ 18446744073709551615) ∧ (0 ≤ l[i].1.2.2.1 ∧ l[i].1.2.2.1 ≤ 18446744073709551615) ∧ (Lit.int .i64 l[i].1.1).wf = true ∧ l[i].1.2.2.2.length ≤ reachBytes ∧
      (∀ y, Fr Non w y → (Instr.loadAt 39 (.pointer (some ⟨b, o + i * 8, none⟩))).run Try.prog y = .ok (.agg #[.int .i64 l[i].1.1, .int .u64 l[i].1.2.1, .int .u64 l[i].1.2.2.1, .slice a0 l[i].1.2.2.2.length n0]) y ∧
        y.cell? ⟨b, o + i * 8, none⟩ = some (.int .i64 l[i].1.1) ∧ y.cell? ⟨b, o + i * 8 + 3, none⟩ = some (.slice a0 l[i].1.2.2.2.length n0) ∧ y.cell? ⟨b, o + i * 8 + 4, none⟩ = some (.int .u8 (l[i].2.1.toNat : Int)) ∧
        y.cell? ⟨b, o + i * 8 + 5, none⟩ = some (.int .u8 (l[i].2.2.1.toNat : Int)) ∧ y.cell? ⟨b, o + i * 8 + 6, none⟩ = some (.bool l[i].2.2.2.1) ∧ y.cell? ⟨b, o + i * 8 + 7, none⟩ = some (.bool l[i].2.2.2.2)) := by
  obtain ⟨b, o, cs, rfl, _, _, _, hr, hc⟩ := h.at i hi
  have hsz : kWas.sz = 8 := rfl
  rw [hsz] at hc
  obtain ⟨c1, _, rfl, h1, d1, _, rfl, h2, d2, _, rfl, h3, d3, d4, rfl, h4, h5⟩ := hr
  obtain ⟨v, rfl, hv, hB, hk, hm, hw⟩ := call_cells h1
  obtain ⟨a0, n0, rfl, _⟩ := hv.frm
  have e1 : d1 = [.int .u8 (l[i].2.1.toNat : Int)] := h2
  have e2 : d2 = [.int .u8 (l[i].2.2.1.toNat : Int)] := h3
  have e3 : d3 = [.bool l[i].2.2.2.1] := h4
  have e4 : d4 = [.bool l[i].2.2.2.2] := h5
  subst e1 e2 e3 e4
  refine ⟨b, o, a0, n0, rfl, hv, hk, hm, hw, hB, fun y f => ⟨?_, f.cell (hc 0 (by simp)) id, f.cell (hc 3 (by simp)) id, f.cell (hc 4 (by simp)) id, f.cell (hc 5 (by simp)) id, f.cell (hc 6 (by simp)) id, f.cell (hc 7 (by simp)) id⟩⟩
  refine run_loadAt_list [.int .i64 l[i].1.1, .int .u64 l[i].1.2.1, .int .u64 l[i].1.2.2.1, .slice a0 l[i].1.2.2.2.length n0] _ Try.underlying39 rfl (by kernel_rfl) fun j v hv => ?_
  have hj : j < 4 := by have := (List.getElem?_eq_some_iff.1 hv).1; simpa using this
  refine f.cell ?_ id
  have := hc j (by simp; omega)
  rw [this]
  rcases j with _ | _ | _ | _ | j
  · simpa using hv
  · simpa using hv
  · simpa using hv
  · simpa using hv
  · omega
set_option maxRecDepth 100000 in
theorem build76x {w : World} (c0 c1 c2 : Int) (a0 : Option Addr) (n0 m0 : Nat) (y0 y1 y2 y3 y4 y5 y6 y7 y8 y9 y10 y11 y12 y13 y14 : Value) (f t : Int) (o g : Bool) :
    (Instr.build 76 #[(0, .agg #[.int .i64 c0, .int .u64 c1, .int .u64 c2, .slice a0 n0 m0]), (1, .agg #[y0, y1, y2, y3, y4, y5, y6, y7, y8, y9, y10, y11, y12, y13, y14]), (2, .int .i64 f), (3, .int .i64 t), (4, .bool o), (5, .bool g)]).run Try.prog w =
      .ok (.agg #[.int .i64 c0, .int .u64 c1, .int .u64 c2, .slice a0 n0 m0, y0, y1, y2, y3, y4, y5, y6, y7, y8, y9, y10, y11, y12, y13, y14, .int .i64 f, .int .i64 t, .bool o, .bool g]) w := by
  kernel_rfl
theorem build76 {w : World} (c0 c1 c2 : Int) (a0 : Option Addr) (n0 m0 : Nat) {ys : List Value} (h : ys.length = 15) (f t : Int) (o g : Bool) :
    (Instr.build 76 #[(0, .agg #[.int .i64 c0, .int .u64 c1, .int .u64 c2, .slice a0 n0 m0]), (1, .agg ys.toArray), (2, .int .i64 f), (3, .int .i64 t), (4, .bool o), (5, .bool g)]).run Try.prog w =
      .ok (.agg (([.int .i64 c0, .int .u64 c1, .int .u64 c2, .slice a0 n0 m0] : List Value) ++ (ys ++ ([.int .i64 f, .int .i64 t, .bool o, .bool g] : List Value))).toArray) w := by
  match ys, h with
  | [y0, y1, y2, y3, y4, y5, y6, y7, y8, y9, y10, y11, y12, y13, y14], _ => exact build76x c0 c1 c2 a0 n0 m0 y0 y1 y2 y3 y4 y5 y6 y7 y8 y9 y10 y11 y12 y13 y14 f t o g
theorem held_build {t : TypeId} {ps : Array (Nat × Value)} {v : Value} {y : World} (h : (Instr.build t ps).run Try.prog y = .ok v y) : (do pure (Next.value (← Instr.build t ps)) : Sem Next).run Try.prog y = .ok (.value v) y := by
  simp only [Sem.run_bind, h, Result.andThen_ok]
  rfl
theorem hap_open2 {S : Nat → Prop} {w : World} {cs : List Value} {x : MHap} (h : kHap.rd S w cs x) :
    kHap.rd S w (putAt (cs.set 20 (.int .i64 0)) 4 (resCells (mErr 0) (.slice none 0 0) (.slice none 0 0))) (x.1, mErr 0, x.2.2.1, 0, x.2.2.2.2.1, x.2.2.2.2.2) := by
  obtain ⟨c1, _, rfl, h1, d1, _, rfl, h2, _, _, rfl, ⟨rfl, h3⟩, _, _, rfl, ⟨rfl, h4⟩, _, _, rfl, rfl, rfl⟩ := h
  have l1 : c1.length = 4 := kCall.len h1
  have l2 : d1.length = 15 := kRes.len h2
  refine ⟨c1, _, ?_, h1, _, _, rfl, cells_res (by decide) (by simp) (.inl ⟨rfl, rfl⟩) (by simp) (.inl ⟨rfl, rfl⟩) (by simp), [_], _, rfl, ⟨rfl, h3⟩, [_], _, rfl, ⟨rfl, by show (Lit.int .i64 0).wf = true; decide⟩, [_], _, rfl, rfl, rfl⟩
  rw [List.set_append_right (h := by omega), List.set_append_right (h := by omega), l1, l2]
  unfold putAt
  rw [show (resCells (mErr 0) (.slice none 0 0) (.slice none 0 0)).length = 15 from rfl, ← l1, List.take_left]
  rw [List.drop_append, List.drop_append, List.drop_of_length_le (by omega), List.drop_of_length_le (by omega)]
  rw [show c1.length + 15 - c1.length - d1.length = 0 by omega]
  simp
  rw [l1]
  rfl
set_option maxRecDepth 100000 in
set_option maxHeartbeats 4000000 in
theorem told_any {w : World} {u : Value} {L : List MWas} (hl : Sl kWas All w u L) (hB : L.length * 56 ≤ reachBytes) :
    Calls Try.prog 69 #[u] w fun e w' => ∃ v, e = .returned v ∧ Sl kHap All w' v (lTold 0 [] 0 L) ∧ Fr Non w w' := by
  obtain ⟨ua, uc, rfl, _, hux, _⟩ := hl.frm
  unfold maxLen at hux
  unfold reachBytes at hB
  have HL := Lib.hid hl.there
  clear hl
  go_enter Try.func69, Try.ntmps69
  go_wp2_with fail
  go_loopw [3, 4, 5] (fun ov mv iv wr => ∃ (j : Nat) (pre : List MHap) (m : List MItem) (ma : Option Addr) (mc : Nat), j ≤ L.length ∧ iv = .int .i64 j ∧ mv = .slice ma m.length mc ∧ pre.length ≤ 40 ∧ Hid (Build kHap 76 wr ov pre ∧ (∀ b, ov.ownBlock = some b → w.heap.size ≤ b) ∧ Sl kItem (fun b => ov.ownBlock ≠ some b) wr mv m ∧ m.length ≤ pre.length ∧ Fr Non w wr ∧ pre ++ lTold j m pre.length (L.drop j) = lTold 0 [] 0 L)) (fun _ _ iv _ => L.length - (intOf iv).toNat)
  case atStart => exact ⟨0, [], [], none, 0, by omega, rfl, rfl, by simp, Build.nil _ _ _, by simp [Value.ownBlock], .inl ⟨rfl, rfl⟩, by simp, Fr.refl _ _, by simp⟩
  case round =>
    obtain ⟨j, pre, m, ma, mc, hj, rfl, rfl, hp40, HI⟩ := hrel
    obtain ⟨W, rfl⟩ : ∃ W, W = wr := ⟨_, rfl⟩
    have j0 : (0 : Int) ≤ (j : Int) := by omega
    obtain ⟨g1, g2, g3, g4, g5, g6⟩ := HI.out
    obtain ⟨oa, oc, rfl⟩ := g1.form
    have HG := Lib.hid g1
    have HOW := Lib.hid g2
    have HM := Lib.hid g3
    have HML := Lib.hid g4
    have FW := Lib.hid g5
    have HEQ := Lib.hid g6
    clear g1 g2 g3 g4 g5 g6 HI
    by_cases hlt : j < L.length
    rotate_left
    · obtain rfl : j = L.length := by omega
      have HE := Lib.hid (show pre = lTold 0 [] 0 L by rw [← HEQ.out, List.drop_length, lTold, List.append_nil])
      go_wp2_with fail
      go_ret
      exact ⟨_, by rfl, by rw [← HE.out]; exact HG.out.sl, FW.out⟩
    have j1 : (j : Int) < (L.length : Int) := by omega
    by_cases hfull : pre.length < 40
    rotate_left
    · have i1 : ¬ (pre.length : Int) < 40 := by omega
      have i2 : decide (pre.length < 40) = false := decide_eq_false hfull
      have HE := Lib.hid (show pre = lTold 0 [] 0 L by rw [← HEQ.out, List.drop_eq_getElem_cons hlt, lTold, if_pos (by omega), List.append_nil])
      go_wp2_with fail
      go_ret
      exact ⟨_, by rfl, by rw [← HE.out]; exact HG.out.sl, FW.out⟩
    have i1 : (pre.length : Int) < 40 := by omega
    have i2 : decide (pre.length < 40) = true := decide_eq_true hfull
    have HST := Lib.hid (show lTold j m pre.length (L.drop j) = if L[j].1.1 = 5 ∨ 200 < L[j].1.2.2.2.length then lTold (j + 1) m pre.length (L.drop (j + 1)) else if (mDo m L[j].1).2.2 = 0 then wHap j L[j] (mDo m L[j].1).2.1 :: lTold (j + 1) (mDo m L[j].1).1 (pre.length + 1) (L.drop (j + 1)) else lTold (j + 1) m pre.length (L.drop (j + 1)) by
      rw [List.drop_eq_getElem_cons hlt, lTold, if_neg (by omega)])
    obtain ⟨b, o, a0, n0, e, hv, hk, hm, hw, hvB, hld⟩ := was_at (HL.out.stay FW.out) j hlt
    cases e
    obtain ⟨_, c0, c3, _⟩ := hld _ (Fr.refl _ _)
    have HLD := Lib.hid hld
    have HV := Lib.hid hv
    have HCF := Lib.hid (And.intro hk (And.intro hm (And.intro hw hvB)))
    obtain ⟨X, hX⟩ : ∃ X, L[j] = X := ⟨_, rfl⟩
    rw [hX] at HLD HV HCF HST c0 c3
    clear hv hk hm hw hvB hld hX
    by_cases h5 : X.1.1 = 5
    · have HSK := Lib.hid (show pre ++ lTold (j + 1) m pre.length (L.drop (j + 1)) = lTold 0 [] 0 L by rw [← HEQ.out, HST.out, if_pos (.inl h5)])
      rw [h5] at c0
      go_wp2_with fail
      go_roundw
      case rel => exact ⟨j + 1, pre, m, ma, mc, by omega, by go_num, rfl, hp40, HG.out, HOW.out, HM.out, HML.out, FW.out, HSK.out⟩
      case measure => simp [intOf]; omega
    have k5 : (X.1.1 == 5) = false := by simpa using h5
    obtain ⟨vl, hvl⟩ : ∃ n, X.1.2.2.2.length = n := ⟨_, rfl⟩
    have HVL := Lib.hid hvl
    rw [hvl] at c3
    clear hvl
    by_cases h200 : 200 < vl
    · have HSK := Lib.hid (show pre ++ lTold (j + 1) m pre.length (L.drop (j + 1)) = lTold 0 [] 0 L by rw [← HEQ.out, HST.out, if_pos (.inr (by rw [HVL.out]; exact h200))])
      have k6 : (200 : Int) < (vl : Int) := by omega
      have k7 : decide (200 < vl) = true := decide_eq_true h200
      go_wp2_with fail
      go_roundw
      case rel => exact ⟨j + 1, pre, m, ma, mc, by omega, by go_num, rfl, hp40, HG.out, HOW.out, HM.out, HML.out, FW.out, HSK.out⟩
      case measure => simp [intOf]; omega
    have k6 : ¬ (200 : Int) < (vl : Int) := by omega
    have k7 : decide (200 < vl) = false := decide_eq_false h200
    replace HST := Lib.hid (show lTold j m pre.length (L.drop j) = if (mDo m X.1).2.2 = 0 then wHap j X (mDo m X.1).2.1 :: lTold (j + 1) (mDo m X.1).1 (pre.length + 1) (L.drop (j + 1)) else lTold (j + 1) m pre.length (L.drop (j + 1)) by rw [HST.out, if_neg (fun h => h.elim h5 fun h => h200 (by rw [← HVL.out]; exact h))])
    have LC := Lib.hid (HLD.out W (Fr.refl _ _)).1
    have HDO := Lib.hid (rdo_any HM.out (by have := HML.out; omega) X.1.1 X.1.2.1 X.1.2.2.1 ((HV.out.mono fun b hb hs e => by have := HOW.out b e; omega) : Sl kByte (fun b => (Value.slice oa pre.length oc).ownBlock ≠ some b) W _ _) HCF.out.1)
    go_wp2_with (refine wpList_load_w 39 (.pointer (some ⟨b, o + j * 8, none⟩)) _ LC.out _ rfl rfl (by rfl) ?_)
    refine HDO.out.mono ?_
    rintro e w1 ⟨xv, yv, rfl, hxv, hyv, f1⟩
    obtain ⟨DD, hDD⟩ : ∃ D, mDo m X.1 = D := ⟨_, rfl⟩
    have HDD := Lib.hid hDD
    rw [show ((X.1.1, X.1.2.1, X.1.2.2.1, X.1.2.2.2) : MCall) = X.1 from rfl, hDD] at hxv hyv ⊢
    rw [hDD] at HST
    obtain ⟨dn, dr, de⟩ := DD
    simp only at hxv hyv HST ⊢
    obtain ⟨xa, xc, rfl, _⟩ := hxv.frm
    obtain ⟨yu, yw, rfl, hyu, hyw, hyl1, hyl2, hyk⟩ := hyv
    obtain ⟨ys, hys⟩ : ∃ ys, resCells dr yu yw = ys := ⟨_, rfl⟩
    have hyl : ys.length = 15 := by rw [← hys]; rfl
    have hone : ∀ z ∈ ys, z.oneCell' = true := by
      obtain ⟨p1, p2, rfl, _⟩ := hyu.frm
      obtain ⟨p3, p4, rfl, _⟩ := hyw.frm
      rw [← hys]
      intro z hz
      simp only [resCells, refCells, List.cons_append, List.nil_append, List.mem_cons, List.not_mem_nil, or_false] at hz
      rcases hz with rfl | rfl | rfl | rfl | rfl | rfl | rfl | rfl | rfl | rfl | rfl | rfl | rfl | rfl | rfl <;> rfl
    have HXV := Lib.hid hxv
    have HYV := Lib.hid (And.intro hyu (And.intro hyw (And.intro hyl1 (And.intro hyl2 hyk))))
    have HYS := Lib.hid hys
    have HYL := Lib.hid hyl
    have HONE := Lib.hid hone
    have F1 := Lib.hid f1
    rw [hys]
    clear hDD hxv hyu hyw hyl1 hyl2 hyk hys hyl hone f1 HDO LC c0 c3
    go_wp2_with (refine wpList_store_block rfl 52 _ _ rfl w1.heap.size 0 rfl (.agg ys.toArray) rfl _ 52 (alloc_at w1 _) ?hfit ?hinf ?hone ?_)
    case hinf => rw [show (Value.agg ys.toArray).cells.size = 15 by simp [Value.cells, HYL.out]]; kernel_rfl
    case hfit => simp [Value.cells, HYL.out]
    case hone => intro u hu; exact HONE.out u (by simpa [Value.cells] using hu)
    intro w2 hbx f2
    rw [putAt_whole _ _ (by simp [HYL.out])] at hbx
    have f3 : Fr Non w1 w2 := ((Fr.refl Non w1).alloc _).trans2 f2 (fun b hb he => by omega)
    obtain ⟨E, hE⟩ : ∃ E, w1.heap.size = E := ⟨_, rfl⟩
    rw [hE] at hbx ⊢
    have L52 := Lib.hid (fun (y : World) (f : Fr Non w2 y) => box52 (f.heap (show w2.heap[E]? = some (.cells ys.toArray 52 (0, 0)) by simpa [Value.cells] using hbx) id) HYL.out)
    have F2 := Lib.hid (F1.out.trans f3)
    have F3 := Lib.hid f3
    clear hbx f2 f3 hE
    by_cases h0 : de = 0
    rotate_left
    · have g0 : (de != 0) = true := by simpa using h0
      have HSK := Lib.hid (show pre ++ lTold (j + 1) m pre.length (L.drop (j + 1)) = lTold 0 [] 0 L by rw [← HEQ.out, HST.out, if_neg h0])
      go_wp2_with fail
      go_roundw
      case rel => exact ⟨j + 1, pre, m, ma, mc, by omega, by go_num, rfl, hp40, HG.out.fr F2.out, HOW.out, HM.out.stay F2.out, HML.out, FW.out.trans F2.out, HSK.out⟩
      case measure => simp [intOf]; omega
    subst h0
    replace HST := Lib.hid (show lTold j m pre.length (L.drop j) = wHap j X dr :: lTold (j + 1) dn (pre.length + 1) (L.drop (j + 1)) by rw [HST.out, if_pos rfl])
    have hw1 : IntKind.i64.wrap (10 * (j : Int)) = 10 * (j : Int) := by rw [IntKind.wrap_i64]; omega
    have hw2 : IntKind.i64.wrap (1000 + 10 * (j : Int)) = 1000 + 10 * (j : Int) := by rw [IntKind.wrap_i64]; omega
    have HCC := Lib.hid (fun (y : World) (f : Fr Non w2 y) => (HLD.out y (F2.out.trans f)).2)
    have LC2 := Lib.hid (fun (y : World) (f : Fr Non w2 y) => (HLD.out y (F2.out.trans f)).1)
    obtain ⟨ah, hah⟩ : ∃ n, X.2.1.toNat = n := ⟨_, rfl⟩
    obtain ⟨af, haf⟩ : ∃ n, X.2.2.1.toNat = n := ⟨_, rfl⟩
    obtain ⟨op, hop⟩ : ∃ n, X.2.2.2.1 = n := ⟨_, rfl⟩
    obtain ⟨fr, hfr⟩ : ∃ n, X.2.2.2.2 = n := ⟨_, rfl⟩
    have ha2 : ah < 256 := by rw [← hah]; exact X.2.1.toNat_lt
    have hf2 : af < 256 := by rw [← haf]; exact X.2.2.1.toNat_lt
    rw [hah, haf, hop, hfr] at HCC
    have hw3 : IntKind.i64.wrap (ah : Int) = (ah : Int) := by rw [IntKind.wrap_i64]; omega
    have hw4 : IntKind.i64.wrap (af : Int) = (af : Int) := by rw [IntKind.wrap_i64]; omega
    have hw5 : IntKind.i64.wrap (1000 + 10 * (j : Int) - (ah : Int)) = 1000 + 10 * (j : Int) - (ah : Int) := by rw [IntKind.wrap_i64]; omega
    have hw6 : IntKind.i64.wrap (1000 + 10 * (j : Int) + (af : Int)) = 1000 + 10 * (j : Int) + (af : Int) := by rw [IntKind.wrap_i64]; omega
    have HX := Lib.hid (And.intro hah (And.intro haf (And.intro hop hfr)))
    obtain ⟨z1, z2, z3⟩ := mDo_zero (show (mDo m X.1).2.2 = 0 by rw [HDD.out])
    have hdr : dr = (mDone m X.1).2 := by
      have := HDD.out
      rw [z3] at this
      simp only [Prod.mk.injEq] at this
      exact this.2.1.symm
    have HDL := Lib.hid (show dn.length ≤ m.length + 1 by
      have := HDD.out
      rw [z3] at this
      simp only [Prod.mk.injEq] at this
      rw [← this.1]
      exact mDone_len m X.1)
    obtain ⟨r1, r2, r3⟩ := mDone_refs m X.1
    rw [← hdr] at r1 r2 r3
    have hol : ∀ b, (Value.slice oa pre.length oc).ownBlock = some b → b < W.heap.size := fun b hb => (HG.out.choose_spec.1).lt b hb
    have HYR := Lib.hid (show kRes.rd (fun b => (Value.slice oa pre.length oc).ownBlock ≠ some b) w2 ys dr by
      obtain ⟨y1, y2, y3, y4, y5⟩ := HYV.out
      obtain ⟨u, vv, e, h, _⟩ := res_rd (r := dr) (show ResS (fun b => (Value.slice oa pre.length oc).ownBlock ≠ some b) w2 (.agg (resCells dr yu yw).toArray) dr from ⟨yu, yw, rfl, (y1.mono fun b _ hs => hs.elim id fun h e => by have := hol b e; omega).stay F3.out, (y2.mono fun b _ hs => hs.elim id fun h e => by have := hol b e; omega).stay F3.out, y3, y4, y5⟩) r3 r1 r2
      have e2 : resCells dr yu yw = resCells dr u vv := by simpa using e
      rw [← HYS.out, e2]
      exact h)
    have HCC1 := Lib.hid (show kCall.rd (fun b => (Value.slice oa pre.length oc).ownBlock ≠ some b) w2 [.int .i64 X.1.1, .int .u64 X.1.2.1, .int .u64 X.1.2.2.1, .slice a0 X.1.2.2.2.length n0] X.1 from cells_call ((HV.out.mono fun b _ hb e => by have := HOW.out b e; omega).stay F2.out) HCF.out.2.2.2 HCF.out.1 HCF.out.2.1 HCF.out.2.2.1)
    have HWF := Lib.hid (show (Lit.int .i64 (1000 + 10 * (j : Int) - (ah : Int))).wf = true ∧ (Lit.int .i64 (1000 + 10 * (j : Int) + (af : Int))).wf = true from ⟨wf_i64.2 ⟨by omega, by omega⟩, wf_i64.2 ⟨by omega, by omega⟩⟩)
    clear hah haf hop hfr HLD z1 z2 z3 hdr r1 r2 r3 hol
    cases op with
    | true =>
      cases fr with
      | true =>
        have HBLD := Lib.hid (fun (y : World) => held_build (build76 (w := y) X.1.1 X.1.2.1 X.1.2.2.1 a0 X.1.2.2.2.length n0 HYL.out (1000 + 10 * (j : Int) - (ah : Int)) (1000 + 10 * (j : Int) + (af : Int)) true false))
        have hrd : kHap.rd (fun b => (Value.slice oa pre.length oc).ownBlock ≠ some b) w2 ([.int .i64 X.1.1, .int .u64 X.1.2.1, .int .u64 X.1.2.2.1, .slice a0 X.1.2.2.2.length n0] ++ (ys ++ [.int .i64 (1000 + 10 * (j : Int) - (ah : Int)), .int .i64 (1000 + 10 * (j : Int) + (af : Int)), .bool true, .bool false])) (X.1, dr, 1000 + 10 * (j : Int) - (ah : Int), 1000 + 10 * (j : Int) + (af : Int), true, false) :=
          ⟨_, _, rfl, HCC1.out, ys, _, rfl, HYR.out, [_], _, rfl, ⟨rfl, HWF.out.1⟩, [_], _, rfl, ⟨rfl, HWF.out.2⟩, [_], _, rfl, rfl, rfl⟩
        obtain ⟨cs, hcs⟩ : ∃ cs, [Value.int .i64 X.1.1, .int .u64 X.1.2.1, .int .u64 X.1.2.2.1, .slice a0 X.1.2.2.2.length n0] ++ (ys ++ [.int .i64 (1000 + 10 * (j : Int) - (ah : Int)), .int .i64 (1000 + 10 * (j : Int) + (af : Int)), .bool true, .bool false]) = cs := ⟨_, rfl⟩
        have hclen : cs.length = 23 := by rw [← hcs]; simp [HYL.out]
        have hc20 : cs[20]? = some (.int .i64 (1000 + 10 * (j : Int) + (af : Int))) := by rw [← hcs, List.getElem?_append_right (by simp), List.getElem?_append_right (by simp [HYL.out])]; simp [HYL.out]
        have hc21 : cs[21]? = some (.bool true) := by rw [← hcs, List.getElem?_append_right (by simp), List.getElem?_append_right (by simp [HYL.out])]; simp [HYL.out]
        rw [hcs] at HBLD hrd
        have HRD := Lib.hid hrd
        have HCL := Lib.hid hclen
        have HC20 := Lib.hid hc20
        have HC21 := Lib.hid hc21
        clear hrd hcs hclen hc20 hc21
        go_wp2_with fail
        have fd : Fr Non w2 w2.drew := (Fr.refl _ _).drew
        refine wp_draw [((fun y => Fr Non w2 y), [(.free, 0), (.free, 1), (.free, 2), (.free, 3), (.held, 4), (.held, 5), (.free, 6), (.free, 7), (.free, 8), (.free, 9), (.free, 10), (.held, 11), (.held, 12), (.free, 13), (.free, 14), (.free, 15), (.free, 16), (.free, 17), (.free, 18), (.held, 19), (.held, 20), (.free, 21), (.free, 22), (.free, 23), (.free, 24), (.free, 25), (.held, 26), (.free, 27), (.free, 28), (.free, 29), (.free, 30), (.held, 31), (.free, 32), (.free, 33), (.free, 34), (.free, 35), (.free, 36), (.held, 37), (.free, 38), (.free, 39), (.free, 40), (.kept, 41)])] 42 (by kernel_rfl) (by kernel_rfl) (fun _ _ _ _ _ h => h) ⟨fd, ?_⟩
        generalize w2.drew = wd at fd ⊢
        repeat (first
          | (refine' wpPlan_free (v := _) rfl (by rfl) ?_ ?_
             rotate_left
             · (intro w'; skip; go_simp; try rfl)
             simp only [List.getElem_toArray, List.getElem_cons_zero, List.getElem_cons_succ, Act.put, List.setIfInBounds_toArray, List.set_cons_zero, List.set_cons_succ])
          | (refine' wpPlan_held (v := _) rfl (by rfl) (fun w' hS => held_of (LC2.out w' hS)) ?_
             simp only [List.getElem_toArray, List.getElem_cons_zero, List.getElem_cons_succ, Act.put, List.setIfInBounds_toArray, List.set_cons_zero, List.set_cons_succ])
          | (refine' wpPlan_held (v := _) rfl (by rfl) (fun w' hS => held_of (L52.out w' hS)) ?_
             simp only [List.getElem_toArray, List.getElem_cons_zero, List.getElem_cons_succ, Act.put, List.setIfInBounds_toArray, List.set_cons_zero, List.set_cons_succ])
          | (refine' wpPlan_held (v := _) rfl (by rfl) ?_ ?_
             rotate_left
             · (intro w' hS; skip; obtain ⟨c0, c3, c4, c5, c6, c7⟩ := HCC.out w' hS; clear hS; go_simp; try rfl)
             simp only [List.getElem_toArray, List.getElem_cons_zero, List.getElem_cons_succ, Act.put, List.setIfInBounds_toArray, List.set_cons_zero, List.set_cons_succ])
          | (refine' wpPlan_skip rfl (by rfl) ?_
             simp only [List.getElem_toArray, List.getElem_cons_zero, List.getElem_cons_succ, Act.put, List.setIfInBounds_toArray, List.set_cons_zero, List.set_cons_succ])
          | (refine' wpPlan_skipHeld rfl (by rfl) ?_
             simp only [List.getElem_toArray, List.getElem_cons_zero, List.getElem_cons_succ, Act.put, List.setIfInBounds_toArray, List.set_cons_zero, List.set_cons_succ]))
        refine' wpPlan_free (v := .agg cs.toArray) rfl (by rfl) (fun w' => (by simp only [execOp, List.map_toArray, List.map_cons, List.map_nil, Act.eval, List.getElem_toArray, List.getElem_cons_zero, List.getElem_cons_succ]; exact HBLD.out w')) ?_
        simp only [List.getElem_toArray, List.getElem_cons_zero, List.getElem_cons_succ, Act.put, List.setIfInBounds_toArray, List.set_cons_zero, List.set_cons_succ]
        refine' wpPlan_kept rfl ?_
        intro K hK
        go_simp
        refine hK _ _ ⟨fd.alloc _, ?_⟩
        clear hK K
        refine wpPlan_end ?_
        simp only [wpSegs, List.drop_succ_cons, List.drop_zero]
        have FD := Lib.hid fd
        clear fd
        go_wp2_with (refine wpList_store_block rfl 76 _ _ rfl wd.heap.size 0 rfl (.agg cs.toArray) rfl _ 76 (alloc_at wd _) ?hfit ?hinf ?hone ?_)
        case hinf => rw [show (Value.agg cs.toArray).cells.size = 23 by simp [Value.cells, HCL.out]]; kernel_rfl
        case hfit => simp [Value.cells, HCL.out]
        case hone => intro u hu; exact kHap.one HRD.out u (by simpa [Value.cells] using hu)
        intro w5 hb5 f5
        rw [putAt_whole _ _ (by simp [HCL.out])] at hb5
        replace hb5 : w5.heap[wd.heap.size]? = some (.cells cs.toArray 76 (0, 0)) := by simpa [Value.cells] using hb5
        have f35 : Fr Non w2 w5 := FD.out.trans (((Fr.refl Non wd).alloc _).trans2 f5 (fun b hb he => by omega))
        have HDS := Lib.hid (show W.heap.size ≤ wd.heap.size from (F2.out.trans FD.out).size)
        have HDS2 := Lib.hid FD.out.size
        obtain ⟨D, hD⟩ : ∃ D, wd.heap.size = D := ⟨_, rfl⟩
        rw [hD] at hb5 HDS HDS2 ⊢
        have HB5 := Lib.hid hb5
        have x20 := (BoxH.cell hb5 HC20.out)
        have x21 := (BoxH.cell hb5 HC21.out)
        have hfz := (box_facts hb5).2
        have F5 := Lib.hid (F2.out.trans f35)
        have F51 := Lib.hid (F3.out.trans f35)
        have HRD5 := Lib.hid (kHap.stay HRD.out f35)
        have F25 := Lib.hid f35
        have hcs23 : cs.length = 23 := HCL.out
        clear hb5 f5 f35 hD
        have z2 := Lib.hid (heap_setCell_same w5 D 20 _ 76 (.int .i64 0) HB5.out)
        go_wp2_with (refine wpList_store_block rfl 52 _ _ rfl D 4 rfl (.agg #[.int .i64 0, .int .u64 0, .slice none 0 0, .slice none 0 0, .int .i64 0, .int .i64 0, .int .u64 0, .int .i64 0, .int .u64 0, .int .i64 0, .int .i64 0, .int .u64 0, .int .i64 0, .int .u64 0, .bool false]) rfl (cs.toArray.setIfInBounds 20 (.int .i64 0)) 76 z2.out ?hfit ?hinf ?hone ?_)
        case hinf => kernel_rfl
        case hfit => simp [Value.cells, HCL.out]
        case hone => intro u hu; simp only [Value.cells, List.mem_cons, List.not_mem_nil, or_false] at hu; rcases hu with rfl | rfl | rfl | rfl | rfl | rfl | rfl | rfl | rfl | rfl | rfl | rfl | rfl | rfl | rfl <;> rfl
        intro w8 hb8 f8
        have HZ := Lib.hid (hap_open2 (kHap.stay (kHap.mono HRD.out (fun b hb hs => And.intro hs hb) : kHap.rd (fun b => (Value.slice oa pre.length oc).ownBlock ≠ some b ∧ b < w2.heap.size) w2 cs _) F25.out))
        obtain ⟨ds, hds⟩ : ∃ ds, putAt (cs.set 20 (.int .i64 0)) 4 (resCells (mErr 0) (.slice none 0 0) (.slice none 0 0)) = ds := ⟨_, rfl⟩
        replace hb8 : w8.heap[D]? = some (.cells (putAt (cs.set 20 (.int .i64 0)) 4 (resCells (mErr 0) (.slice none 0 0) (.slice none 0 0))).toArray 76 (0, 0)) := hb8
        rw [hds] at hb8 HZ
        have dlen : ds.length = 23 := kHap.len HZ.out
        have f59 : Fr (fun b => b = D) w5 w8 := ((Fr.refl (fun b => b = D) w5).setCell (p := ⟨D, 20, none⟩) (.inl rfl) (.int .i64 0)).trans f8
        have F8 := Lib.hid (F5.out.trans2 f59 (fun b hb e => by have := HDS.out; omega))
        have F81 := Lib.hid (F51.out.trans2 f59 (fun b hb e => by have := HDS2.out; have := F3.out.size; omega))
        have HZ8 := Lib.hid (kHap.mono (kHap.frame HZ.out f59 (fun b _ hs e => by have := hs.2; have := HDS2.out; omega)) (fun _ _ hs => hs.1) : kHap.rd (fun b => (Value.slice oa pre.length oc).ownBlock ≠ some b) w8 ds _)
        have LDB := Lib.hid (box_load hb8 dlen)
        have HY := Lib.hid (show (X.1, mErr 0, 1000 + 10 * (j : Int) - (ah : Int), (0 : Int), true, false) = wHap j X dr by unfold wHap wAt; rw [HX.out.1, HX.out.2.2.1, HX.out.2.2.2]; rfl)
        clear hb8 f8 f59 hds z2 x20 x21 hfz
        obtain ⟨rcs, g6, hrow⟩ := (HG.out.fr F8.out)
        have HROW := Lib.hid hrow
        have hg6 := Lib.hid g6
        have HMX := Lib.hid (HXV.out.stay F81.out)
        clear hrow g6
        go_wp2_with (first | refine wpList_load_w 76 (.pointer (some ⟨D, 0, none⟩)) _ LDB.out _ rfl rfl (by rfl) ?_ | (at_builtin; refine wpList_append_g rfl _ _ eI76 rfl _ _ _ rfl (hg6.out.keep fun b hb => ?k1) _ 1 ds rfl ?hsrc ?k2 ?k3 ?_))
        case hsrc =>
          have e := fold_set0 ds 0 [] [.int .i64 0, .int .u64 0, .int .u64 0, .slice none 0 0, .int .i64 0, .int .u64 0, .slice none 0 0, .slice none 0 0, .int .i64 0, .int .i64 0, .int .u64 0, .int .i64 0, .int .u64 0, .int .i64 0, .int .i64 0, .int .u64 0, .int .i64 0, .int .u64 0, .bool false, .int .i64 0, .int .i64 0, .bool false, .bool false] rfl (by rw [dlen]; rfl)
          simp only [List.nil_append] at e
          rw [e]
          exact Src.block (m := 1) (alloc_at w8 _) (by simp [dlen]) (kHap.one HZ8.out)
        case k1 => exact Below.heap_alloc _ _ _ (hg6.out.lt b hb)
        case k2 => unfold maxLen; omega
        case k3 => omega
        intro v' w7 r1 r2 r3
        have f67 : Fr (fun b => (Value.slice oa pre.length oc).ownBlock = some b) w8 w7 := ((Fr.refl _ w8).alloc _).trans r2
        have hol : ∀ b, (Value.slice oa pre.length oc).ownBlock = some b → b < W.heap.size := fun b hb => (HG.out.choose_spec.1).lt b hb
        have hnew : ∀ b, b < w8.heap.size → (Value.slice oa pre.length oc).ownBlock ≠ some b → v'.ownBlock ≠ some b := fun b hb hn e => by
          rcases r3 with r3 | ⟨r3, _⟩
          · exact hn (r3 ▸ e)
          · rw [r3] at e
            cases e
            first | omega | (simp at hb)
        have HMN := Lib.hid ((HMX.out.fr (fun b hb hs => f67.block b hb (fun e => hs.elim (fun h => h e) fun h => by have := hol b e; omega)) fun b hb hs => hnew b hb (hs.elim id fun h e => by have := hol b e; omega)) : Sl kItem (fun b => v'.ownBlock ≠ some b) w7 (.slice xa dn.length xc) dn)
        have HP1 := Lib.hid (Build.push (w := w8) HROW.out HZ8.out r1 (((Fr.refl _ _).alloc _).trans2 r2 (fun b _ h => h)) (by
          rcases r3 with r3 | ⟨r3, _⟩
          · exact .inl r3
          · exact .inr ⟨_, r3, by (try simp)⟩))
        have HOW1 := Lib.hid (show ∀ b, v'.ownBlock = some b → w.heap.size ≤ b from fun b hb => by
          rcases r3 with r3 | ⟨r3, _⟩
          · exact HOW.out b (r3 ▸ hb)
          · rw [r3] at hb; cases hb; have := (FW.out.trans F8.out).size; (try simp); omega)
        have HF7 := Lib.hid ((FW.out.trans F8.out).trans2 f67 (fun b hb e => by have := HOW.out b e; omega))
        clear r1 r2 r3 f67 hol hnew
        go_wp2_with fail
        go_roundw
        case rel =>
          refine ⟨j + 1, pre ++ [wHap j X dr], dn, xa, xc, by omega, by go_num, rfl, by rw [List.length_append]; simp; omega, ?_, HOW1.out, HMN.out, by rw [List.length_append]; have := HML.out; have := HDL.out; simp; omega, HF7.out, ?_⟩
          · have := HP1.out
            rw [HY.out] at this
            exact this
          · rw [List.append_assoc, List.singleton_append, List.length_append, List.length_singleton, ← HST.out]
            exact HEQ.out
        case measure => simp [intOf]; omega
      | false =>
        have HBLD := Lib.hid (fun (y : World) => held_build (build76 (w := y) X.1.1 X.1.2.1 X.1.2.2.1 a0 X.1.2.2.2.length n0 HYL.out (1000 + 10 * (j : Int) - (ah : Int)) (1000 + 10 * (j : Int) + (af : Int)) true false))
        have hrd : kHap.rd (fun b => (Value.slice oa pre.length oc).ownBlock ≠ some b) w2 ([.int .i64 X.1.1, .int .u64 X.1.2.1, .int .u64 X.1.2.2.1, .slice a0 X.1.2.2.2.length n0] ++ (ys ++ [.int .i64 (1000 + 10 * (j : Int) - (ah : Int)), .int .i64 (1000 + 10 * (j : Int) + (af : Int)), .bool true, .bool false])) (X.1, dr, 1000 + 10 * (j : Int) - (ah : Int), 1000 + 10 * (j : Int) + (af : Int), true, false) :=
          ⟨_, _, rfl, HCC1.out, ys, _, rfl, HYR.out, [_], _, rfl, ⟨rfl, HWF.out.1⟩, [_], _, rfl, ⟨rfl, HWF.out.2⟩, [_], _, rfl, rfl, rfl⟩
        obtain ⟨cs, hcs⟩ : ∃ cs, [Value.int .i64 X.1.1, .int .u64 X.1.2.1, .int .u64 X.1.2.2.1, .slice a0 X.1.2.2.2.length n0] ++ (ys ++ [.int .i64 (1000 + 10 * (j : Int) - (ah : Int)), .int .i64 (1000 + 10 * (j : Int) + (af : Int)), .bool true, .bool false]) = cs := ⟨_, rfl⟩
        have hclen : cs.length = 23 := by rw [← hcs]; simp [HYL.out]
        have hc20 : cs[20]? = some (.int .i64 (1000 + 10 * (j : Int) + (af : Int))) := by rw [← hcs, List.getElem?_append_right (by simp), List.getElem?_append_right (by simp [HYL.out])]; simp [HYL.out]
        have hc21 : cs[21]? = some (.bool true) := by rw [← hcs, List.getElem?_append_right (by simp), List.getElem?_append_right (by simp [HYL.out])]; simp [HYL.out]
        rw [hcs] at HBLD hrd
        have HRD := Lib.hid hrd
        have HCL := Lib.hid hclen
        have HC20 := Lib.hid hc20
        have HC21 := Lib.hid hc21
        clear hrd hcs hclen hc20 hc21
        go_wp2_with fail
        have fd : Fr Non w2 w2.drew := (Fr.refl _ _).drew
        refine wp_draw [((fun y => Fr Non w2 y), [(.free, 0), (.free, 1), (.free, 2), (.free, 3), (.held, 4), (.held, 5), (.free, 6), (.free, 7), (.free, 8), (.free, 9), (.free, 10), (.held, 11), (.held, 12), (.free, 13), (.free, 14), (.free, 15), (.free, 16), (.free, 17), (.free, 18), (.held, 19), (.held, 20), (.free, 21), (.free, 22), (.free, 23), (.free, 24), (.free, 25), (.held, 26), (.free, 27), (.free, 28), (.free, 29), (.free, 30), (.held, 31), (.free, 32), (.free, 33), (.free, 34), (.free, 35), (.free, 36), (.held, 37), (.free, 38), (.free, 39), (.free, 40), (.kept, 41)])] 42 (by kernel_rfl) (by kernel_rfl) (fun _ _ _ _ _ h => h) ⟨fd, ?_⟩
        generalize w2.drew = wd at fd ⊢
        repeat (first
          | (refine' wpPlan_free (v := _) rfl (by rfl) ?_ ?_
             rotate_left
             · (intro w'; skip; go_simp; try rfl)
             simp only [List.getElem_toArray, List.getElem_cons_zero, List.getElem_cons_succ, Act.put, List.setIfInBounds_toArray, List.set_cons_zero, List.set_cons_succ])
          | (refine' wpPlan_held (v := _) rfl (by rfl) (fun w' hS => held_of (LC2.out w' hS)) ?_
             simp only [List.getElem_toArray, List.getElem_cons_zero, List.getElem_cons_succ, Act.put, List.setIfInBounds_toArray, List.set_cons_zero, List.set_cons_succ])
          | (refine' wpPlan_held (v := _) rfl (by rfl) (fun w' hS => held_of (L52.out w' hS)) ?_
             simp only [List.getElem_toArray, List.getElem_cons_zero, List.getElem_cons_succ, Act.put, List.setIfInBounds_toArray, List.set_cons_zero, List.set_cons_succ])
          | (refine' wpPlan_held (v := _) rfl (by rfl) ?_ ?_
             rotate_left
             · (intro w' hS; skip; obtain ⟨c0, c3, c4, c5, c6, c7⟩ := HCC.out w' hS; clear hS; go_simp; try rfl)
             simp only [List.getElem_toArray, List.getElem_cons_zero, List.getElem_cons_succ, Act.put, List.setIfInBounds_toArray, List.set_cons_zero, List.set_cons_succ])
          | (refine' wpPlan_skip rfl (by rfl) ?_
             simp only [List.getElem_toArray, List.getElem_cons_zero, List.getElem_cons_succ, Act.put, List.setIfInBounds_toArray, List.set_cons_zero, List.set_cons_succ])
          | (refine' wpPlan_skipHeld rfl (by rfl) ?_
             simp only [List.getElem_toArray, List.getElem_cons_zero, List.getElem_cons_succ, Act.put, List.setIfInBounds_toArray, List.set_cons_zero, List.set_cons_succ]))
        refine' wpPlan_free (v := .agg cs.toArray) rfl (by rfl) (fun w' => (by simp only [execOp, List.map_toArray, List.map_cons, List.map_nil, Act.eval, List.getElem_toArray, List.getElem_cons_zero, List.getElem_cons_succ]; exact HBLD.out w')) ?_
        simp only [List.getElem_toArray, List.getElem_cons_zero, List.getElem_cons_succ, Act.put, List.setIfInBounds_toArray, List.set_cons_zero, List.set_cons_succ]
        refine' wpPlan_kept rfl ?_
        intro K hK
        go_simp
        refine hK _ _ ⟨fd.alloc _, ?_⟩
        clear hK K
        refine wpPlan_end ?_
        simp only [wpSegs, List.drop_succ_cons, List.drop_zero]
        have FD := Lib.hid fd
        clear fd
        go_wp2_with (refine wpList_store_block rfl 76 _ _ rfl wd.heap.size 0 rfl (.agg cs.toArray) rfl _ 76 (alloc_at wd _) ?hfit ?hinf ?hone ?_)
        case hinf => rw [show (Value.agg cs.toArray).cells.size = 23 by simp [Value.cells, HCL.out]]; kernel_rfl
        case hfit => simp [Value.cells, HCL.out]
        case hone => intro u hu; exact kHap.one HRD.out u (by simpa [Value.cells] using hu)
        intro w5 hb5 f5
        rw [putAt_whole _ _ (by simp [HCL.out])] at hb5
        replace hb5 : w5.heap[wd.heap.size]? = some (.cells cs.toArray 76 (0, 0)) := by simpa [Value.cells] using hb5
        have f35 : Fr Non w2 w5 := FD.out.trans (((Fr.refl Non wd).alloc _).trans2 f5 (fun b hb he => by omega))
        have HDS := Lib.hid (show W.heap.size ≤ wd.heap.size from (F2.out.trans FD.out).size)
        have HDS2 := Lib.hid FD.out.size
        obtain ⟨D, hD⟩ : ∃ D, wd.heap.size = D := ⟨_, rfl⟩
        rw [hD] at hb5 HDS HDS2 ⊢
        have HB5 := Lib.hid hb5
        have x20 := (BoxH.cell hb5 HC20.out)
        have x21 := (BoxH.cell hb5 HC21.out)
        have hfz := (box_facts hb5).2
        have F5 := Lib.hid (F2.out.trans f35)
        have F51 := Lib.hid (F3.out.trans f35)
        have HRD5 := Lib.hid (kHap.stay HRD.out f35)
        have F25 := Lib.hid f35
        have hcs23 : cs.length = 23 := HCL.out
        clear hb5 f5 f35 hD
        have z2 := Lib.hid (heap_setCell_same w5 D 20 _ 76 (.int .i64 0) HB5.out)
        go_wp2_with (refine wpList_store_block rfl 52 _ _ rfl D 4 rfl (.agg #[.int .i64 0, .int .u64 0, .slice none 0 0, .slice none 0 0, .int .i64 0, .int .i64 0, .int .u64 0, .int .i64 0, .int .u64 0, .int .i64 0, .int .i64 0, .int .u64 0, .int .i64 0, .int .u64 0, .bool false]) rfl (cs.toArray.setIfInBounds 20 (.int .i64 0)) 76 z2.out ?hfit ?hinf ?hone ?_)
        case hinf => kernel_rfl
        case hfit => simp [Value.cells, HCL.out]
        case hone => intro u hu; simp only [Value.cells, List.mem_cons, List.not_mem_nil, or_false] at hu; rcases hu with rfl | rfl | rfl | rfl | rfl | rfl | rfl | rfl | rfl | rfl | rfl | rfl | rfl | rfl | rfl <;> rfl
        intro w8 hb8 f8
        have HZ := Lib.hid (hap_open2 (kHap.stay (kHap.mono HRD.out (fun b hb hs => And.intro hs hb) : kHap.rd (fun b => (Value.slice oa pre.length oc).ownBlock ≠ some b ∧ b < w2.heap.size) w2 cs _) F25.out))
        obtain ⟨ds, hds⟩ : ∃ ds, putAt (cs.set 20 (.int .i64 0)) 4 (resCells (mErr 0) (.slice none 0 0) (.slice none 0 0)) = ds := ⟨_, rfl⟩
        replace hb8 : w8.heap[D]? = some (.cells (putAt (cs.set 20 (.int .i64 0)) 4 (resCells (mErr 0) (.slice none 0 0) (.slice none 0 0))).toArray 76 (0, 0)) := hb8
        rw [hds] at hb8 HZ
        have dlen : ds.length = 23 := kHap.len HZ.out
        have f59 : Fr (fun b => b = D) w5 w8 := ((Fr.refl (fun b => b = D) w5).setCell (p := ⟨D, 20, none⟩) (.inl rfl) (.int .i64 0)).trans f8
        have F8 := Lib.hid (F5.out.trans2 f59 (fun b hb e => by have := HDS.out; omega))
        have F81 := Lib.hid (F51.out.trans2 f59 (fun b hb e => by have := HDS2.out; have := F3.out.size; omega))
        have HZ8 := Lib.hid (kHap.mono (kHap.frame HZ.out f59 (fun b _ hs e => by have := hs.2; have := HDS2.out; omega)) (fun _ _ hs => hs.1) : kHap.rd (fun b => (Value.slice oa pre.length oc).ownBlock ≠ some b) w8 ds _)
        have LDB := Lib.hid (box_load hb8 dlen)
        have HY := Lib.hid (show (X.1, mErr 0, 1000 + 10 * (j : Int) - (ah : Int), (0 : Int), true, false) = wHap j X dr by unfold wHap wAt; rw [HX.out.1, HX.out.2.2.1, HX.out.2.2.2]; rfl)
        clear hb8 f8 f59 hds z2 x20 x21 hfz
        obtain ⟨rcs, g6, hrow⟩ := (HG.out.fr F8.out)
        have HROW := Lib.hid hrow
        have hg6 := Lib.hid g6
        have HMX := Lib.hid (HXV.out.stay F81.out)
        clear hrow g6
        go_wp2_with (first | refine wpList_load_w 76 (.pointer (some ⟨D, 0, none⟩)) _ LDB.out _ rfl rfl (by rfl) ?_ | (at_builtin; refine wpList_append_g rfl _ _ eI76 rfl _ _ _ rfl (hg6.out.keep fun b hb => ?k1) _ 1 ds rfl ?hsrc ?k2 ?k3 ?_))
        case hsrc =>
          have e := fold_set0 ds 0 [] [.int .i64 0, .int .u64 0, .int .u64 0, .slice none 0 0, .int .i64 0, .int .u64 0, .slice none 0 0, .slice none 0 0, .int .i64 0, .int .i64 0, .int .u64 0, .int .i64 0, .int .u64 0, .int .i64 0, .int .i64 0, .int .u64 0, .int .i64 0, .int .u64 0, .bool false, .int .i64 0, .int .i64 0, .bool false, .bool false] rfl (by rw [dlen]; rfl)
          simp only [List.nil_append] at e
          rw [e]
          exact Src.block (m := 1) (alloc_at w8 _) (by simp [dlen]) (kHap.one HZ8.out)
        case k1 => exact Below.heap_alloc _ _ _ (hg6.out.lt b hb)
        case k2 => unfold maxLen; omega
        case k3 => omega
        intro v' w7 r1 r2 r3
        have f67 : Fr (fun b => (Value.slice oa pre.length oc).ownBlock = some b) w8 w7 := ((Fr.refl _ w8).alloc _).trans r2
        have hol : ∀ b, (Value.slice oa pre.length oc).ownBlock = some b → b < W.heap.size := fun b hb => (HG.out.choose_spec.1).lt b hb
        have hnew : ∀ b, b < w8.heap.size → (Value.slice oa pre.length oc).ownBlock ≠ some b → v'.ownBlock ≠ some b := fun b hb hn e => by
          rcases r3 with r3 | ⟨r3, _⟩
          · exact hn (r3 ▸ e)
          · rw [r3] at e
            cases e
            first | omega | (simp at hb)
        have HMN := Lib.hid ((HMX.out.fr (fun b hb hs => f67.block b hb (fun e => hs.elim (fun h => h e) fun h => by have := hol b e; omega)) fun b hb hs => hnew b hb (hs.elim id fun h e => by have := hol b e; omega)) : Sl kItem (fun b => v'.ownBlock ≠ some b) w7 (.slice xa dn.length xc) dn)
        have HP1 := Lib.hid (Build.push (w := w8) HROW.out HZ8.out r1 (((Fr.refl _ _).alloc _).trans2 r2 (fun b _ h => h)) (by
          rcases r3 with r3 | ⟨r3, _⟩
          · exact .inl r3
          · exact .inr ⟨_, r3, by (try simp)⟩))
        have HOW1 := Lib.hid (show ∀ b, v'.ownBlock = some b → w.heap.size ≤ b from fun b hb => by
          rcases r3 with r3 | ⟨r3, _⟩
          · exact HOW.out b (r3 ▸ hb)
          · rw [r3] at hb; cases hb; have := (FW.out.trans F8.out).size; (try simp); omega)
        have HF7 := Lib.hid ((FW.out.trans F8.out).trans2 f67 (fun b hb e => by have := HOW.out b e; omega))
        clear r1 r2 r3 f67 hol hnew
        go_wp2_with fail
        go_roundw
        case rel =>
          refine ⟨j + 1, pre ++ [wHap j X dr], dn, xa, xc, by omega, by go_num, rfl, by rw [List.length_append]; simp; omega, ?_, HOW1.out, HMN.out, by rw [List.length_append]; have := HML.out; have := HDL.out; simp; omega, HF7.out, ?_⟩
          · have := HP1.out
            rw [HY.out] at this
            exact this
          · rw [List.append_assoc, List.singleton_append, List.length_append, List.length_singleton, ← HST.out]
            exact HEQ.out
        case measure => simp [intOf]; omega
    | false =>
      cases fr with
      | true =>
        have HBLD := Lib.hid (fun (y : World) => held_build (build76 (w := y) X.1.1 X.1.2.1 X.1.2.2.1 a0 X.1.2.2.2.length n0 HYL.out (1000 + 10 * (j : Int) - (ah : Int)) (1000 + 10 * (j : Int) + (af : Int)) false true))
        have hrd : kHap.rd (fun b => (Value.slice oa pre.length oc).ownBlock ≠ some b) w2 ([.int .i64 X.1.1, .int .u64 X.1.2.1, .int .u64 X.1.2.2.1, .slice a0 X.1.2.2.2.length n0] ++ (ys ++ [.int .i64 (1000 + 10 * (j : Int) - (ah : Int)), .int .i64 (1000 + 10 * (j : Int) + (af : Int)), .bool false, .bool true])) (X.1, dr, 1000 + 10 * (j : Int) - (ah : Int), 1000 + 10 * (j : Int) + (af : Int), false, true) :=
          ⟨_, _, rfl, HCC1.out, ys, _, rfl, HYR.out, [_], _, rfl, ⟨rfl, HWF.out.1⟩, [_], _, rfl, ⟨rfl, HWF.out.2⟩, [_], _, rfl, rfl, rfl⟩
        obtain ⟨cs, hcs⟩ : ∃ cs, [Value.int .i64 X.1.1, .int .u64 X.1.2.1, .int .u64 X.1.2.2.1, .slice a0 X.1.2.2.2.length n0] ++ (ys ++ [.int .i64 (1000 + 10 * (j : Int) - (ah : Int)), .int .i64 (1000 + 10 * (j : Int) + (af : Int)), .bool false, .bool true]) = cs := ⟨_, rfl⟩
        have hclen : cs.length = 23 := by rw [← hcs]; simp [HYL.out]
        have hc20 : cs[20]? = some (.int .i64 (1000 + 10 * (j : Int) + (af : Int))) := by rw [← hcs, List.getElem?_append_right (by simp), List.getElem?_append_right (by simp [HYL.out])]; simp [HYL.out]
        have hc21 : cs[21]? = some (.bool false) := by rw [← hcs, List.getElem?_append_right (by simp), List.getElem?_append_right (by simp [HYL.out])]; simp [HYL.out]
        rw [hcs] at HBLD hrd
        have HRD := Lib.hid hrd
        have HCL := Lib.hid hclen
        have HC20 := Lib.hid hc20
        have HC21 := Lib.hid hc21
        clear hrd hcs hclen hc20 hc21
        go_wp2_with fail
        have fd : Fr Non w2 w2.drew := (Fr.refl _ _).drew
        refine wp_draw [((fun y => Fr Non w2 y), [(.free, 0), (.free, 1), (.free, 2), (.free, 3), (.held, 4), (.held, 5), (.free, 6), (.free, 7), (.free, 8), (.free, 9), (.free, 10), (.held, 11), (.held, 12), (.free, 13), (.free, 14), (.free, 15), (.free, 16), (.free, 17), (.free, 18), (.held, 19), (.held, 20), (.free, 21), (.free, 22), (.free, 23), (.free, 24), (.free, 25), (.held, 26), (.free, 27), (.free, 28), (.free, 29), (.free, 30), (.held, 31), (.free, 32), (.free, 33), (.free, 34), (.free, 35), (.free, 36), (.held, 37), (.free, 38), (.free, 39), (.free, 40), (.kept, 41)])] 42 (by kernel_rfl) (by kernel_rfl) (fun _ _ _ _ _ h => h) ⟨fd, ?_⟩
        generalize w2.drew = wd at fd ⊢
        repeat (first
          | (refine' wpPlan_free (v := _) rfl (by rfl) ?_ ?_
             rotate_left
             · (intro w'; skip; go_simp; try rfl)
             simp only [List.getElem_toArray, List.getElem_cons_zero, List.getElem_cons_succ, Act.put, List.setIfInBounds_toArray, List.set_cons_zero, List.set_cons_succ])
          | (refine' wpPlan_held (v := _) rfl (by rfl) (fun w' hS => held_of (LC2.out w' hS)) ?_
             simp only [List.getElem_toArray, List.getElem_cons_zero, List.getElem_cons_succ, Act.put, List.setIfInBounds_toArray, List.set_cons_zero, List.set_cons_succ])
          | (refine' wpPlan_held (v := _) rfl (by rfl) (fun w' hS => held_of (L52.out w' hS)) ?_
             simp only [List.getElem_toArray, List.getElem_cons_zero, List.getElem_cons_succ, Act.put, List.setIfInBounds_toArray, List.set_cons_zero, List.set_cons_succ])
          | (refine' wpPlan_held (v := _) rfl (by rfl) ?_ ?_
             rotate_left
             · (intro w' hS; skip; obtain ⟨c0, c3, c4, c5, c6, c7⟩ := HCC.out w' hS; clear hS; go_simp; try rfl)
             simp only [List.getElem_toArray, List.getElem_cons_zero, List.getElem_cons_succ, Act.put, List.setIfInBounds_toArray, List.set_cons_zero, List.set_cons_succ])
          | (refine' wpPlan_skip rfl (by rfl) ?_
             simp only [List.getElem_toArray, List.getElem_cons_zero, List.getElem_cons_succ, Act.put, List.setIfInBounds_toArray, List.set_cons_zero, List.set_cons_succ])
          | (refine' wpPlan_skipHeld rfl (by rfl) ?_
             simp only [List.getElem_toArray, List.getElem_cons_zero, List.getElem_cons_succ, Act.put, List.setIfInBounds_toArray, List.set_cons_zero, List.set_cons_succ]))
        refine' wpPlan_free (v := .agg cs.toArray) rfl (by rfl) (fun w' => (by simp only [execOp, List.map_toArray, List.map_cons, List.map_nil, Act.eval, List.getElem_toArray, List.getElem_cons_zero, List.getElem_cons_succ]; exact HBLD.out w')) ?_
        simp only [List.getElem_toArray, List.getElem_cons_zero, List.getElem_cons_succ, Act.put, List.setIfInBounds_toArray, List.set_cons_zero, List.set_cons_succ]
        refine' wpPlan_kept rfl ?_
        intro K hK
        go_simp
        refine hK _ _ ⟨fd.alloc _, ?_⟩
        clear hK K
        refine wpPlan_end ?_
        simp only [wpSegs, List.drop_succ_cons, List.drop_zero]
        have FD := Lib.hid fd
        clear fd
        go_wp2_with (refine wpList_store_block rfl 76 _ _ rfl wd.heap.size 0 rfl (.agg cs.toArray) rfl _ 76 (alloc_at wd _) ?hfit ?hinf ?hone ?_)
        case hinf => rw [show (Value.agg cs.toArray).cells.size = 23 by simp [Value.cells, HCL.out]]; kernel_rfl
        case hfit => simp [Value.cells, HCL.out]
        case hone => intro u hu; exact kHap.one HRD.out u (by simpa [Value.cells] using hu)
        intro w5 hb5 f5
        rw [putAt_whole _ _ (by simp [HCL.out])] at hb5
        replace hb5 : w5.heap[wd.heap.size]? = some (.cells cs.toArray 76 (0, 0)) := by simpa [Value.cells] using hb5
        have f35 : Fr Non w2 w5 := FD.out.trans (((Fr.refl Non wd).alloc _).trans2 f5 (fun b hb he => by omega))
        have HDS := Lib.hid (show W.heap.size ≤ wd.heap.size from (F2.out.trans FD.out).size)
        have HDS2 := Lib.hid FD.out.size
        obtain ⟨D, hD⟩ : ∃ D, wd.heap.size = D := ⟨_, rfl⟩
        rw [hD] at hb5 HDS HDS2 ⊢
        have HB5 := Lib.hid hb5
        have x20 := (BoxH.cell hb5 HC20.out)
        have x21 := (BoxH.cell hb5 HC21.out)
        have hfz := (box_facts hb5).2
        have F5 := Lib.hid (F2.out.trans f35)
        have F51 := Lib.hid (F3.out.trans f35)
        have HRD5 := Lib.hid (kHap.stay HRD.out f35)
        have F25 := Lib.hid f35
        have hcs23 : cs.length = 23 := HCL.out
        clear hb5 f5 f35 hD
        have LDB := Lib.hid (box_load HB5.out HCL.out)
        have HY := Lib.hid (show (X.1, dr, 1000 + 10 * (j : Int) - (ah : Int), 1000 + 10 * (j : Int) + (af : Int), false, true) = wHap j X dr by unfold wHap wAt; rw [HX.out.1, HX.out.2.1, HX.out.2.2.1, HX.out.2.2.2]; rfl)
        obtain ⟨rcs, g6, hrow⟩ := (HG.out.fr F5.out)
        have HROW := Lib.hid hrow
        have hg6 := Lib.hid g6
        have HMX := Lib.hid (HXV.out.stay F51.out)
        clear hrow g6
        go_wp2_with (first | refine wpList_load_w 76 (.pointer (some ⟨D, 0, none⟩)) _ LDB.out _ rfl rfl (by rfl) ?_ | (at_builtin; refine wpList_append_g rfl _ _ eI76 rfl _ _ _ rfl (hg6.out.keep fun b hb => ?k1) _ 1 cs rfl ?hsrc ?k2 ?k3 ?_))
        case hsrc =>
          have e := fold_set0 cs 0 [] [.int .i64 0, .int .u64 0, .int .u64 0, .slice none 0 0, .int .i64 0, .int .u64 0, .slice none 0 0, .slice none 0 0, .int .i64 0, .int .i64 0, .int .u64 0, .int .i64 0, .int .u64 0, .int .i64 0, .int .i64 0, .int .u64 0, .int .i64 0, .int .u64 0, .bool false, .int .i64 0, .int .i64 0, .bool false, .bool false] rfl (by rw [HCL.out]; rfl)
          simp only [List.nil_append] at e
          rw [e]
          exact Src.block (m := 1) (alloc_at w5 _) (by simp [HCL.out]) (kHap.one HRD5.out)
        case k1 => exact Below.heap_alloc _ _ _ (hg6.out.lt b hb)
        case k2 => unfold maxLen; omega
        case k3 => omega
        intro v' w7 r1 r2 r3
        have f67 : Fr (fun b => (Value.slice oa pre.length oc).ownBlock = some b) w5 w7 := ((Fr.refl _ w5).alloc _).trans r2
        have hol : ∀ b, (Value.slice oa pre.length oc).ownBlock = some b → b < W.heap.size := fun b hb => (HG.out.choose_spec.1).lt b hb
        have hnew : ∀ b, b < w5.heap.size → (Value.slice oa pre.length oc).ownBlock ≠ some b → v'.ownBlock ≠ some b := fun b hb hn e => by
          rcases r3 with r3 | ⟨r3, _⟩
          · exact hn (r3 ▸ e)
          · rw [r3] at e
            cases e
            first | omega | (simp at hb)
        have HMN := Lib.hid ((HMX.out.fr (fun b hb hs => f67.block b hb (fun e => hs.elim (fun h => h e) fun h => by have := hol b e; omega)) fun b hb hs => hnew b hb (hs.elim id fun h e => by have := hol b e; omega)) : Sl kItem (fun b => v'.ownBlock ≠ some b) w7 (.slice xa dn.length xc) dn)
        have HP1 := Lib.hid (Build.push (w := w5) HROW.out HRD5.out r1 (((Fr.refl _ _).alloc _).trans2 r2 (fun b _ h => h)) (by
          rcases r3 with r3 | ⟨r3, _⟩
          · exact .inl r3
          · exact .inr ⟨_, r3, by (try simp)⟩))
        have HOW1 := Lib.hid (show ∀ b, v'.ownBlock = some b → w.heap.size ≤ b from fun b hb => by
          rcases r3 with r3 | ⟨r3, _⟩
          · exact HOW.out b (r3 ▸ hb)
          · rw [r3] at hb; cases hb; have := (FW.out.trans F5.out).size; (try simp); omega)
        have HF7 := Lib.hid ((FW.out.trans F5.out).trans2 f67 (fun b hb e => by have := HOW.out b e; omega))
        clear r1 r2 r3 f67 hol hnew
        go_wp2_with fail
        go_roundw
        case rel =>
          refine ⟨j + 1, pre ++ [wHap j X dr], dn, xa, xc, by omega, by go_num, rfl, by rw [List.length_append]; simp; omega, ?_, HOW1.out, HMN.out, by rw [List.length_append]; have := HML.out; have := HDL.out; simp; omega, HF7.out, ?_⟩
          · have := HP1.out
            rw [HY.out] at this
            exact this
          · rw [List.append_assoc, List.singleton_append, List.length_append, List.length_singleton, ← HST.out]
            exact HEQ.out
        case measure => simp [intOf]; omega
      | false =>
        have HBLD := Lib.hid (fun (y : World) => held_build (build76 (w := y) X.1.1 X.1.2.1 X.1.2.2.1 a0 X.1.2.2.2.length n0 HYL.out (1000 + 10 * (j : Int) - (ah : Int)) (1000 + 10 * (j : Int) + (af : Int)) false false))
        have hrd : kHap.rd (fun b => (Value.slice oa pre.length oc).ownBlock ≠ some b) w2 ([.int .i64 X.1.1, .int .u64 X.1.2.1, .int .u64 X.1.2.2.1, .slice a0 X.1.2.2.2.length n0] ++ (ys ++ [.int .i64 (1000 + 10 * (j : Int) - (ah : Int)), .int .i64 (1000 + 10 * (j : Int) + (af : Int)), .bool false, .bool false])) (X.1, dr, 1000 + 10 * (j : Int) - (ah : Int), 1000 + 10 * (j : Int) + (af : Int), false, false) :=
          ⟨_, _, rfl, HCC1.out, ys, _, rfl, HYR.out, [_], _, rfl, ⟨rfl, HWF.out.1⟩, [_], _, rfl, ⟨rfl, HWF.out.2⟩, [_], _, rfl, rfl, rfl⟩
        obtain ⟨cs, hcs⟩ : ∃ cs, [Value.int .i64 X.1.1, .int .u64 X.1.2.1, .int .u64 X.1.2.2.1, .slice a0 X.1.2.2.2.length n0] ++ (ys ++ [.int .i64 (1000 + 10 * (j : Int) - (ah : Int)), .int .i64 (1000 + 10 * (j : Int) + (af : Int)), .bool false, .bool false]) = cs := ⟨_, rfl⟩
        have hclen : cs.length = 23 := by rw [← hcs]; simp [HYL.out]
        have hc20 : cs[20]? = some (.int .i64 (1000 + 10 * (j : Int) + (af : Int))) := by rw [← hcs, List.getElem?_append_right (by simp), List.getElem?_append_right (by simp [HYL.out])]; simp [HYL.out]
        have hc21 : cs[21]? = some (.bool false) := by rw [← hcs, List.getElem?_append_right (by simp), List.getElem?_append_right (by simp [HYL.out])]; simp [HYL.out]
        rw [hcs] at HBLD hrd
        have HRD := Lib.hid hrd
        have HCL := Lib.hid hclen
        have HC20 := Lib.hid hc20
        have HC21 := Lib.hid hc21
        clear hrd hcs hclen hc20 hc21
        go_wp2_with fail
        have fd : Fr Non w2 w2.drew := (Fr.refl _ _).drew
        refine wp_draw [((fun y => Fr Non w2 y), [(.free, 0), (.free, 1), (.free, 2), (.free, 3), (.held, 4), (.held, 5), (.free, 6), (.free, 7), (.free, 8), (.free, 9), (.free, 10), (.held, 11), (.held, 12), (.free, 13), (.free, 14), (.free, 15), (.free, 16), (.free, 17), (.free, 18), (.held, 19), (.held, 20), (.free, 21), (.free, 22), (.free, 23), (.free, 24), (.free, 25), (.held, 26), (.free, 27), (.free, 28), (.free, 29), (.free, 30), (.held, 31), (.free, 32), (.free, 33), (.free, 34), (.free, 35), (.free, 36), (.held, 37), (.free, 38), (.free, 39), (.free, 40), (.kept, 41)])] 42 (by kernel_rfl) (by kernel_rfl) (fun _ _ _ _ _ h => h) ⟨fd, ?_⟩
        generalize w2.drew = wd at fd ⊢
        repeat (first
          | (refine' wpPlan_free (v := _) rfl (by rfl) ?_ ?_
             rotate_left
             · (intro w'; skip; go_simp; try rfl)
             simp only [List.getElem_toArray, List.getElem_cons_zero, List.getElem_cons_succ, Act.put, List.setIfInBounds_toArray, List.set_cons_zero, List.set_cons_succ])
          | (refine' wpPlan_held (v := _) rfl (by rfl) (fun w' hS => held_of (LC2.out w' hS)) ?_
             simp only [List.getElem_toArray, List.getElem_cons_zero, List.getElem_cons_succ, Act.put, List.setIfInBounds_toArray, List.set_cons_zero, List.set_cons_succ])
          | (refine' wpPlan_held (v := _) rfl (by rfl) (fun w' hS => held_of (L52.out w' hS)) ?_
             simp only [List.getElem_toArray, List.getElem_cons_zero, List.getElem_cons_succ, Act.put, List.setIfInBounds_toArray, List.set_cons_zero, List.set_cons_succ])
          | (refine' wpPlan_held (v := _) rfl (by rfl) ?_ ?_
             rotate_left
             · (intro w' hS; skip; obtain ⟨c0, c3, c4, c5, c6, c7⟩ := HCC.out w' hS; clear hS; go_simp; try rfl)
             simp only [List.getElem_toArray, List.getElem_cons_zero, List.getElem_cons_succ, Act.put, List.setIfInBounds_toArray, List.set_cons_zero, List.set_cons_succ])
          | (refine' wpPlan_skip rfl (by rfl) ?_
             simp only [List.getElem_toArray, List.getElem_cons_zero, List.getElem_cons_succ, Act.put, List.setIfInBounds_toArray, List.set_cons_zero, List.set_cons_succ])
          | (refine' wpPlan_skipHeld rfl (by rfl) ?_
             simp only [List.getElem_toArray, List.getElem_cons_zero, List.getElem_cons_succ, Act.put, List.setIfInBounds_toArray, List.set_cons_zero, List.set_cons_succ]))
        refine' wpPlan_free (v := .agg cs.toArray) rfl (by rfl) (fun w' => (by simp only [execOp, List.map_toArray, List.map_cons, List.map_nil, Act.eval, List.getElem_toArray, List.getElem_cons_zero, List.getElem_cons_succ]; exact HBLD.out w')) ?_
        simp only [List.getElem_toArray, List.getElem_cons_zero, List.getElem_cons_succ, Act.put, List.setIfInBounds_toArray, List.set_cons_zero, List.set_cons_succ]
        refine' wpPlan_kept rfl ?_
        intro K hK
        go_simp
        refine hK _ _ ⟨fd.alloc _, ?_⟩
        clear hK K
        refine wpPlan_end ?_
        simp only [wpSegs, List.drop_succ_cons, List.drop_zero]
        have FD := Lib.hid fd
        clear fd
        go_wp2_with (refine wpList_store_block rfl 76 _ _ rfl wd.heap.size 0 rfl (.agg cs.toArray) rfl _ 76 (alloc_at wd _) ?hfit ?hinf ?hone ?_)
        case hinf => rw [show (Value.agg cs.toArray).cells.size = 23 by simp [Value.cells, HCL.out]]; kernel_rfl
        case hfit => simp [Value.cells, HCL.out]
        case hone => intro u hu; exact kHap.one HRD.out u (by simpa [Value.cells] using hu)
        intro w5 hb5 f5
        rw [putAt_whole _ _ (by simp [HCL.out])] at hb5
        replace hb5 : w5.heap[wd.heap.size]? = some (.cells cs.toArray 76 (0, 0)) := by simpa [Value.cells] using hb5
        have f35 : Fr Non w2 w5 := FD.out.trans (((Fr.refl Non wd).alloc _).trans2 f5 (fun b hb he => by omega))
        have HDS := Lib.hid (show W.heap.size ≤ wd.heap.size from (F2.out.trans FD.out).size)
        have HDS2 := Lib.hid FD.out.size
        obtain ⟨D, hD⟩ : ∃ D, wd.heap.size = D := ⟨_, rfl⟩
        rw [hD] at hb5 HDS HDS2 ⊢
        have HB5 := Lib.hid hb5
        have x20 := (BoxH.cell hb5 HC20.out)
        have x21 := (BoxH.cell hb5 HC21.out)
        have hfz := (box_facts hb5).2
        have F5 := Lib.hid (F2.out.trans f35)
        have F51 := Lib.hid (F3.out.trans f35)
        have HRD5 := Lib.hid (kHap.stay HRD.out f35)
        have F25 := Lib.hid f35
        have hcs23 : cs.length = 23 := HCL.out
        clear hb5 f5 f35 hD
        have LDB := Lib.hid (box_load HB5.out HCL.out)
        have HY := Lib.hid (show (X.1, dr, 1000 + 10 * (j : Int) - (ah : Int), 1000 + 10 * (j : Int) + (af : Int), false, false) = wHap j X dr by unfold wHap wAt; rw [HX.out.1, HX.out.2.1, HX.out.2.2.1, HX.out.2.2.2]; rfl)
        obtain ⟨rcs, g6, hrow⟩ := (HG.out.fr F5.out)
        have HROW := Lib.hid hrow
        have hg6 := Lib.hid g6
        have HMX := Lib.hid (HXV.out.stay F51.out)
        clear hrow g6
        go_wp2_with (first | refine wpList_load_w 76 (.pointer (some ⟨D, 0, none⟩)) _ LDB.out _ rfl rfl (by rfl) ?_ | (at_builtin; refine wpList_append_g rfl _ _ eI76 rfl _ _ _ rfl (hg6.out.keep fun b hb => ?k1) _ 1 cs rfl ?hsrc ?k2 ?k3 ?_))
        case hsrc =>
          have e := fold_set0 cs 0 [] [.int .i64 0, .int .u64 0, .int .u64 0, .slice none 0 0, .int .i64 0, .int .u64 0, .slice none 0 0, .slice none 0 0, .int .i64 0, .int .i64 0, .int .u64 0, .int .i64 0, .int .u64 0, .int .i64 0, .int .i64 0, .int .u64 0, .int .i64 0, .int .u64 0, .bool false, .int .i64 0, .int .i64 0, .bool false, .bool false] rfl (by rw [HCL.out]; rfl)
          simp only [List.nil_append] at e
          rw [e]
          exact Src.block (m := 1) (alloc_at w5 _) (by simp [HCL.out]) (kHap.one HRD5.out)
        case k1 => exact Below.heap_alloc _ _ _ (hg6.out.lt b hb)
        case k2 => unfold maxLen; omega
        case k3 => omega
        intro v' w7 r1 r2 r3
        have f67 : Fr (fun b => (Value.slice oa pre.length oc).ownBlock = some b) w5 w7 := ((Fr.refl _ w5).alloc _).trans r2
        have hol : ∀ b, (Value.slice oa pre.length oc).ownBlock = some b → b < W.heap.size := fun b hb => (HG.out.choose_spec.1).lt b hb
        have hnew : ∀ b, b < w5.heap.size → (Value.slice oa pre.length oc).ownBlock ≠ some b → v'.ownBlock ≠ some b := fun b hb hn e => by
          rcases r3 with r3 | ⟨r3, _⟩
          · exact hn (r3 ▸ e)
          · rw [r3] at e
            cases e
            first | omega | (simp at hb)
        have HMN := Lib.hid ((HMX.out.fr (fun b hb hs => f67.block b hb (fun e => hs.elim (fun h => h e) fun h => by have := hol b e; omega)) fun b hb hs => hnew b hb (hs.elim id fun h e => by have := hol b e; omega)) : Sl kItem (fun b => v'.ownBlock ≠ some b) w7 (.slice xa dn.length xc) dn)
        have HP1 := Lib.hid (Build.push (w := w5) HROW.out HRD5.out r1 (((Fr.refl _ _).alloc _).trans2 r2 (fun b _ h => h)) (by
          rcases r3 with r3 | ⟨r3, _⟩
          · exact .inl r3
          · exact .inr ⟨_, r3, by (try simp)⟩))
        have HOW1 := Lib.hid (show ∀ b, v'.ownBlock = some b → w.heap.size ≤ b from fun b hb => by
          rcases r3 with r3 | ⟨r3, _⟩
          · exact HOW.out b (r3 ▸ hb)
          · rw [r3] at hb; cases hb; have := (FW.out.trans F5.out).size; (try simp); omega)
        have HF7 := Lib.hid ((FW.out.trans F5.out).trans2 f67 (fun b hb e => by have := HOW.out b e; omega))
        clear r1 r2 r3 f67 hol hnew
        go_wp2_with fail
        go_roundw
        case rel =>
          refine ⟨j + 1, pre ++ [wHap j X dr], dn, xa, xc, by omega, by go_num, rfl, by rw [List.length_append]; simp; omega, ?_, HOW1.out, HMN.out, by rw [List.length_append]; have := HML.out; have := HDL.out; simp; omega, HF7.out, ?_⟩
          · have := HP1.out
            rw [HY.out] at this
            exact this
          · rw [List.append_assoc, List.singleton_append, List.length_append, List.length_singleton, ← HST.out]
            exact HEQ.out
        case measure => simp [intOf]; omega
end Go.Proofs.Ytplhcfaonhkegaa

namespace Go.Proofs.Ytplhcfaonhkegaa
open Go.RowKit Go.Maps

set_option maxRecDepth 100000 in
set_option maxHeartbeats 4000000 in
theorem linWas_any {w : World} {u : Value} {L : List MWas} (hl : Sl kWas All w u L) (hB : L.length * 56 ≤ reachBytes) :
    Calls Try.prog 20 #[u] w fun e w' => e = .returned (.bool true) ∧ Fr Non w w' := by
  obtain ⟨va, vc, rfl, _⟩ := hl.frm
  have HL := Lib.hid hl
  clear hl
  go_enter Try.func20, Try.ntmps20
  go_wp2_with fail
  refine (lawake_any w).mono ?_
  rintro e w1 ⟨rfl, f1⟩
  go_wp2_with fail
  refine (told_any (HL.out.stay f1) hB).mono ?_
  rintro e w2 ⟨v2, rfl, hv2, f2⟩
  have HLW := Lib.hid (lin_was L)
  obtain ⟨l, hl⟩ : ∃ l, lTold 0 [] 0 L = l := ⟨_, rfl⟩
  rw [hl] at hv2 HLW
  obtain ⟨l2a, l2c, rfl, _⟩ := hv2.frm
  have HV2 := Lib.hid hv2
  have F2 := Lib.hid (f1.trans f2)
  clear hl hv2 f1 f2 HL
  go_wp2_with fail
  refine (linear_any HV2.out).mono ?_
  rintro e w3 ⟨rfl, f3⟩
  have F3 := Lib.hid (F2.out.trans f3)
  obtain ⟨T, hT⟩ : ∃ T, lLinear l = T := ⟨_, rfl⟩
  rw [hT] at HLW ⊢
  obtain ⟨ok, er⟩ := T
  simp only at HLW ⊢
  clear hT f3 HV2 F2
  rcases HLW.out with rfl | ⟨rfl, rfl⟩
  · go_wp2_with fail
    go_ret
    exact ⟨by rfl, F3.out⟩
  · go_wp2_with fail
    go_ret
    exact ⟨by rfl, F3.out⟩
end Go.Proofs.Ytplhcfaonhkegaa
