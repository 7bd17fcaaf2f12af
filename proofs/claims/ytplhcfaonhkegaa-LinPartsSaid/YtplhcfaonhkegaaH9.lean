/-
  Ranges.
-/
import Derived.Test.YtplhcfaonhkegaaH8
namespace Go.Proofs.Ytplhcfaonhkegaa
open Go.RowKit Go.Maps

theorem hRanges_append (l : List MHap) (x : MHap) : ∀ (xs : List MHap) (n : Int), hRanges l n (xs ++ [x]) = hRanges l n xs ++ (if hRange l x then [n + (xs.length : Int)] else [])
  | [], n => by by_cases h : hRange l x <;> simp [hRanges, h]
  | y :: ys, n => by
    have ih := hRanges_append l x ys (n + 1)
    have e : n + 1 + (ys.length : Int) = n + ((y :: ys).length : Int) := by simp; omega
    rw [e] at ih
    by_cases h : hRange l y <;> simp only [List.cons_append, hRanges, h, ih, if_true, if_false, Bool.false_eq_true]
theorem hRanges_next {l : List MHap} {j : Nat} (h : j < l.length) : hRanges l 0 (l.take (j + 1)) = hRanges l 0 (l.take j) ++ (if hRange l l[j] then [(j : Int)] else []) := by
  rw [List.take_succ_eq_append_getElem h, hRanges_append]
  have : (l.take j).length = j := by rw [List.length_take]; omega
  rw [this, Int.zero_add]
def ints (l : List Int) : List Value := l.map (.int .i64 ·)
theorem eI3 : ElemInfo Try.prog 73 3 1 8 := elemInfo (z := .int .i64 0) Try.underlying73 (by kernel_rfl) rfl (by decide)
theorem hRanges_len (l : List MHap) : ∀ (xs : List MHap) (n : Int), (hRanges l n xs).length ≤ xs.length
  | [], _ => by simp [hRanges]
  | y :: ys, n => by
    have := hRanges_len l ys (n + 1)
    by_cases h : hRange l y <;> simp [hRanges, h] <;> omega
theorem HapV.ones {S : Nat → Prop} {w : World} {cs : List Value} {x : MHap} (h : HapV S w (.agg cs.toArray) x) : ∀ u ∈ cs, u.oneCell' = true := by
  obtain ⟨a0, n0, a1, n1, a2, n2, e, _⟩ := h
  have e2 : cs = hapCells x (.slice a0 x.1.2.2.2.length n0) (.slice a1 x.2.1.2.2.1.length n1) (.slice a2 x.2.1.2.2.2.1.length n2) := by
    have := congrArg (fun v : Value => match v with | .agg c => c.toList | _ => []) e
    simpa using this
  rw [e2]
  intro u hu
  simp only [hapCells, resCells, refCells, List.cons_append, List.nil_append, List.mem_cons, List.not_mem_nil, or_false] at hu
  rcases hu with rfl | rfl | rfl | rfl | rfl | rfl | rfl | rfl | rfl | rfl | rfl | rfl | rfl | rfl | rfl | rfl | rfl | rfl | rfl | rfl | rfl | rfl | rfl <;> rfl
/-- A whole value stored over a box of its size. -/
theorem putAt_whole (cur l : List Value) (h : cur.length = l.length) : putAt cur 0 l = l := by
  refine List.ext_getElem? fun i => ?_
  unfold putAt
  simp [← h]

theorem fold_set : ∀ (cs : List Value) (k : Nat) (pre rest : List Value), pre.length = 1 + k → rest.length = cs.length →
    List.foldl (fun (cs : Array Value) (x : Value × Nat) => cs.setIfInBounds (1 + x.snd) x.fst) (pre ++ rest).toArray (cs.zipIdx k) = (pre ++ cs).toArray
  | [], k, pre, rest, _, h => by rw [List.eq_nil_of_length_eq_zero h]; rfl
  | c :: cs, k, pre, [], _, h => by simp at h
  | c :: cs, k, pre, r :: rs, h1, h2 => by
    have ih := fold_set cs (k + 1) (pre ++ [c]) rs (by simp; omega) (by simpa using h2)
    rw [List.zipIdx_cons, List.foldl_cons, List.setIfInBounds_toArray, ← h1, List.set_append_right (h := Nat.le_refl _), Nat.sub_self, List.set_cons_zero]
    simpa using ih
theorem build_ask (lv : Value) : ∀ (cs : List Value), cs.length = 23 → List.foldl (fun (cs : Array Value) (x : Value × Nat) => cs.setIfInBounds (1 + x.snd) x.fst)
    #[lv, .int .i64 0, .int .u64 0, .int .u64 0, .slice none 0 0, .int .i64 0, .int .u64 0, .slice none 0 0, .slice none 0 0, .int .i64 0, .int .i64 0, .int .u64 0, .int .i64 0, .int .u64 0, .int .i64 0, .int .i64 0, .int .u64 0, .int .i64 0, .int .u64 0, .bool false, .int .i64 0, .int .i64 0, .bool false, .bool false] cs.zipIdx = (lv :: cs).toArray
  | cs, h => fold_set cs 0 [lv] _ rfl (by rw [h]; rfl)

set_option maxRecDepth 100000 in
set_option maxHeartbeats 4000000 in
theorem ranges_any {w : World} {u : Value} {l : List MHap} (hl : Sl kHap All w u l) (hn : l.length ≤ 200000) (hi : ∀ x ∈ l, x.2.1.2.2.2.1.length ≤ 200000) :
    Calls Try.prog 48 #[u] w fun e w' => ∃ v, e = .returned v ∧ GRow w' 3 1 v (hRanges l 0 l).length (ints (hRanges l 0 l)) ∧ Fr Non w w' ∧ ∀ b, v.ownBlock = some b → w.heap.size ≤ b := by
  obtain ⟨va, vc, rfl, _, hx, _⟩ := hl.frm
  unfold maxLen at hx
  have HL := Lib.hid hl
  have HI1 := Lib.hid hi
  clear hl hi
  go_enter Try.func48, Try.ntmps48
  go_wp2_with fail
  go_loopw [3, 8] (fun v i wr => ∃ (j : Nat), j ≤ l.length ∧ i = .int .i64 j ∧ Hid (GRow wr 3 1 v (hRanges l 0 (l.take j)).length (ints (hRanges l 0 (l.take j))) ∧ Fr Non w wr ∧ ∀ b, v.ownBlock = some b → w.heap.size ≤ b)) (fun _ i _ => l.length - (intOf i).toNat)
  case atStart => exact ⟨0, by omega, rfl, GRow.nil _ _ _, Fr.refl _ _, by simp [Value.ownBlock]⟩
  case round =>
    obtain ⟨j, hj, rfl, HI⟩ := hrel
    by_cases hlt : j < l.length
    · have f1 := HI.out.2.1
      obtain ⟨B, O, V, rfl, hV, hld⟩ := hap_load (HL.out.stay f1) j hlt
      have HNX := Lib.hid (hRanges_next hlt)
      have j0 : (0 : Int) ≤ (j : Int) := by omega
      have j1 : (j : Int) < (l.length : Int) := by omega
      have HLD := Lib.hid hld
      obtain ⟨cs, rfl, hlen, _⟩ := hV.size
      clear hld
      have HV := Lib.hid hV
      go_wp2_with (first | refine wpList_load_v rfl 76 _ rfl _ rfl _ HLD.out ?_ | refine wpList_store_block rfl 76 _ _ rfl wr.heap.size 0 rfl (.agg cs.toArray) rfl _ 76 (alloc_at wr _) ?hfit ?hinf ?hone ?_)
      case hinf => rw [show (Value.agg cs.toArray).cells.size = 23 by simp [Value.cells, hlen]]; kernel_rfl
      case hfit => simp [Value.cells, hlen]
      case hone => intro u hu; exact HV.out.ones u (by simpa [Value.cells] using hu)
      intro w2 hbx f2
      rw [putAt_whole _ _ (by simp [hlen])] at hbx
      have f3 : Fr Non wr w2 := ((Fr.refl Non wr).alloc _).trans2 f2 (fun b hb he => by omega)
      have BX : Hid (BoxH w2 wr.heap.size l[j] (.agg cs.toArray)) := Lib.hid ⟨cs, rfl, HV.out.stay f3, by simpa [Value.cells] using hbx⟩
      clear hbx f2
      obtain ⟨D, hD⟩ : ∃ D, wr.heap.size = D := ⟨_, rfl⟩
      rw [hD] at BX ⊢
      have HIL := Lib.hid (HI1.out l[j] (List.getElem_mem hlt))
      obtain ⟨X, hX⟩ : ∃ X, l[j] = X := ⟨_, rfl⟩
      rw [hX] at BX HNX HIL
      clear hX HLD HV hD hV
      obtain ⟨_, ldx, x0, _, _, x4, _, _, x21, _⟩ := BX.out.facts
      have LDX := Lib.hid ldx
      clear ldx
      obtain ⟨g1, _, g3⟩ := HI.out
      have hcount : (hRanges l 0 (l.take j)).length ≤ j := by have := hRanges_len l (l.take j) 0; rw [List.length_take] at this; omega
      have g4 := g1.keep (w' := w2) (fun b hb => f3.block b (g1.lt b hb) id)
      have f5 : Fr Non w w2 := f1.trans f3
      have G4 := Lib.hid g4
      have G3 := Lib.hid g3
      clear g1 g3 g4
      by_cases k1 : X.1.1 = 5
      rotate_left
      · have hno : hRange l X = false := by simp [hRange, k1]
        have HNO := Lib.hid hno
        have N := Lib.hid (beq_eq_false_iff_ne.2 k1)
        clear hno
        go_wp2_with fail
        go_roundw
        case rel => exact ⟨j + 1, by omega, by go_num, by rw [HNX.out, HNO.out]; simpa using G4.out, f5, G3.out⟩
        case measure => simp [intOf]; omega
      have K1 := Lib.hid k1
      rw [k1] at x0
      clear k1
      obtain ⟨o, ho⟩ : ∃ o, X.2.2.2.2.1 = o := ⟨_, rfl⟩
      rw [ho] at x21
      have HO := Lib.hid ho
      clear ho
      cases o with
      | true =>
        have HNO := Lib.hid (show hRange l X = false by simp [hRange, HO.out])
        go_wp2_with fail
        go_roundw
        case rel => exact ⟨j + 1, by omega, by go_num, by rw [HNX.out, HNO.out]; simpa using G4.out, f5, G3.out⟩
        case measure => simp [intOf]; omega
      | false =>
      by_cases k3 : X.2.1.1 = 0
      rotate_left
      · have HNO := Lib.hid (show hRange l X = false by simp [hRange, k3])
        have N := Lib.hid (beq_eq_false_iff_ne.2 k3)
        go_wp2_with fail
        go_roundw
        case rel => exact ⟨j + 1, by omega, by go_num, by rw [HNX.out, HNO.out]; simpa using G4.out, f5, G3.out⟩
        case measure => simp [intOf]; omega
      have K3 := Lib.hid k3
      rw [k3] at x4
      clear k3
      have HEQ := Lib.hid (show hRange l X = hWrong l X by simp [hRange, HO.out, K1.out, K3.out])
      go_wp2_with (refine wpList_load_w 76 (.pointer (some ⟨D, 0, none⟩)) _ LDX.out _ rfl rfl (by rfl) ?_)
      rw [build_ask _ cs hlen]
      refine (wrong_any (RV := .agg cs.toArray) ⟨cs, _, rfl, rfl, rfl, BX.out.facts.1, HL.out.stay f5⟩ HIL.out).mono ?_
      rintro e w6 ⟨rfl, f6⟩
      obtain ⟨t, ht⟩ : ∃ t, hWrong l X = t := ⟨_, rfl⟩
      rw [ht]
      have HT := Lib.hid ht
      clear ht x0 x4 x21
      generalize Value.agg ((Value.slice (some ⟨B, O, none⟩) l.length vc :: cs).toArray) = AV
      cases t with
      | false =>
        go_wp2_with fail
        go_roundw
        case rel => exact ⟨j + 1, by omega, by go_num, by rw [HNX.out, HEQ.out, HT.out]; simpa using G4.out.keep (w' := w6) (fun b hb => f6.block b (G4.out.lt b hb) id), f5.trans f6, G3.out⟩
        case measure => simp [intOf]; omega
      | true =>
        have g6 := Lib.hid (G4.out.keep (w' := w6) (fun b hb => f6.block b (G4.out.lt b hb) id))
        go_wp2_with (at_builtin; refine wpList_append_g rfl _ _ eI3 rfl _ _ _ rfl (g6.out.keep fun b hb => ?k1) _ 1 [.int .i64 j] rfl (Src.block (m := 1) (alloc_at w6 _) rfl (by simp [Value.oneCell'])) ?k2 ?k3 ?_)
        case k1 => exact Below.heap_alloc _ _ _ (g6.out.lt b hb)
        case k2 => unfold maxLen; omega
        case k3 => omega
        intro v' w7 r1 r2 r3
        go_wp2_with fail
        go_roundw
        case rel =>
          refine ⟨j + 1, by omega, by go_num, ?_, ?_, ?_⟩
          · rw [HNX.out, HEQ.out, HT.out]
            simpa [ints] using r1
          · exact ((f5.trans f6).alloc _).trans2 r2 (fun b hb hx => by have := G3.out b hx; omega)
          · intro b hb
            rcases r3 with r3 | ⟨r3, _⟩
            · exact G3.out b (r3 ▸ hb)
            · rw [r3] at hb; cases hb; have := (f5.trans f6).size; (try simp); omega
        case measure => simp [intOf]; omega
    · obtain rfl : j = l.length := by omega
      obtain ⟨h1, h2, h3⟩ := HI.out
      rw [List.take_length] at h1
      go_wp2_with fail
      refine bodyPost_ret (v := _) (by simp [results, Try.results48, go_sem]) rfl ⟨_, rfl, h1, h2, h3⟩
end Go.Proofs.Ytplhcfaonhkegaa
