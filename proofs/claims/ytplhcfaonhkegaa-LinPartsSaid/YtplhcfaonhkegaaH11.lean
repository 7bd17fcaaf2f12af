/-
  Points.
-/
import Derived.Test.YtplhcfaonhkegaaH10a
namespace Go.Proofs.Ytplhcfaonhkegaa
open Go.RowKit Go.Maps

set_option maxRecDepth 100000 in
set_option maxHeartbeats 4000000 in
theorem points_any {w : World} {u : Value} {l : List MHap} (hl : Sl kHap All w u l) (hn : l.length ≤ 200000) :
    Calls Try.prog 87 #[u] w fun e w' => ∃ v, e = .returned v ∧ Build kHap 76 w' v (hPoints l) ∧ Fr Non w w' ∧ ∀ b, v.ownBlock = some b → w.heap.size ≤ b := by
  obtain ⟨va, vc, rfl, _, hx, _⟩ := hl.frm
  unfold maxLen at hx
  have HL := Lib.hid hl.there
  clear hl
  go_enter Try.func87, Try.ntmps87
  go_wp2_with fail
  go_loopw [3, 8] (fun v i wr => ∃ (j : Nat), j ≤ l.length ∧ i = .int .i64 j ∧ Hid (Build kHap 76 wr v (hPoints (l.take j)) ∧ Fr Non w wr ∧ ∀ b, v.ownBlock = some b → w.heap.size ≤ b)) (fun _ i _ => l.length - (intOf i).toNat)
  case atStart => exact ⟨0, by omega, rfl, Build.nil _ _ _, Fr.refl _ _, by simp [Value.ownBlock]⟩
  case round =>
    obtain ⟨j, hj, rfl, HI⟩ := hrel
    by_cases hlt : j < l.length
    · have f1 := HI.out.2.1
      obtain ⟨B, O, cs, rfl, hrd, hV, hld⟩ := hap_rd (HL.out.stay f1) j hlt
      have HNX := Lib.hid (hPoints_next hlt)
      have j0 : (0 : Int) ≤ (j : Int) := by omega
      have j1 : (j : Int) < (l.length : Int) := by omega
      have HLD := Lib.hid hld
      obtain ⟨cs', e, hlen, _⟩ := hV.size
      obtain rfl : cs = cs' := by
        have := congrArg (fun v : Value => match v with | .agg c => c.toList | _ => []) e
        simpa using this
      clear hld e
      have HV := Lib.hid hV
      have HR := Lib.hid hrd
      have ONES := Lib.hid hV.ones
      clear hrd hV
      go_wp2_with (first | refine wpList_load_v rfl 76 _ rfl _ rfl _ HLD.out ?_ | refine wpList_store_block rfl 76 _ _ rfl wr.heap.size 0 rfl (.agg cs.toArray) rfl _ 76 (alloc_at wr _) ?hfit ?hinf ?hone ?_)
      case hinf => rw [show (Value.agg cs.toArray).cells.size = 23 by simp [Value.cells, hlen]]; kernel_rfl
      case hfit => simp [Value.cells, hlen]
      case hone => intro u hu; exact HV.out.ones u (by simpa [Value.cells] using hu)
      intro w2 hbx f2
      rw [putAt_whole _ _ (by simp [hlen])] at hbx
      have f3 : Fr Non wr w2 := ((Fr.refl Non wr).alloc _).trans2 f2 (fun b hb he => by omega)
      have BX : Hid (BoxH w2 wr.heap.size l[j] (.agg cs.toArray)) := Lib.hid ⟨cs, rfl, (HV.out.stay f3).mono (fun _ _ _ => trivial), by simpa [Value.cells] using hbx⟩
      clear hbx f2
      obtain ⟨D, hD⟩ : ∃ D, wr.heap.size = D := ⟨_, rfl⟩
      rw [hD] at BX ⊢
      obtain ⟨X, hX⟩ : ∃ X, l[j] = X := ⟨_, rfl⟩
      rw [hX] at BX HNX HR
      clear hX HLD HV
      obtain ⟨_, ldx, x0, _, _, x4, _, _, x21, x22⟩ := BX.out.facts
      have LDX := Lib.hid ldx
      clear ldx
      obtain ⟨g1, _, g3⟩ := HI.out
      have hcount : (hPoints (l.take j)).length ≤ j := by have := hPoints_len (l.take j); rw [List.length_take] at this; omega
      have f5 : Fr Non w w2 := f1.trans f3
      have G4 := Lib.hid (g1.fr f3)
      have G3 := Lib.hid g3
      have HG1 := Lib.hid g1
      clear g1 g3 x4 x21
      by_cases k1 : X.1.1 = 5
      · rw [k1] at x0
        have HNO := Lib.hid (show (decide (X.1.1 = 5) || hNothing X) = true by simp [k1])
        go_wp2_with fail
        go_roundw
        case rel => exact ⟨j + 1, by omega, by go_num, by rw [HNX.out, HNO.out]; simpa using G4.out, f5, G3.out⟩
        case measure => simp [intOf]; omega
      have n1 : (X.1.1 == 5) = false := beq_eq_false_iff_ne.2 k1
      have K1 := Lib.hid k1
      go_wp2_with (refine wpList_load_w 76 (.pointer (some ⟨D, 0, none⟩)) _ LDX.out _ rfl rfl (by rfl) ?_)
      refine (hnothing_any BX.out.facts.1).mono ?_
      rintro e w6 ⟨rfl, f6⟩
      clear LDX
      obtain ⟨t, ht⟩ : ∃ t, hNothing X = t := ⟨_, rfl⟩
      rw [ht]
      have HT := Lib.hid ht
      clear ht
      cases t with
      | true =>
        have HNO := Lib.hid (show (decide (X.1.1 = 5) || hNothing X) = true by simp [HT.out])
        go_wp2_with fail
        go_roundw
        case rel => exact ⟨j + 1, by omega, by go_num, by rw [HNX.out, HNO.out]; simpa using G4.out.fr f6, f5.trans f6, G3.out⟩
        case measure => simp [intOf]; omega
      | false =>
      have HYES := Lib.hid (show (decide (X.1.1 = 5) || hNothing X) = false by simp [HT.out, K1.out])
      have f7 := f5.trans f6
      have BX2 := Lib.hid (BX.out.fr f6)
      obtain ⟨_, ldy, _, _, _, _, _, _, _, y22⟩ := BX2.out.facts
      have LDY := Lib.hid ldy
      have G6 := Lib.hid (G4.out.fr f6)
      clear ldy x0 x22 n1 k1
      obtain ⟨o, ho⟩ : ∃ o, X.2.2.2.2.2 = o := ⟨_, rfl⟩
      rw [ho] at y22
      have HO := Lib.hid ho
      clear ho
      cases o with
      | false =>
        have HP := Lib.hid (show hPoint X = X by simp [hPoint, HO.out])
        obtain ⟨rcs, g6, hrow⟩ := G6.out
        have HROW := Lib.hid hrow
        have hg6 := Lib.hid g6
        clear hrow g6
        go_wp2_with (first | refine wpList_load_w 76 (.pointer (some ⟨D, 0, none⟩)) _ LDY.out _ rfl rfl (by rfl) ?_ | (at_builtin; refine wpList_append_g rfl _ _ eI76 rfl _ _ _ rfl (hg6.out.keep fun b hb => ?k1) _ 1 cs rfl ?hsrc ?k2 ?k3 ?_))
        case hsrc =>
          have e := fold_set0 cs 0 [] [.int .i64 0, .int .u64 0, .int .u64 0, .slice none 0 0, .int .i64 0, .int .u64 0, .slice none 0 0, .slice none 0 0, .int .i64 0, .int .i64 0, .int .u64 0, .int .i64 0, .int .u64 0, .int .i64 0, .int .i64 0, .int .u64 0, .int .i64 0, .int .u64 0, .bool false, .int .i64 0, .int .i64 0, .bool false, .bool false] rfl (by rw [hlen]; rfl)
          simp only [List.nil_append] at e
          rw [e]
          exact Src.block (m := 1) (alloc_at w6 _) (by simp [hlen]) ONES.out
        case k1 => exact Below.heap_alloc _ _ _ (hg6.out.lt b hb)
        case k2 => unfold maxLen; omega
        case k3 => omega
        intro v' w7 r1 r2 r3
        go_wp2_with fail
        go_roundw
        case rel =>
          refine ⟨j + 1, by omega, by go_num, ?_, ?_, ?_⟩
          · rw [HNX.out, HYES.out, HP.out]
            refine Build.push (w := w6) HROW.out (kHap.mono (kHap.frame HR.out (f3.trans f6) (fun _ _ _ => id)) (fun b _ hb e => by have := G3.out b e; omega)) r1 (((Fr.refl _ _).alloc _).trans2 r2 (fun b _ h => h)) ?_
            rcases r3 with r3 | ⟨r3, _⟩
            · exact .inl r3
            · exact .inr ⟨_, r3, by (try simp)⟩
          · exact (f7.alloc _).trans2 r2 (fun b hb hx => by have := G3.out b hx; omega)
          · intro b hb
            rcases r3 with r3 | ⟨r3, _⟩
            · exact G3.out b (r3 ▸ hb)
            · rw [r3] at hb; cases hb; have := f7.size; (try simp); omega
        case measure => simp [intOf]; omega
      | true =>
        have HP := Lib.hid (show hPoint X = (X.1, mErr 0, X.2.2) by simp [hPoint, HO.out])
        have HBX : Hid (w6.heap[D]? = some (.cells cs.toArray 76 (0, 0))) := Lib.hid (by
          obtain ⟨cs', e, _, h⟩ := BX2.out
          have : cs = cs' := by
            have := congrArg (fun v : Value => match v with | .agg c => c.toList | _ => []) e
            simpa using this
          rw [this]; exact h)
        have HZ := Lib.hid (hap_zero HR.out)
        clear LDY
        go_wp2_with (refine wpList_store_block rfl 52 _ _ rfl D 4 rfl (.agg #[.int .i64 0, .int .u64 0, .slice none 0 0, .slice none 0 0, .int .i64 0, .int .i64 0, .int .u64 0, .int .i64 0, .int .u64 0, .int .i64 0, .int .i64 0, .int .u64 0, .int .i64 0, .int .u64 0, .bool false]) rfl cs.toArray 76 HBX.out ?hfit ?hinf ?hone ?_)
        case hinf => kernel_rfl
        case hfit => simp [Value.cells, hlen]
        case hone => intro u hu; simp only [Value.cells, List.mem_cons, List.not_mem_nil, or_false] at hu; rcases hu with rfl | rfl | rfl | rfl | rfl | rfl | rfl | rfl | rfl | rfl | rfl | rfl | rfl | rfl | rfl <;> rfl
        intro w7 hbx f8
        obtain ⟨ds, hds⟩ : ∃ ds, putAt cs 4 (resCells (mErr 0) (.slice none 0 0) (.slice none 0 0)) = ds := ⟨_, rfl⟩
        replace hbx : w7.heap[D]? = some (.cells (putAt cs 4 (resCells (mErr 0) (.slice none 0 0) (.slice none 0 0))).toArray 76 (0, 0)) := hbx
        rw [hds] at hbx HZ
        have dlen : ds.length = 23 := kHap.len HZ.out
        have f9 : Fr Non w w7 := f7.trans2 f8 (fun b hb e => by have := f1.size; omega)
        have f10 : Fr Non wr w7 := (f3.trans f6).trans2 f8 (fun b hb e => by omega)
        have LDZ : Hid ((Instr.loadAt 76 (.pointer (some ⟨D, 0, none⟩))).run Try.prog w7 = .ok (.agg ds.toArray) w7) := Lib.hid (run_loadAt_list _ _ Try.underlying76 rfl (by rw [dlen]; exact size76) (fun j v hv => by rw [Nat.zero_add]; exact BoxH.cell hbx hv))
        have G7 := Lib.hid (HG1.out.fr f10)
        have DONES := Lib.hid (kHap.one HZ.out)
        clear hds hbx
        obtain ⟨rcs, g6, hrow⟩ := G7.out
        have HROW := Lib.hid hrow
        have hg6 := Lib.hid g6
        clear hrow g6
        go_wp2_with (first | refine wpList_load_w 76 (.pointer (some ⟨D, 0, none⟩)) _ LDZ.out _ rfl rfl (by rfl) ?_ | (at_builtin; refine wpList_append_g rfl _ _ eI76 rfl _ _ _ rfl (hg6.out.keep fun b hb => ?k1) _ 1 ds rfl ?hsrc ?k2 ?k3 ?_))
        case hsrc =>
          have e := fold_set0 ds 0 [] [.int .i64 0, .int .u64 0, .int .u64 0, .slice none 0 0, .int .i64 0, .int .u64 0, .slice none 0 0, .slice none 0 0, .int .i64 0, .int .i64 0, .int .u64 0, .int .i64 0, .int .u64 0, .int .i64 0, .int .i64 0, .int .u64 0, .int .i64 0, .int .u64 0, .bool false, .int .i64 0, .int .i64 0, .bool false, .bool false] rfl (by rw [dlen]; rfl)
          simp only [List.nil_append] at e
          rw [e]
          exact Src.block (m := 1) (alloc_at w7 _) (by simp [dlen]) DONES.out
        case k1 => exact Below.heap_alloc _ _ _ (hg6.out.lt b hb)
        case k2 => unfold maxLen; omega
        case k3 => omega
        intro v' w8 r1 r2 r3
        go_wp2_with fail
        go_roundw
        case rel =>
          refine ⟨j + 1, by omega, by go_num, ?_, ?_, ?_⟩
          · rw [HNX.out, HYES.out, HP.out]
            refine Build.push (w := w7) HROW.out (kHap.mono (kHap.frame HZ.out f10 (fun _ _ _ => id)) (fun b _ hb e => by have := G3.out b e; omega)) r1 (((Fr.refl _ _).alloc _).trans2 r2 (fun b _ h => h)) ?_
            rcases r3 with r3 | ⟨r3, _⟩
            · exact .inl r3
            · exact .inr ⟨_, r3, by (try simp)⟩
          · exact (f9.alloc _).trans2 r2 (fun b hb hx => by have := G3.out b hx; omega)
          · intro b hb
            rcases r3 with r3 | ⟨r3, _⟩
            · exact G3.out b (r3 ▸ hb)
            · rw [r3] at hb; cases hb; have := f9.size; (try simp); omega
        case measure => simp [intOf]; omega
    · obtain rfl : j = l.length := by omega
      obtain ⟨h1, h2, h3⟩ := HI.out
      rw [List.take_length] at h1
      go_wp2_with fail
      refine bodyPost_ret (v := _) (by simp [results, Try.results87, go_sem]) rfl ⟨_, rfl, h1, h2, h3⟩
end Go.Proofs.Ytplhcfaonhkegaa
