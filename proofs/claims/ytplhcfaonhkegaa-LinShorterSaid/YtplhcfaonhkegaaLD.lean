/-
  The law of shorter histories, walked.
-/
import Derived.Test.YtplhcfaonhkegaaLC
namespace Go.Proofs.Ytplhcfaonhkegaa
open Go.RowKit Go.Maps

theorem hap_open {S : Nat → Prop} {w : World} {cs : List Value} {x : MHap} (h : kHap.rd S w cs x) :
    kHap.rd S w (putAt ((cs.set 21 (.bool true)).set 20 (.int .i64 0)) 4 (resCells (mErr 0) (.slice none 0 0) (.slice none 0 0))) (lOpen x) := by
  obtain ⟨c1, _, rfl, h1, d1, _, rfl, h2, _, _, rfl, ⟨rfl, h3⟩, _, _, rfl, ⟨rfl, h4⟩, _, _, rfl, rfl, rfl⟩ := h
  have l1 : c1.length = 4 := kCall.len h1
  have l2 : d1.length = 15 := kRes.len h2
  refine ⟨c1, _, ?_, h1, _, _, rfl, cells_res (by decide) (by simp) (.inl ⟨rfl, rfl⟩) (by simp) (.inl ⟨rfl, rfl⟩) (by simp), [_], _, rfl, ⟨rfl, h3⟩, [_], _, rfl, ⟨rfl, by show (Lit.int .i64 0).wf = true; decide⟩, [_], _, rfl, rfl, rfl⟩
  rw [List.set_append_right (h := by omega), List.set_append_right (h := by omega), List.set_append_right (h := by omega), List.set_append_right (h := by omega), l1, l2]
  unfold putAt
  rw [show (resCells (mErr 0) (.slice none 0 0) (.slice none 0 0)).length = 15 from rfl, ← l1, List.take_left]
  rw [List.drop_append, List.drop_append, List.drop_of_length_le (by omega), List.drop_of_length_le (by omega)]
  rw [show c1.length + 15 - c1.length - d1.length = 0 by omega]
  simp
  rw [l1]
  rfl
theorem lShort_next {t : Int} {l : List MHap} {j : Nat} (h : j < l.length) : lShort t (l.take (j + 1)) = lShort t (l.take j) ++ (match lSome t l[j] with | none => [] | some y => [y]) := by
  unfold lShort
  rw [List.take_succ_eq_append_getElem h, List.filterMap_append, List.filterMap_cons, List.filterMap_nil]
  cases lSome t l[j] <;> rfl
theorem lShort_len (t : Int) (l : List MHap) : (lShort t l).length ≤ l.length := List.length_filterMap_le _ _
set_option maxRecDepth 100000 in
set_option maxHeartbeats 4000000 in
theorem linShorter_any {w : World} {u : Value} {L : List MHap} (hl : Sl kHap All w u L) (t : Int) :
    Calls Try.prog 15 #[u, .int .i64 t] w fun e w' => e = .returned (.bool true) ∧ Fr Non w w' := by
  obtain ⟨va, vc, rfl, _⟩ := hl.frm
  have HL := Lib.hid hl
  clear hl
  go_enter Try.func15, Try.ntmps15
  go_wp2_with fail
  refine (lawake_any w).mono ?_
  rintro e w1 ⟨rfl, f1⟩
  go_wp2_with fail
  refine (lcut_any (HL.out.stay f1) 9 (by decide)).mono ?_
  rintro e w2 ⟨v2, rfl, hv2, f2⟩
  have hlen := lCut_len 9 L
  obtain ⟨l, hl⟩ : ∃ l, lCut 9 L = l := ⟨_, rfl⟩
  rw [hl] at hv2 hlen
  obtain ⟨l2a, l2c, rfl, _⟩ := hv2.frm
  have HV2 := Lib.hid hv2
  have F2 := Lib.hid (f1.trans f2)
  clear hl hv2 f1 f2 HL
  go_wp2_with fail
  refine (order_any HV2.out).mono ?_
  rintro e w3 ⟨v3, rfl, hv3, f3⟩
  obtain ⟨v3a, v3c, rfl, _⟩ := hv3.frm
  have HLW := Lib.hid (fun h => lShort_holds (t := t) (l := l) h)
  obtain ⟨R, hR⟩ : ∃ R, lOrder l = R := ⟨_, rfl⟩
  rw [hR] at HLW ⊢
  obtain ⟨o, ok, er⟩ := R
  have F3 := Lib.hid (F2.out.trans f3)
  have HV3 := Lib.hid (HV2.out.stay f3)
  clear hR f3 hv3 HV2 F2
  simp only at HLW ⊢
  by_cases h0 : er = 0
  rotate_left
  · have g0 : (er != 0) = true := by simpa using h0
    cases ok with
    | true =>
      go_wp2_with fail
      go_ret
      exact ⟨by rfl, F3.out⟩
    | false =>
      go_wp2_with fail
      go_ret
      exact ⟨by rfl, F3.out⟩
  subst h0
  cases ok with
  | false =>
    go_wp2_with fail
    go_ret
    exact ⟨by rfl, F3.out⟩
  | true =>
  replace HLW := Lib.hid (HLW.out rfl)
  go_wp2_with fail

  go_loopw [8, 9] (fun v i wr => ∃ (j : Nat), j ≤ l.length ∧ i = .int .i64 j ∧ Hid (Build kHap 76 wr v (lShort t (l.take j)) ∧ Fr Non w3 wr ∧ ∀ b, v.ownBlock = some b → w3.heap.size ≤ b)) (fun _ i _ => l.length - (intOf i).toNat)
  case atStart => exact ⟨0, by omega, rfl, by simpa [lShort] using Build.nil _ _ _, Fr.refl _ _, by simp [Value.ownBlock]⟩
  case round =>
    obtain ⟨j, hj, rfl, HI⟩ := hrel
    have f1 := HI.out.2.1
    obtain ⟨g1, _, g3⟩ := HI.out
    obtain ⟨oa, oc, rfl⟩ := g1.form
    have hle : (lShort t (l.take j)).length ≤ 9 := by have := lShort_len t (l.take j); rw [List.length_take] at this; omega
    have HG1 := Lib.hid g1
    have G3 := Lib.hid g3
    have F1 := Lib.hid f1
    have j0 : (0 : Int) ≤ (j : Int) := by omega
    clear g1 g3 HI f1
    by_cases hlt : j < l.length
    · have j1 : (j : Int) < (l.length : Int) := by omega
      have HNX := Lib.hid (lShort_next (t := t) hlt)
      obtain ⟨b, o', cs, e, hr, _, hlen2, hld⟩ := hap_held (HV3.out.there.stay F1.out) j hlt
      subst e
      have LD := Lib.hid (hld _ (Fr.refl _ _))
      obtain ⟨Y, hY⟩ : ∃ Y, lShort t (l.take j) = Y := ⟨_, rfl⟩
      rw [hY] at HNX HG1 hle G3 ⊢
      have HR := Lib.hid hr
      have ONES := Lib.hid (kHap.one hr)
      have HLE := Lib.hid hlen2
      clear hr hld hlen2 hY
      go_wp2_with (first | refine wpList_load_w 76 (.pointer (some ⟨b, o' + j * 23, none⟩)) _ LD.out _ rfl rfl (by rfl) ?_ | refine wpList_store_block rfl 76 _ _ rfl wr.heap.size 0 rfl (.agg cs.toArray) rfl _ 76 (alloc_at wr _) ?hfit ?hinf ?hone ?_)
      case hinf => rw [show (Value.agg cs.toArray).cells.size = 23 by simp [Value.cells, HLE.out]]; kernel_rfl
      case hfit => simp [Value.cells, HLE.out]
      case hone => intro u hu; exact ONES.out u (by simpa [Value.cells] using hu)
      intro w5 hbx f2
      rw [putAt_whole _ _ (by simp [HLE.out])] at hbx
      have f3 : Fr Non wr w5 := ((Fr.refl Non wr).alloc _).trans2 f2 (fun b hb he => by omega)
      replace hbx : w5.heap[wr.heap.size]? = some (.cells cs.toArray 76 (0, 0)) := by simpa [Value.cells] using hbx
      have hc : ∀ k v, cs[k]? = some v → w5.cell? ⟨wr.heap.size, k, none⟩ = some v := fun k v hv => BoxH.cell hbx hv
      obtain ⟨a0, n0, a1, n1, a2, n2, ecs, _, _, _⟩ := hap_cells HR.out
      have x19 := hc 19 (.int .i64 l[j].2.2.1) (by rw [ecs]; rfl)
      have x20 := hc 20 (.int .i64 l[j].2.2.2.1) (by rw [ecs]; rfl)
      have x21 := hc 21 (.bool l[j].2.2.2.2.1) (by rw [ecs]; rfl)
      have hfz := (box_facts hbx).2
      obtain ⟨D, hD⟩ : ∃ D, wr.heap.size = D := ⟨_, rfl⟩
      rw [hD] at hbx x19 x20 x21 hfz ⊢
      obtain ⟨X, hX⟩ : ∃ X, l[j] = X := ⟨_, rfl⟩
      rw [hX] at HNX HR x19 x20 x21
      have HD := Lib.hid hD
      have HBX := Lib.hid hbx
      have F3X := Lib.hid f3
      have G6 := Lib.hid (HG1.out.fr f3)
      have f6 := Lib.hid (F1.out.trans f3)
      have HR6 := Lib.hid (kHap.stay HR.out f3)
      have LDB := Lib.hid (box_load hbx HLE.out)
      clear hX hc ecs f2 hbx f3 hD LD
      have hcs23 : cs.length = 23 := HLE.out
      by_cases hA : t ≤ X.2.2.1
      · have HE := Lib.hid (show lShort t (l.take (j + 1)) = Y by rw [HNX.out]; unfold lSome; rw [if_pos hA, List.append_nil])
        go_wp2_with fail
        go_roundw
        case rel => exact ⟨j + 1, by omega, by go_num, by rw [HE.out]; exact G6.out, f6.out, G3.out⟩
        case measure => simp [intOf]; omega
      obtain ⟨op, hop⟩ : ∃ b, X.2.2.2.2.1 = b := ⟨_, rfl⟩
      have HOP := Lib.hid hop
      rw [hop] at x21
      clear hop
      cases op with
      | true =>
        have HE := Lib.hid (show lShort t (l.take (j + 1)) = Y ++ [X] by rw [HNX.out]; unfold lSome; rw [if_neg hA, HOP.out, if_neg (by simp)])
        obtain ⟨rcs, g6, hrow⟩ := G6.out
        have HROW := Lib.hid hrow
        have hg6 := Lib.hid g6
        clear hrow g6
        go_wp2_with (first | refine wpList_load_w 76 (.pointer (some ⟨D, 0, none⟩)) _ LDB.out _ rfl rfl (by rfl) ?_ | (at_builtin; refine wpList_append_g rfl _ _ eI76 rfl _ _ _ rfl (hg6.out.keep fun b hb => ?k1) _ 1 cs rfl ?hsrc ?k2 ?k3 ?_))
        case hsrc =>
          have e := fold_set0 cs 0 [] [.int .i64 0, .int .u64 0, .int .u64 0, .slice none 0 0, .int .i64 0, .int .u64 0, .slice none 0 0, .slice none 0 0, .int .i64 0, .int .i64 0, .int .u64 0, .int .i64 0, .int .u64 0, .int .i64 0, .int .i64 0, .int .u64 0, .int .i64 0, .int .u64 0, .bool false, .int .i64 0, .int .i64 0, .bool false, .bool false] rfl (by rw [HLE.out]; rfl)
          simp only [List.nil_append] at e
          rw [e]
          exact Src.block (m := 1) (alloc_at w5 _) (by simp [HLE.out]) (kHap.one HR6.out)
        case k1 => exact Below.heap_alloc _ _ _ (hg6.out.lt b hb)
        case k2 => unfold maxLen; omega
        case k3 => omega
        intro v' w7 r1 r2 r3
        go_wp2_with fail
        go_roundw
        case rel =>
          refine ⟨j + 1, by omega, by go_num, ?_, ?_, ?_⟩
          · rw [HE.out]
            refine Build.push (w := w5) HROW.out (kHap.mono HR6.out (fun b _ hb e => by have := G3.out b e; omega)) r1 (((Fr.refl _ _).alloc _).trans2 r2 (fun b _ h => h)) ?_
            rcases r3 with r3 | ⟨r3, _⟩
            · exact .inl r3
            · exact .inr ⟨_, r3, by (try simp)⟩
          · exact (f6.out.alloc _).trans2 r2 (fun b hb hx => by have := G3.out b hx; omega)
          · intro b hb
            rcases r3 with r3 | ⟨r3, _⟩
            · exact G3.out b (r3 ▸ hb)
            · rw [r3] at hb; cases hb; have := f6.out.size; (try simp); omega
        case measure => simp [intOf]; omega
      | false =>
      by_cases hB : t ≤ X.2.2.2.1
      rotate_left
      · have HE := Lib.hid (show lShort t (l.take (j + 1)) = Y ++ [X] by rw [HNX.out]; unfold lSome; rw [if_neg hA, if_neg (fun h => hB h.2)])
        obtain ⟨rcs, g6, hrow⟩ := G6.out
        have HROW := Lib.hid hrow
        have hg6 := Lib.hid g6
        clear hrow g6
        go_wp2_with (first | refine wpList_load_w 76 (.pointer (some ⟨D, 0, none⟩)) _ LDB.out _ rfl rfl (by rfl) ?_ | (at_builtin; refine wpList_append_g rfl _ _ eI76 rfl _ _ _ rfl (hg6.out.keep fun b hb => ?k1) _ 1 cs rfl ?hsrc ?k2 ?k3 ?_))
        case hsrc =>
          have e := fold_set0 cs 0 [] [.int .i64 0, .int .u64 0, .int .u64 0, .slice none 0 0, .int .i64 0, .int .u64 0, .slice none 0 0, .slice none 0 0, .int .i64 0, .int .i64 0, .int .u64 0, .int .i64 0, .int .u64 0, .int .i64 0, .int .i64 0, .int .u64 0, .int .i64 0, .int .u64 0, .bool false, .int .i64 0, .int .i64 0, .bool false, .bool false] rfl (by rw [HLE.out]; rfl)
          simp only [List.nil_append] at e
          rw [e]
          exact Src.block (m := 1) (alloc_at w5 _) (by simp [HLE.out]) (kHap.one HR6.out)
        case k1 => exact Below.heap_alloc _ _ _ (hg6.out.lt b hb)
        case k2 => unfold maxLen; omega
        case k3 => omega
        intro v' w7 r1 r2 r3
        go_wp2_with fail
        go_roundw
        case rel =>
          refine ⟨j + 1, by omega, by go_num, ?_, ?_, ?_⟩
          · rw [HE.out]
            refine Build.push (w := w5) HROW.out (kHap.mono HR6.out (fun b _ hb e => by have := G3.out b e; omega)) r1 (((Fr.refl _ _).alloc _).trans2 r2 (fun b _ h => h)) ?_
            rcases r3 with r3 | ⟨r3, _⟩
            · exact .inl r3
            · exact .inr ⟨_, r3, by (try simp)⟩
          · exact (f6.out.alloc _).trans2 r2 (fun b hb hx => by have := G3.out b hx; omega)
          · intro b hb
            rcases r3 with r3 | ⟨r3, _⟩
            · exact G3.out b (r3 ▸ hb)
            · rw [r3] at hb; cases hb; have := f6.out.size; (try simp); omega
        case measure => simp [intOf]; omega
      have HE := Lib.hid (show lShort t (l.take (j + 1)) = Y ++ [lOpen X] by rw [HNX.out]; unfold lSome; rw [if_neg hA, if_pos ⟨HOP.out, hB⟩])
      have z2 := heap_setCell_same _ D 20 _ 76 (.int .i64 0) (heap_setCell_same w5 D 21 _ 76 (.bool true) HBX.out)
      have HZ2 := Lib.hid z2
      clear z2
      go_wp2_with (refine wpList_store_block rfl 52 _ _ rfl D 4 rfl (.agg #[.int .i64 0, .int .u64 0, .slice none 0 0, .slice none 0 0, .int .i64 0, .int .i64 0, .int .u64 0, .int .i64 0, .int .u64 0, .int .i64 0, .int .i64 0, .int .u64 0, .int .i64 0, .int .u64 0, .bool false]) rfl ((cs.toArray.setIfInBounds 21 (.bool true)).setIfInBounds 20 (.int .i64 0)) 76 HZ2.out ?hfit ?hinf ?hone ?_)
      case hinf => exact ⟨_, rfl, rfl⟩
      case hone => simp [Value.oneCell']
      intro w8 hb8 f8
      have HZ := Lib.hid (hap_open HR6.out)
      obtain ⟨ds, hds⟩ : ∃ ds, putAt ((cs.set 21 (.bool true)).set 20 (.int .i64 0)) 4 (resCells (mErr 0) (.slice none 0 0) (.slice none 0 0)) = ds := ⟨_, rfl⟩
      replace hb8 : w8.heap[D]? = some (.cells (putAt ((cs.set 21 (.bool true)).set 20 (.int .i64 0)) 4 (resCells (mErr 0) (.slice none 0 0) (.slice none 0 0))).toArray 76 (0, 0)) := hb8
      rw [hds] at hb8 HZ
      have dlen : ds.length = 23 := kHap.len HZ.out
      have f59 : Fr (fun b => b = D) w5 w8 := (((Fr.refl (fun b => b = D) w5).setCell (p := ⟨D, 21, none⟩) (.inl rfl) (.bool true)).setCell (p := ⟨D, 20, none⟩) (.inl rfl) (.int .i64 0)).trans f8
      have f10 : Fr Non wr w8 := F3X.out.trans2 f59 (fun b hb e => by have := HD.out; omega)
      have HZ8 := Lib.hid (kHap.mono (kHap.frame HZ.out f59 (fun b _ hs e => by have := HD.out; have := F1.out.size; omega)) (fun _ _ hs => hs) : kHap.rd (fun b => b < w3.heap.size) w8 ds (lOpen X))
      have G6' := Lib.hid (HG1.out.fr f10)
      have LDZ := Lib.hid (box_load hb8 dlen)
      have f11 := Lib.hid (F1.out.trans f10)
      clear G6 hb8 f8 f59 f10 hds HZ2 x19 x20 x21 hfz
      obtain ⟨rcs, g6, hrow⟩ := G6'.out
      have HROW := Lib.hid hrow
      have hg6 := Lib.hid g6
      clear hrow g6
      go_wp2_with (first | refine wpList_load_w 76 (.pointer (some ⟨D, 0, none⟩)) _ LDZ.out _ rfl rfl (by rfl) ?_ | (at_builtin; refine wpList_append_g rfl _ _ eI76 rfl _ _ _ rfl (hg6.out.keep fun b hb => ?k1) _ 1 ds rfl ?hsrc ?k2 ?k3 ?_))
      case hsrc =>
        have e := fold_set0 ds 0 [] [.int .i64 0, .int .u64 0, .int .u64 0, .slice none 0 0, .int .i64 0, .int .u64 0, .slice none 0 0, .slice none 0 0, .int .i64 0, .int .i64 0, .int .u64 0, .int .i64 0, .int .u64 0, .int .i64 0, .int .i64 0, .int .u64 0, .int .i64 0, .int .u64 0, .bool false, .int .i64 0, .int .i64 0, .bool false, .bool false] rfl (by rw [dlen]; rfl)
        simp only [List.nil_append] at e
        rw [e]
        exact Src.block (m := 1) (alloc_at w8 _) (by simp [dlen]) (kHap.one HZ8.out)
      case k1 => exact Below.heap_alloc _ _ _ (hg6.out.lt b hb)
      case k2 => unfold maxLen; omega
      case k3 => omega
      intro v' w9 r1 r2 r3
      go_wp2_with fail
      go_roundw
      case rel =>
        refine ⟨j + 1, by omega, by go_num, ?_, ?_, ?_⟩
        · rw [HE.out]
          refine Build.push (w := w8) HROW.out (kHap.mono HZ8.out (fun b _ hb e => by have := G3.out b e; omega)) r1 (((Fr.refl _ _).alloc _).trans2 r2 (fun b _ h => h)) ?_
          rcases r3 with r3 | ⟨r3, _⟩
          · exact .inl r3
          · exact .inr ⟨_, r3, by (try simp)⟩
        · exact (f11.out.alloc _).trans2 r2 (fun b hb hx => by have := G3.out b hx; omega)
        · intro b hb
          rcases r3 with r3 | ⟨r3, _⟩
          · exact G3.out b (r3 ▸ hb)
          · rw [r3] at hb; cases hb; have := f11.out.size; (try simp); omega
      case measure => simp [intOf]; omega
    · obtain rfl : j = l.length := by omega
      rw [List.take_length] at HG1 G3 hle ⊢
      obtain ⟨Y, hY⟩ : ∃ Y, lShort t l = Y := ⟨_, rfl⟩
      rw [hY] at HG1 G3 hle HLW ⊢
      have HF := Lib.hid (F3.out.trans F1.out)
      clear G3 hY
      go_wp2_with fail
      refine (order_any HG1.out.sl).mono ?_
      rintro e w5 ⟨v5, rfl, hv5, f5⟩
      obtain ⟨v5a, v5c, rfl, _⟩ := hv5.frm
      obtain ⟨R, hR⟩ : ∃ R, lOrder Y = R := ⟨_, rfl⟩
      rw [hR] at HLW ⊢
      obtain ⟨o5, ok5, er5⟩ := R
      have HF5 := Lib.hid (HF.out.trans f5)
      clear hR f5 hv5
      simp only at HLW ⊢
      rcases HLW.out with rfl | ⟨rfl, rfl⟩
      · go_wp2_with fail
        go_ret
        exact ⟨by rfl, HF5.out⟩
      · go_wp2_with fail
        go_ret
        exact ⟨by rfl, HF5.out⟩
end Go.Proofs.Ytplhcfaonhkegaa
