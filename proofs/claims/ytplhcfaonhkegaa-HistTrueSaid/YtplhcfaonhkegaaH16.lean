/-
  Call: one is noted, and there is room.
-/
import Derived.Test.YtplhcfaonhkegaaH15
import Derived.Test.YtplhcfaonhkegaaD
namespace Go.Proofs.Ytplhcfaonhkegaa
open Go.RowKit Go.Maps

theorem wf_i64n {n : Nat} (h : n ≤ 100000) : (Lit.int .i64 (n : Int)).wf = true := by
  exact wf_i64.2 (by omega)

theorem GRow.own_cells {w : World} {e : TypeId} {sz : Nat} {v : Value} {n : Nat} {xs : List Value} (h : GRow w e sz v n xs) : ∀ b, v.ownBlock = some b → ∃ cur, w.heap[b]? = some (.cells cur e (0, 0)) := by
  intro b hb
  rcases h.2 with ⟨rfl, _⟩ | ⟨g, cap, cur, rfl, hg, _⟩
  · simp [Value.ownBlock] at hb
  · simp [Value.ownBlock] at hb; subst hb; exact ⟨cur, hg⟩
theorem GRow.ne {w : World} {e t : TypeId} {sz : Nat} {v : Value} {n : Nat} {xs : List Value} (h : GRow w e sz v n xs) {g : Nat} {cs : Array Value} (hg : w.heap[g]? = some (.cells cs t (0, 0))) (ht : t ≠ e) : v.ownBlock ≠ some g := by
  intro hb
  obtain ⟨cur, e⟩ := h.own_cells g hb
  rw [hg] at e
  cases e
  exact ht rfl

set_option maxRecDepth 100000 in
set_option maxHeartbeats 4000000 in
theorem call_yes {c : Nat → Nat} {k : Nat} (hk0 : k ≠ 0) {w : World} {hb : Nat} {s : MHist} (h : HistAt c k w hb s) (hok : HistOk s) (q : Int) (hid : (Lit.int .i64 q).wf = true) (x : MCall) (va : Option Addr) (vc : Nat)
    (hx : kCall.rd (fun b => c b = 0) w [.int .i64 x.1, .int .u64 x.2.1, .int .u64 x.2.2.1, .slice va x.2.2.2.length vc] x)
    (ho : hOpenAt q s.2 = none) (hcc : mCallOk x = true) (hroom : s.1 < 65536) :
    Calls Try.prog 45 #[.pointer (some ⟨hb, 0, none⟩), .int .i64 q, .agg #[.int .i64 x.1, .int .u64 x.2.1, .int .u64 x.2.2.1, .slice va x.2.2.2.length vc]] w (CallEnd c k w hb (hCall s q x)) := by
  have hcall : hCall s q x = (0, s.1 + 1, s.2 ++ [hNote q x s.1]) := by unfold hCall; rw [ho]; simp only [hcc, if_true]; rw [if_neg (by omega)]
  rw [hcall]
  clear hcall
  obtain ⟨lv, ov, m, n, cs, h1, h2, h3, h4, h5, h6, h7, h8, h9, h10⟩ := id h
  obtain ⟨w0, hw0⟩ : ∃ w0, w.alloc (.cells #[.int .i64 x.1, .int .u64 x.2.1, .int .u64 x.2.2.1, .slice va x.2.2.2.length vc] 39) = w0 := ⟨_, rfl⟩
  have f0 : Fr Non w w0 := by rw [← hw0]; exact (Fr.refl _ _).alloc _
  have g1 := f0.heap h1 id
  have m1 := made_any g1
  have hlk := (h5.keep (f0.block m h5.lt id)).look (t := 93) Try.underlying93 Try.underlying3 Try.underlying3 (by rfl) q hid
  have hf : (hMap s.2 q).isSome = (hOpenAt q s.2).isSome := by unfold hMap; cases hOpenAt q s.2 <;> rfl
  rw [hf, ho] at hlk
  simp only [Option.isSome_none] at hlk
  have b1 : w0.heap[w.heap.size]? = some (.cells #[.int .i64 x.1, .int .u64 x.2.1, .int .u64 x.2.2.1, .slice va x.2.2.2.length vc] 39 (0, 0)) := by rw [← hw0]; exact alloc_at w _
  obtain ⟨C, hC⟩ : ∃ C, w.heap.size = C := ⟨_, rfl⟩
  rw [hC] at b1
  obtain ⟨x0, z0⟩ := box_facts g1
  have c2 : w0.cell? ⟨hb, 2, none⟩ = some (.map (some m)) := by rw [x0]; rfl
  obtain ⟨y0, _⟩ := box_facts b1
  have d0 : w0.cell? ⟨C, 0, none⟩ = some (.int .i64 x.1) := by rw [y0]; rfl
  have d1 : w0.cell? ⟨C, 1, none⟩ = some (.int .u64 x.2.1) := by rw [y0]; rfl
  have d2 : w0.cell? ⟨C, 2, none⟩ = some (.int .u64 x.2.2.1) := by rw [y0]; rfl
  have d3 : w0.cell? ⟨C, 3, none⟩ = some (.slice va x.2.2.2.length vc) := by rw [y0]; rfl
  have HG := Lib.hid g1
  have HB := Lib.hid b1
  have HM := Lib.hid m1
  have HH := Lib.hid h
  have HO := Lib.hid ho
  have HX := Lib.hid hx
  have HOK := Lib.hid hok
  have hlen := hok.len
  have HBL := Lib.hid (show x.2.2.2.length ≤ reachBytes by
    obtain ⟨_, e, _, hB, _⟩ := call_cells hx
    exact hB)
  have HV := Lib.hid (show Sl kByte All w (.slice va x.2.2.2.length vc) x.2.2.2 by
    obtain ⟨_, e, hv, _⟩ := call_cells hx
    simp only [List.cons.injEq, true_and, and_true] at e
    rw [e]; exact hv.all)
  have HL := Lib.hid h2
  have HR := Lib.hid h3
  have HOV := Lib.hid h4
  have HMP := Lib.hid h5
  have hC0 := Lib.hid hC
  have ce : mCall x = 0 := by unfold mCall; rw [if_pos hcc]
  have HCE := Lib.hid ce
  have hI : decide ((65536 : Int) ≤ (s.1 : Int)) = false := by simp; omega
  have HLEN := Lib.hid hlen
  have HROOM := Lib.hid hroom
  clear x0 z0 y0 b1 g1 m1 h h1 h2 h3 h4 h5 hf hok hx ho hcc ce hlen hroom
  go_enter Try.func45, Try.ntmps45
  go_wp2_with fail
  (try rw [hw0])
  refine HM.out.mono ?_
  rintro e w' ⟨rfl, rfl⟩
  go_wp2_with fail
  refine (call_any _ x va vc).mono ?_
  rintro e w1 ⟨rfl, f1⟩
  rw [HCE.out]
  have g2 := f1.heap HG.out id
  have b2 := f1.heap HB.out id
  obtain ⟨x0, z0⟩ := box_facts g2
  have e1 : w1.cell? ⟨hb, 1, none⟩ = some (.int .i64 s.1) := by rw [x0]; rfl
  obtain ⟨y0, z1⟩ := box_facts b2
  have d30 : w1.cell? ⟨C, 3, none⟩ = some (.slice va x.2.2.2.length vc) := by rw [y0]; rfl
  have HG2 := Lib.hid g2
  have HB2 := Lib.hid b2
  clear x0 z0 y0 z1 g2 b2 d0 d1 d2 d3 c2 hlk HM
  go_wp2_with fail
  refine (clone_bytes (HV.out.stay (f0.trans f1)) HBL.out).mono ?_
  rintro e w2 ⟨a2, n2, rfl, hv2, f2⟩
  have g3 := f2.heap HG2.out id
  have b3 := f2.heap HB2.out id
  obtain ⟨y0, z1⟩ := box_facts b3
  have d3 : w2.cell? ⟨C, 3, none⟩ = some (.slice va x.2.2.2.length vc) := by rw [y0]; rfl
  have zd3 := z1 3
  have HG3 := Lib.hid g3
  have HB3 := Lib.hid b3
  have HV2 := Lib.hid hv2
  clear y0 z1 g3 b3 e1 d30 hv2
  go_wp2_with fail
  have BX3 : Hid ((w2.setCell ⟨C, 3, none⟩ (.slice a2 x.2.2.2.length n2)).heap[C]? = some (.cells #[.int .i64 x.1, .int .u64 x.2.1, .int .u64 x.2.2.1, .slice a2 x.2.2.2.length n2] 39 (0, 0))) := Lib.hid (by
    have := heap_setCell_same w2 C 3 _ 39 (.slice a2 x.2.2.2.length n2) HB3.out
    simpa using this)
  have f3 : Fr (fun b => b = C) w2 (w2.setCell ⟨C, 3, none⟩ (.slice a2 x.2.2.2.length n2)) := (Fr.refl (fun b => b = C) w2).setCell (p := ⟨C, 3, none⟩) (.inl rfl) _
  have hbC : hb < C := by rw [← hC0.out]; exact HH.out.lt
  have HG4 := Lib.hid (f3.heap HG3.out (by omega))
  generalize w2.setCell ⟨C, 3, none⟩ (.slice a2 x.2.2.2.length n2) = w3 at BX3 f3 HG4 ⊢
  have f03 : Fr Non w w3 := (f0.trans (f1.trans f2)).trans2 f3 (fun b hb e => by have := hC0.out; omega)
  have HLR := Lib.hid (fun ty w => HL.out.len_run Try.underlying71 ty w)
  have HG4d : Hid (w3.drew.heap[hb]? = some (.cells #[lv, .int .i64 s.1, .map (some m), ov] 95 (0, 0))) := Lib.hid HG4.out
  have BX3d : Hid (w3.drew.heap[C]? = some (.cells #[.int .i64 x.1, .int .u64 x.2.1, .int .u64 x.2.2.1, .slice a2 x.2.2.2.length n2] 39 (0, 0))) := Lib.hid BX3.out
  have f03d := f03.drew
  have f3d := f3.drew
  clear f3 f03 HG4 BX3 d3 zd3
  refine wp_draw [((fun y => y.heap[hb]? = some (.cells #[lv, .int .i64 s.1, .map (some m), ov] 95 (0, 0))), [(.free, 0), (.free, 1), (.free, 2), (.held, 3), (.free, 4), (.free, 5), (.free, 6), (.free, 7), (.held, 8), (.free, 9), (.kept, 10)])] 11 (by kernel_rfl) (by kernel_rfl) (fun _ _ _ _ _ h => h) ⟨HG4d.out, ?_⟩
  generalize w3.drew = wd at HG4d BX3d f03d f3d ⊢
  repeat (first
    | (refine' wpPlan_free (v := _) rfl (by rfl) ?_ ?_
       rotate_left
       · (intro w'; (have hlr := HLR.out); go_simp; try rfl)
       simp only [List.getElem_toArray, List.getElem_cons_zero, List.getElem_cons_succ, Act.put, List.setIfInBounds_toArray, List.set_cons_zero, List.set_cons_succ])
    | (refine' wpPlan_held (v := _) rfl (by rfl) ?_ ?_
       rotate_left
       · (intro w' hS; (have hlr := HLR.out); (obtain ⟨x0, _⟩ := box_facts hS; have e2 : w'.cell? ⟨hb, 2, none⟩ = some (.map (some m)) := (by rw [x0]; rfl); have e0 : w'.cell? ⟨hb, 0, none⟩ = some lv := (by rw [x0]; rfl); clear x0 hS); go_simp; try rfl)
       simp only [List.getElem_toArray, List.getElem_cons_zero, List.getElem_cons_succ, Act.put, List.setIfInBounds_toArray, List.set_cons_zero, List.set_cons_succ])
    | (refine' wpPlan_skip rfl (by rfl) ?_
       simp only [List.getElem_toArray, List.getElem_cons_zero, List.getElem_cons_succ, Act.put, List.setIfInBounds_toArray, List.set_cons_zero, List.set_cons_succ])
    | (refine' wpPlan_skipHeld rfl (by rfl) ?_
       simp only [List.getElem_toArray, List.getElem_cons_zero, List.getElem_cons_succ, Act.put, List.setIfInBounds_toArray, List.set_cons_zero, List.set_cons_succ]))
  have hm_old : m < w.heap.size := HMP.out.lt
  have MPd := (HMP.out.keep (f03d.block m hm_old id))
  have hbm : hb ≠ m := MPd.ne HG4d.out
  obtain ⟨w4, hput, MP4, f4⟩ := MPd.put_run (t := 93) Try.underlying93 Try.underlying3 Try.underlying3 (by unfold maxLen; have := HROOM.out; omega) q hid (s.2.length : Int) (wf_i64n (by have := HROOM.out; have := HLEN.out; omega))
  have HG5 := Lib.hid (f4.heap HG4d.out hbm)
  have hmC : C ≠ m := by have := hC0.out; omega
  have BX5 := Lib.hid (f4.heap BX3d.out hmC)
  have HM4 := Lib.hid MP4
  clear MPd MP4
  refine' wpPlan_kept rfl ?_
  intro K hK
  go_simp
  refine hK _ _ ⟨HG5.out, ?_⟩
  clear hK K hput
  refine wpPlan_end ?_
  simp only [wpSegs, List.drop_succ_cons, List.drop_zero]
  obtain ⟨x0, _⟩ := box_facts HG5.out
  have e3 : w4.cell? ⟨hb, 3, none⟩ = some ov := by rw [x0]; rfl
  clear x0
  have HOV4 := Lib.hid ((HOV.out.keep fun b hb => f03d.block b (HOV.out.lt b hb) id).keep fun b hb => f4.block b (Nat.lt_of_lt_of_le (HOV.out.lt b hb) f03d.size) (by
    rintro rfl
    obtain ⟨cur, e⟩ := GRow.own_cells HOV.out b hb
    exact HMP.out.ne e rfl))
  have HOL := Lib.hid (show (hOpens s.2).length ≤ 65536 from hOpen_len HOK.out)
  go_wp2_with (at_builtin; refine wpList_append_g rfl _ _ eI3 rfl ov (hOpens s.2).length (ints (hOpens s.2)) rfl (HOV4.out.keep fun b hb => ?k1) _ 1 [.int .i64 q] rfl (Src.block (m := 1) (alloc_at w4 _) rfl (by simp [Value.oneCell'])) ?k2 ?k3 ?_)
  case k1 => exact Below.heap_alloc _ _ _ (HOV4.out.lt b hb)
  case k2 => unfold maxLen; have := HOL.out; omega
  case k3 => have := HOL.out; omega
  intro ov' w5 r1 r2 r3
  have hno1 : ov.ownBlock ≠ some hb := HOV4.out.ne HG5.out (by decide)
  have hno2 : ov.ownBlock ≠ some C := HOV4.out.ne BX5.out (by decide)
  have f45 : Fr (fun b => ov.ownBlock = some b) w4 w5 := ((Fr.refl (fun b => ov.ownBlock = some b) w4).alloc _).trans2 r2 (fun _ _ h => h)
  have HG6 := Lib.hid (f45.heap HG5.out hno1)
  have BX6 := Lib.hid (f45.heap BX5.out hno2)
  have R1 := Lib.hid r1
  have R3 := Lib.hid r3
  have F45 := Lib.hid f45
  obtain ⟨oa, oc, rfl⟩ := r1.form
  clear r1 r2 r3 f45 e3
  go_wp2_with (refine wpList_store_block rfl 73 _ _ rfl hb 3 rfl (.slice oa ((hOpens s.2).length + 1) oc) rfl #[lv, .int .i64 s.1, .map (some m), ov] 95 HG6.out ?hfit ?hinf ?hone ?_)
  case hfit => simp [Value.cells]
  case hinf => kernel_rfl
  case hone => intro u hu; simp [Value.cells] at hu; subst hu; rfl
  intro w6 hbx f6
  replace hbx : w6.heap[hb]? = some (.cells #[lv, .int .i64 s.1, .map (some m), .slice oa ((hOpens s.2).length + 1) oc] 95 (0, 0)) := by simpa [putAt, Value.cells] using hbx
  obtain ⟨ov', hov'⟩ : ∃ v, Value.slice oa ((hOpens s.2).length + 1) oc = v := ⟨_, rfl⟩
  rw [hov'] at R1 R3 hbx
  clear hov'
  have HG7d : Hid (w6.drew.heap[hb]? = some (.cells #[lv, .int .i64 s.1, .map (some m), ov'] 95 (0, 0))) := Lib.hid hbx
  have BX7d : Hid (w6.drew.heap[C]? = some (.cells #[.int .i64 x.1, .int .u64 x.2.1, .int .u64 x.2.2.1, .slice a2 x.2.2.2.length n2] 39 (0, 0))) := Lib.hid (f6.heap BX6.out (by omega))
  have F6d := Lib.hid f6.drew
  clear hbx f6
  go_wp2_with fail
  refine wp_draw [((fun y => (∃ z : Int, y.heap[hb]? = some (.cells #[lv, .int .i64 z, .map (some m), ov'] 95 (0, 0))) ∧ y.heap[C]? = some (.cells #[.int .i64 x.1, .int .u64 x.2.1, .int .u64 x.2.2.1, .slice a2 x.2.2.2.length n2] 39 (0, 0))), [(.free, 0), (.free, 1), (.free, 2), (.free, 3), (.held, 4), (.held, 5), (.free, 6), (.kept, 7), (.free, 8), (.kept, 9), (.kept, 10), (.free, 11), (.free, 12)])] 13 (by kernel_rfl) (by kernel_rfl) (fun _ _ _ _ _ h => h) ⟨⟨⟨_, HG7d.out⟩, BX7d.out⟩, ?_⟩
  generalize w6.drew = we at HG7d BX7d F6d ⊢
  repeat (first
    | (refine' wpPlan_free (v := _) rfl (by rfl) ?_ ?_
       rotate_left
       · (intro w'; skip; go_simp; try rfl)
       simp only [List.getElem_toArray, List.getElem_cons_zero, List.getElem_cons_succ, Act.put, List.setIfInBounds_toArray, List.set_cons_zero, List.set_cons_succ])
    | (refine' wpPlan_held (v := _) rfl (by rfl) ?_ ?_
       rotate_left
       · (intro w' hS; skip; (obtain ⟨⟨z, hz⟩, hy⟩ := hS; obtain ⟨x0, _⟩ := box_facts hz; obtain ⟨y0, _⟩ := box_facts hy; have e0 : w'.cell? ⟨hb, 0, none⟩ = some lv := (by rw [x0]; rfl); have d0 : w'.cell? ⟨C, 0, none⟩ = some (.int .i64 x.1) := (by rw [y0]; rfl); have d1 : w'.cell? ⟨C, 1, none⟩ = some (.int .u64 x.2.1) := (by rw [y0]; rfl); have d2 : w'.cell? ⟨C, 2, none⟩ = some (.int .u64 x.2.2.1) := (by rw [y0]; rfl); have d3 : w'.cell? ⟨C, 3, none⟩ = some (.slice a2 x.2.2.2.length n2) := (by rw [y0]; rfl); clear x0 y0 hz hy); go_simp; try rfl)
       simp only [List.getElem_toArray, List.getElem_cons_zero, List.getElem_cons_succ, Act.put, List.setIfInBounds_toArray, List.set_cons_zero, List.set_cons_succ])
    | (refine' wpPlan_skip rfl (by rfl) ?_
       simp only [List.getElem_toArray, List.getElem_cons_zero, List.getElem_cons_succ, Act.put, List.setIfInBounds_toArray, List.set_cons_zero, List.set_cons_succ])
    | (refine' wpPlan_skipHeld rfl (by rfl) ?_
       simp only [List.getElem_toArray, List.getElem_cons_zero, List.getElem_cons_succ, Act.put, List.setIfInBounds_toArray, List.set_cons_zero, List.set_cons_succ]))
  refine' wpPlan_kept rfl ?_
  intro K hK
  go_simp
  refine (placeH_any HG7d.out (by omega) (by have := HROOM.out; omega)).mono ?_
  rintro e w7 ⟨rfl, g7, f7⟩
  go_simp
  have BX8 := Lib.hid (f7.heap BX7d.out (by omega))
  have HG8 := Lib.hid g7
  clear g7
  refine hK _ _ ⟨⟨⟨_, HG8.out⟩, BX8.out⟩, ?_⟩
  clear hK K
  repeat (first
    | (refine' wpPlan_free (v := _) rfl (by rfl) ?_ ?_
       rotate_left
       · (intro w'; skip; go_simp; try rfl)
       simp only [List.getElem_toArray, List.getElem_cons_zero, List.getElem_cons_succ, Act.put, List.setIfInBounds_toArray, List.set_cons_zero, List.set_cons_succ])
    | (refine' wpPlan_held (v := _) rfl (by rfl) ?_ ?_
       rotate_left
       · (intro w' hS; skip; skip; go_simp; try rfl)
       simp only [List.getElem_toArray, List.getElem_cons_zero, List.getElem_cons_succ, Act.put, List.setIfInBounds_toArray, List.set_cons_zero, List.set_cons_succ])
    | (refine' wpPlan_skip rfl (by rfl) ?_
       simp only [List.getElem_toArray, List.getElem_cons_zero, List.getElem_cons_succ, Act.put, List.setIfInBounds_toArray, List.set_cons_zero, List.set_cons_succ])
    | (refine' wpPlan_skipHeld rfl (by rfl) ?_
       simp only [List.getElem_toArray, List.getElem_cons_zero, List.getElem_cons_succ, Act.put, List.setIfInBounds_toArray, List.set_cons_zero, List.set_cons_succ]))
  refine' wpPlan_kept rfl ?_
  intro K hK
  go_simp
  refine hK _ _ ⟨⟨⟨_, by rw [Below.heap_alloc _ _ _ (lt_of_block HG8.out)]; exact HG8.out⟩, by rw [Below.heap_alloc _ _ _ (lt_of_block BX8.out)]; exact BX8.out⟩, ?_⟩
  clear hK K
  have FX : Fr (fun b => b = m ∨ ov.ownBlock = some b ∨ b = hb) wd w7 := (f4.mono fun _ _ h => .inl h).trans ((F45.out.mono fun _ _ h => .inr (.inl h)).trans ((F6d.out.mono fun _ _ h => .inr (.inr h)).trans (f7.mono fun _ _ h => .inr (.inr h))))
  have hlv : ∀ b, lv.ownBlock = some b → ¬ (b = m ∨ ov.ownBlock = some b ∨ b = hb) := by
    intro b hb1 hb2
    obtain ⟨cur, e⟩ := HL.out.own_cells b hb1
    rcases hb2 with rfl | h | rfl
    · exact HMP.out.ne e rfl
    · exact HOV.out.ne e (by decide) h
    · obtain ⟨_, _, _, _, _, h1, _⟩ := HH.out
      rw [h1] at e
      cases e
  have HL7 := Lib.hid (HL.out.keep fun b hb => (FX.block b (Nat.lt_of_lt_of_le (HL.out.lt b hb) f03d.size) (hlv b hb)).trans (f03d.block b (HL.out.lt b hb) id))
  have hcnt : s.2.length ≤ 65536 := by have := HLEN.out; have := HROOM.out; omega
  have HNC : Hid (kCall.rd (fun b => w1.heap.size ≤ b) w2 [.int .i64 x.1, .int .u64 x.2.1, .int .u64 x.2.2.1, .slice a2 x.2.2.2.length n2] x) := Lib.hid (call_put HX.out HV2.out)
  refine' wpPlan_kept rfl ?_
  intro K hK
  refine step_append_g rfl _ _ eI76 rfl lv s.2.length cs rfl (HL7.out.keep fun b hb => ?k4) _ 1 [.int .i64 x.1, .int .u64 x.2.1, .int .u64 x.2.2.1, .slice a2 x.2.2.2.length n2, .int .i64 0, .int .u64 0, .slice none 0 0, .slice none 0 0, .int .i64 0, .int .i64 0, .int .u64 0, .int .i64 0, .int .u64 0, .int .i64 0, .int .i64 0, .int .u64 0, .int .i64 0, .int .u64 0, .bool false, .int .i64 s.1, .int .i64 0, .bool true, .bool false] rfl (Src.block (m := 1) (alloc_at w7 _) rfl ?k5) ?k6 ?k7 ?_
  case k4 => exact Below.heap_alloc _ _ _ (HL7.out.lt b hb)
  case k5 => intro u hu; simp only [List.mem_cons, List.not_mem_nil, or_false] at hu; rcases hu with rfl | rfl | rfl | rfl | rfl | rfl | rfl | rfl | rfl | rfl | rfl | rfl | rfl | rfl | rfl | rfl | rfl | rfl | rfl | rfl | rfl | rfl | rfl <;> rfl
  case k6 => unfold maxLen; omega
  case k7 => omega
  intro lv' w8 t1 t2 t3 _
  have f78 : Fr (fun b => lv.ownBlock = some b) w7 w8 := ((Fr.refl (fun b => lv.ownBlock = some b) w7).alloc _).trans2 t2 (fun _ _ h => h)
  have HG9 := Lib.hid (f78.heap HG8.out (fun h => HL7.out.ne HG8.out (by decide) h))
  have BX9 := Lib.hid (f78.heap BX8.out (fun h => HL7.out.ne BX8.out (by decide) h))
  refine hK _ _ ⟨⟨⟨_, HG9.out⟩, BX9.out⟩, ?_⟩
  clear hK K
  have T1 := Lib.hid t1
  have T3 := Lib.hid t3
  have F78 := Lib.hid f78
  obtain ⟨la, lc, rfl⟩ := t1.form
  clear t1 t2 t3 f78
  repeat (first
    | (refine' wpPlan_free (v := _) rfl (by rfl) ?_ ?_
       rotate_left
       · (intro w'; skip; go_simp; try rfl)
       simp only [List.getElem_toArray, List.getElem_cons_zero, List.getElem_cons_succ, Act.put, List.setIfInBounds_toArray, List.set_cons_zero, List.set_cons_succ])
    | (refine' wpPlan_held (v := _) rfl (by rfl) ?_ ?_
       rotate_left
       · (intro w' hS; skip; skip; go_simp; try rfl)
       simp only [List.getElem_toArray, List.getElem_cons_zero, List.getElem_cons_succ, Act.put, List.setIfInBounds_toArray, List.set_cons_zero, List.set_cons_succ])
    | (refine' wpPlan_skip rfl (by rfl) ?_
       simp only [List.getElem_toArray, List.getElem_cons_zero, List.getElem_cons_succ, Act.put, List.setIfInBounds_toArray, List.set_cons_zero, List.set_cons_succ])
    | (refine' wpPlan_skipHeld rfl (by rfl) ?_
       simp only [List.getElem_toArray, List.getElem_cons_zero, List.getElem_cons_succ, Act.put, List.setIfInBounds_toArray, List.set_cons_zero, List.set_cons_succ]))
  refine wpPlan_end ?_
  simp only [wpSegs, List.drop_succ_cons, List.drop_zero]
  go_wp2_with (refine wpList_store_block rfl 71 _ _ rfl hb 0 rfl (.slice la (s.2.length + 1) lc) rfl #[lv, .int .i64 (s.1 + 1), .map (some m), ov'] 95 HG9.out ?hfit ?hinf ?hone ?_)
  case hfit => simp [Value.cells]
  case hinf => kernel_rfl
  case hone => intro u hu; simp [Value.cells] at hu; subst hu; rfl
  intro w9 hbx f9
  replace hbx : w9.heap[hb]? = some (.cells #[.slice la (s.2.length + 1) lc, .int .i64 ((s.1 + 1 : Nat) : Int), .map (some m), ov'] 95 (0, 0)) := by simpa [putAt, Value.cells] using hbx
  obtain ⟨lv', hlv'⟩ : ∃ v, Value.slice la (s.2.length + 1) lc = v := ⟨_, rfl⟩
  rw [hlv'] at T1 T3 hbx
  clear hlv'
  have HBX := Lib.hid hbx
  have FXH := Lib.hid FX
  have F03 := Lib.hid f03d
  have F7 := Lib.hid f7
  have F9 := Lib.hid f9
  have F3 := Lib.hid f3d
  have F2 := Lib.hid f2
  have F1 := Lib.hid f1
  have F0 := Lib.hid f0
  have F4 := Lib.hid f4
  clear hbx FX f03d f7 f9 f3d f2 f1 f0 f4
  go_wp2_with fail
  go_ret
  obtain ⟨⟨_, _, _, _, _, _, _, _, _, _, _, k1, k2, k3, k4⟩, hoo⟩ : HistAt c k w hb s ∧ True := ⟨HH.out, trivial⟩
  clear k1 k2 k3 k4 hoo
  have hsz := hC0.out
  -- the frames
  have g49 : Fr (fun b => b = hb ∨ lv.ownBlock = some b ∨ ov.ownBlock = some b) w4 w9 :=
    (F45.out.mono fun _ _ h => .inr (.inr h)).trans ((F6d.out.mono fun _ _ h => .inl h).trans ((F7.out.mono fun _ _ h => .inl h).trans ((F78.out.mono fun _ _ h => .inr (.inl h)).trans (F9.out.mono fun _ _ h => .inl h))))
  have hown : ∀ b, (b = hb ∨ lv.ownBlock = some b ∨ ov.ownBlock = some b) → c b = k ∧ b < w.heap.size := by
    rintro b (rfl | h | h)
    · exact ⟨h7, by omega⟩
    · exact ⟨h9 b h, HL.out.lt b h⟩
    · exact ⟨h10 b h, HOV.out.lt b h⟩
  have gd9 : Fr (fun b => c b = k ∧ b < w.heap.size) wd w9 := (F4.out.mono fun b _ h => ⟨by rw [h]; exact h8, by rw [h]; exact HMP.out.lt⟩).trans (g49.mono fun b _ h => hown b h)
  have g29 : Fr (fun b => (c b = k ∧ b < w.heap.size) ∨ b = C) w2 w9 := (F3.out.mono fun _ _ h => .inr h).trans (gd9.mono fun _ _ h => .inl h)
  have FT : Fr (fun b => c b = k ∧ b < w.heap.size) w w9 := (F03.out.mono (fun _ _ h => h.elim)).trans2 gd9 (fun _ _ h => h)
  have sz2 : C < w1.heap.size := by have := F1.out.size; have := lt_of_block HB.out; omega
  have sz5 : w2.heap.size ≤ w4.heap.size := by have := F3.out.size; have := F4.out.size; omega
  have sz8 : w4.heap.size ≤ w7.heap.size := by have := F45.out.size; have := F6d.out.size; have := F7.out.size; omega
  have sz12 := F2.out.size
  -- own blocks
  have ol : ∀ b, lv'.ownBlock = some b → (lv.ownBlock = some b) ∨ w2.heap.size ≤ b := by
    intro b hb1
    rcases T3.out with h | ⟨h, _⟩
    · exact .inl (h ▸ hb1)
    · rw [h] at hb1; cases hb1; right; (try simp); omega
  have oo : ∀ b, ov'.ownBlock = some b → (ov.ownBlock = some b) ∨ w2.heap.size ≤ b := by
    intro b hb1
    rcases R3.out with h | ⟨h, _⟩
    · exact .inl (h ▸ hb1)
    · rw [h] at hb1; cases hb1; right; (try simp); omega
  have T9 := T1.out.keep (w' := w9) fun b hb1 => F9.out.block b (T1.out.lt b hb1) (fun e => by subst e; exact T1.out.ne HG9.out (by decide) hb1)
  have O7 := (R1.out.keep (w' := we) fun b hb1 => F6d.out.block b (R1.out.lt b hb1) (fun e => by subst e; exact R1.out.ne HG6.out (by decide) hb1))
  have O8 := (O7.keep (w' := w7) fun b hb1 => F7.out.block b (O7.lt b hb1) (fun e => by subst e; exact O7.ne HG7d.out (by decide) hb1))
  have O9 := (O8.keep (w' := w8) fun b hb1 => F78.out.block b (O8.lt b hb1) (fun e => by
    obtain ⟨cur, e2⟩ := HL7.out.own_cells b e
    exact O8.ne e2 (by decide) hb1))
  have O10 := (O9.keep (w' := w9) fun b hb1 => F9.out.block b (O9.lt b hb1) (fun e => by subst e; exact O9.ne HG9.out (by decide) hb1))
  have M9 := HM4.out.keep (g49.block m HM4.out.lt (by
    rintro (h | h | h)
    · exact hbm h.symm
    · obtain ⟨cur, e⟩ := HL.out.own_cells m h
      exact HMP.out.ne e rfl
    · obtain ⟨cur, e⟩ := HOV.out.own_cells m h
      exact HMP.out.ne e rfl))
  let c' : Nat → Nat := fun b => if b < w.heap.size then c b else if lv'.ownBlock = some b ∨ ov'.ownBlock = some b then k else 0
  have cold : ∀ b, b < w.heap.size → c' b = c b := fun b hb1 => if_pos hb1
  have knew : ∀ b, (lv'.ownBlock = some b ∨ ov'.ownBlock = some b) → c' b = k := by
    intro b hb1
    by_cases hl : b < w.heap.size
    · rw [cold b hl]
      rcases hb1 with h | h
      · rcases ol b h with h | h
        · exact h9 b h
        · omega
      · rcases oo b h with h | h
        · exact h10 b h
        · omega
    · show (if b < w.heap.size then c b else if lv'.ownBlock = some b ∨ ov'.ownBlock = some b then k else 0) = k
      rw [if_neg hl, if_pos hb1]
  have zold : Row kHap (fun b => c' b = 0) w9 cs (hAll s.2) := HR.out.fr (fun b hb1 hs => FT.block b hb1 (fun h => hk0 (h.1 ▸ hs))) (fun b hb1 hs => by rw [cold b hb1]; exact hs)
  have znew : kCall.rd (fun b => c' b = 0) w9 [.int .i64 x.1, .int .u64 x.2.1, .int .u64 x.2.2.1, .slice a2 x.2.2.2.length n2] x := kCall.fr HNC.out (fun b hb1 hs => g29.block b hb1 (by rintro (h | h) <;> omega)) (fun b hb1 hs => by
    show (if b < w.heap.size then c b else if lv'.ownBlock = some b ∨ ov'.ownBlock = some b then k else 0) = 0
    rw [if_neg (by omega), if_neg]
    rintro (h | h)
    · rcases ol b h with h | h
      · have := HL.out.lt b h; omega
      · omega
    · rcases oo b h with h | h
      · have := HOV.out.lt b h; omega
      · omega)
  have hL2 : (s.2 ++ [hNote q x s.1]).length = s.2.length + 1 := by simp
  have hO2 : hOpens (s.2 ++ [hNote q x s.1]) = hOpens s.2 ++ [q] := by rw [hOpens_append]; rfl
  have hM2 : hMap (s.2 ++ [hNote q x s.1]) = updO (hMap s.2) q (some (s.2.length : Int)) := by rw [hMap_call HO.out]; rfl
  refine ⟨rfl, FT.mono (fun _ _ h => h.1), c', ⟨lv', ov', m, n + 1, _, HBX.out, by rw [hL2]; exact T9, ?_, by rw [hO2]; simpa [ints] using O10, by rw [hM2]; exact M9, by simp; omega, by rw [cold _ (by omega)]; exact h7, by rw [cold _ HMP.out.lt]; exact h8, fun b h => knew b (.inl h), fun b h => knew b (.inr h)⟩, cold⟩
  rw [show hAll (s.2 ++ [hNote q x s.1]) = hAll s.2 ++ [(x, mErr 0, (s.1 : Int), 0, true, false)] by simp [hAll, hNote]]
  exact zold.append (Row.single (hap_note znew (wf_i64n (by have := HROOM.out; omega))))

theorem hcall_at {c : Nat → Nat} {k : Nat} (hk0 : k ≠ 0) {w : World} {hb : Nat} {s : MHist} (h : HistAt c k w hb s) (hok : HistOk s) (q : Int) (hid : (Lit.int .i64 q).wf = true) (x : MCall) (va : Option Addr) (vc : Nat)
    (hx : kCall.rd (fun b => c b = 0) w [.int .i64 x.1, .int .u64 x.2.1, .int .u64 x.2.2.1, .slice va x.2.2.2.length vc] x) :
    Calls Try.prog 45 #[.pointer (some ⟨hb, 0, none⟩), .int .i64 q, .agg #[.int .i64 x.1, .int .u64 x.2.1, .int .u64 x.2.2.1, .slice va x.2.2.2.length vc]] w (CallEnd c k w hb (hCall s q x)) := by
  by_cases hno : ((hOpenAt q s.2).isSome || (!mCallOk x || decide (65536 ≤ s.1))) = true
  · exact call_no h hok q hid x va vc hno
  · simp only [Bool.or_eq_true, Bool.not_eq_true', decide_eq_true_eq, not_or, Bool.not_eq_true, Bool.not_eq_false] at hno
    obtain ⟨h1, h2, h3⟩ := hno
    exact call_yes hk0 h hok q hid x va vc hx (by simpa using h1) h2 (by omega)
end Go.Proofs.Ytplhcfaonhkegaa
