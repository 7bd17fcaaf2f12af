/-
  Reply: that of an open call, and there is room.
-/
import Derived.Test.YtplhcfaonhkegaaH18
import Derived.Deep.DeepCutAuto
namespace Go.Proofs.Ytplhcfaonhkegaa
open Go.RowKit Go.Maps

theorem size3 : (Try.prog.info? 3).map (·.size) = some 1 := by kernel_rfl
theorem size4 : (Try.prog.info? 4).map (·.size) = some 1 := by kernel_rfl
theorem size52 : (Try.prog.info? 52).map (·.size) = some 15 := by kernel_rfl
theorem RepLoad {C : Nat} {rcs : List Value} (hl : rcs.length = 15) {y : World} (h : y.heap[C]? = some (.cells rcs.toArray 52 (0, 0))) :
    (do pure (Next.value (← Instr.loadAt 52 (.pointer (some ⟨C, 0, none⟩)))) : Sem Next).run Try.prog y = .ok (.value (.agg rcs.toArray)) y := by
  have := run_loadAt_list (P := Try.prog) (w := y) (t := 52) (b := C) (o := 0) rcs _ Try.underlying52 rfl (by rw [hl]; exact size52) (fun j v hv => by rw [cell_of_row y C _ _ _ _ h, Nat.zero_add]; simpa using hv)
  simp only [Sem.run_bind, this, Result.andThen_ok]
  rfl
/-- The history's row, with one of it put anew. -/
def CutRep (wd : World) (C g hb m : Nat) (lv ov : Value) (n : Nat) (A E B : List Value) (q : Int) (rcs : List Value) (wx : World) : Prop :=
  wx.heap[g]? = some (.cells (A ++ (E ++ B)).toArray 76 (0, 0)) ∧ wx.heap[hb]? = some (.cells #[lv, .int .i64 ((n : Int) + 1), .map (some m), ov] 95 (0, 0)) ∧
  wx.heap[C]? = some (.cells #[.int .i64 q] 3 (0, 0)) ∧ wx.heap[C + 1]? = some (.cells rcs.toArray 52 (0, 0)) ∧ Fr (fun b => b = g ∨ b = hb) wd wx
/-- A store into it. -/
theorem CutRep.put {wd : World} {C g hb m : Nat} {lv ov : Value} {n : Nat} {A E E' B : List Value} {q : Int} {rcs : List Value} {w w' : World} (h : CutRep wd C g hb m lv ov n A E B q rcs w) (f : Fr (fun b => b = g) w w')
    (hg : w'.heap[g]? = some (.cells (A ++ (E' ++ B)).toArray 76 (0, 0))) (h1 : g ≠ hb) (h2 : g ≠ C) (h3 : g ≠ C + 1) : CutRep wd C g hb m lv ov n A E' B q rcs w' := by
  obtain ⟨_, a2, a3, a4, a5⟩ := h
  exact ⟨hg, f.heap a2 h1.symm, f.heap a3 h2.symm, f.heap a4 h3.symm, a5.trans (f.mono fun _ _ h => .inl h)⟩
theorem CutRep.facts {wd : World} {C g hb m : Nat} {lv ov : Value} {n : Nat} {A cc B : List Value} {x y : Int} {o f : Bool} {q : Int} {rcs : List Value} {w : World} (h : CutRep wd C g hb m lv ov n A (hapE cc rcs x y o f) B q rcs w)
    {i : Nat} (hA : A.length = i) (hcc : cc.length = 4) (hr : rcs.length = 15) {e kd : Int} (he : rcs[0]? = some (.int .i64 e)) (hk : cc[0]? = some (.int .i64 kd)) :
    w.cell? ⟨C + 1, 0, none⟩ = some (.int .i64 e) ∧ w.cell? ⟨g, i, none⟩ = some (.int .i64 kd) ∧ w.cell? ⟨g, i + 22, none⟩ = some (.bool f) := by
  obtain ⟨a1, _, _, a4, _⟩ := h
  refine ⟨by rw [cell_of_row _ (C + 1) _ _ _ _ a4]; simpa using he, ?_, ?_⟩
  · rw [cell_of_row _ g _ _ _ _ a1]
    refine mid_at (j := 0) hA ?_
    unfold hapE
    rw [List.getElem?_append_left (by omega), hk]
  · rw [cell_of_row _ g _ _ _ _ a1]
    exact mid_at hA (hapE_at22 hcc hr)
def hFree1 (e : Int) : Bool := !(e == 0) && !(e == 121)

set_option maxRecDepth 100000 in
set_option maxHeartbeats 4000000 in
theorem reply_yes {c : Nat → Nat} {k : Nat} (hk0 : k ≠ 0) {w : World} {hb : Nat} {s : MHist} (h : HistAt c k w hb s) (hok : HistOk s) (q : Int) (hid : (Lit.int .i64 q).wf = true) (r : MRes) (rcs : List Value)
    (hr : kRes.rd (fun b => c b = 0) w rcs r) {i : Nat} (hi : hOpenAt q s.2 = some i) (hroom : s.1 < 65536) :
    Calls Try.prog 46 #[.pointer (some ⟨hb, 0, none⟩), .int .i64 q, .agg rcs.toArray] w (CallEnd c k w hb (hReply s q r)) := by
  have hcall : hReply s q r = (0, s.1 + 1, s.2.modify i fun x => hReplied x r s.1) := by unfold hReply; rw [hi]; simp only; rw [if_neg (by omega)]
  rw [hcall]
  clear hcall
  obtain ⟨lv, ov, m, n, cs, h1, h2, h3, h4, h5, h6, h7, h8, h9, h10⟩ := id h
  have hil : i < s.2.length := by
    obtain ⟨A0, x0, B0, hs2, hAi, _⟩ := hReply_parts hok hi r s.1
    rw [hs2]; simp; omega
  have hila : i < (hAll s.2).length := by simpa [hAll] using hil
  obtain ⟨A, E0, B1, hcs, hA, hE⟩ := h3.at i hila
  obtain ⟨cc, rs, hE0, hcc, hrs, hc0, hcr, hfr⟩ := hap_parts hE
  rcases id h2.2 with ⟨rfl, h0⟩ | ⟨g, cap, cur, rfl, hg, g1, g2, g3, g4⟩
  · omega
  have hbnd : (hAll s.2).length ≤ s.2.length := by simp [hAll]
  have hcslen := h2.1
  obtain ⟨rest, hrest⟩ : ∃ rest, cur.toList = cs ++ rest := ⟨_, by rw [← g4]; exact (List.take_append_drop _ _).symm⟩
  obtain ⟨B, hB⟩ : ∃ B, B1 ++ rest = B := ⟨_, rfl⟩
  have hcur : cur.toList = A ++ (E0 ++ B) := by rw [hrest, hcs, ← hB]; simp
  have hcur2 : cur = (A ++ (E0 ++ B)).toArray := by rw [← hcur]
  obtain ⟨X, hX⟩ : ∃ X, (hAll s.2)[i] = X := ⟨_, rfl⟩
  rw [hX] at hE0 hc0 hcr hfr
  subst hE0
  have hB1 : ∃ rest, B = B1 ++ rest := ⟨rest, hB.symm⟩
  obtain ⟨w0, hw0⟩ : ∃ w0, (w.alloc (.cells #[.int .i64 q] 3)).alloc (.cells rcs.toArray 52) = w0 := ⟨_, rfl⟩
  have f0 : Fr Non w w0 := by rw [← hw0]; exact ((Fr.refl _ _).alloc _).alloc _
  have q1 := f0.heap h1 id
  have m1 := made_any q1
  obtain ⟨C, hC⟩ : ∃ C, w.heap.size = C := ⟨_, rfl⟩
  have b1 : w0.heap[C]? = some (.cells #[.int .i64 q] 3 (0, 0)) := by rw [← hw0, ← hC]; exact alloc_at2 w _ _
  have b2 : w0.heap[C + 1]? = some (.cells rcs.toArray 52 (0, 0)) := by rw [← hw0, ← hC]; exact alloc_at2' w _ _
  have rlen : rcs.length = 15 := kRes.len hr
  have rone := kRes.one hr
  have re : rcs[0]? = some (.int .i64 r.1) := by obtain ⟨_, _, rfl, _⟩ := res_cells hr; rfl
  have HG := Lib.hid q1
  have HB := Lib.hid b1
  have HC := Lib.hid b2
  have HM := Lib.hid m1
  have HH := Lib.hid h
  have HOK := Lib.hid hok
  have HLEN := Lib.hid hok.len
  have HL := Lib.hid h2
  have HR := Lib.hid h3
  have HOV := Lib.hid h4
  have HMP := Lib.hid h5
  have HQ := Lib.hid hid
  have HI := Lib.hid hi
  have HX := Lib.hid hX
  have HRD := Lib.hid hr
  have HGC := Lib.hid hg
  have HCS := Lib.hid hcs
  have HA := Lib.hid hA
  have HCC := Lib.hid hcc
  have HRS := Lib.hid hrs
  have HC0 := Lib.hid hc0
  have HCR := Lib.hid hcr
  have HFR := Lib.hid hfr
  have HCU := Lib.hid hcur2
  have HB1 := Lib.hid hB1
  have HRL := Lib.hid rlen
  have HRO := Lib.hid rone
  have HRE := Lib.hid re
  have HSZ := Lib.hid hC
  have HROOM := Lib.hid hroom
  have HG4 := Lib.hid g4
  have HG3 := Lib.hid g3
  have HH9 := Lib.hid h9
  have HH10 := Lib.hid h10
  have i0 : (0 : Int) ≤ (i : Int) := by omega
  have i1 : (i : Int) < (s.2.length : Int) := by omega
  have hI : decide ((65536 : Int) ≤ (s.1 : Int)) = false := by simp; omega
  unfold maxLen at g2
  clear q1 b1 b2 m1 h h1 h2 h3 h4 h5 hok hid hi hr hE hcs hA hcc hrs hc0 hcr hfr hcur hcur2 hB1 rlen rone re hC hroom g3 g4 hX hg h9 h10 hcslen hil hrest hB
  go_enter Try.func46, Try.ntmps46
  go_wp2_with fail
  (try rw [hw0])
  refine HM.out.mono ?_
  rintro e w' ⟨rfl, rfl⟩
  clear HM
  have HGd : Hid (w0.drew.heap[hb]? = some (.cells #[.slice (some ⟨g, 0, none⟩) s.2.length cap, .int .i64 s.1, .map (some m), ov] 95 (0, 0))) := Lib.hid HG.out
  have HBd : Hid (w0.drew.heap[C]? = some (.cells #[.int .i64 q] 3 (0, 0))) := Lib.hid HB.out
  have HCd : Hid (w0.drew.heap[C + 1]? = some (.cells rcs.toArray 52 (0, 0))) := Lib.hid HC.out
  have HMd : Hid (MapO Try.prog 3 3 w0.drew m n (hMap s.2)) := Lib.hid (HMP.out.keep (f0.block m HMP.out.lt id))
  have f0d := f0.drew
  clear HG HB HC f0
  go_wp2_with fail
  clear hw0
  refine wp_draw [((fun y => Fr Non w0.drew y), [(.free, 0), (.free, 1), (.free, 2), (.held, 3), (.held, 4), (.held, 5), (.free, 6), (.free, 7), (.free, 8), (.free, 9), (.free, 10)])] 11 (by kernel_rfl) (by kernel_rfl) (fun _ _ _ _ _ h => h) ⟨(Fr.refl _ _), ?_⟩
  generalize w0.drew = wd at HGd HBd HCd HMd f0d ⊢
  have hlk : Hid (∀ y, Fr Non wd y → (Instr.lookup 93 (.map (some m)) (.int .i64 q) true).run Try.prog y = .ok (.tuple #[.int .i64 i, .bool true]) y) := Lib.hid (fun y g => by
    have := (HMd.out.keep (g.block m HMd.out.lt id)).look (t := 93) Try.underlying93 Try.underlying3 Try.underlying3 (by rfl) q HQ.out
    unfold hMap at this
    rw [HI.out] at this
    exact this)
  have HC' : w.heap.size = C := HSZ.out
  repeat (first
    | (refine' wpPlan_free (v := _) rfl (by rfl) ?_ ?_
       rotate_left
       · (intro w'; skip; go_simp; try rfl)
       simp only [List.getElem_toArray, List.getElem_cons_zero, List.getElem_cons_succ, Act.put, List.setIfInBounds_toArray, List.set_cons_zero, List.set_cons_succ])
    | (refine' wpPlan_held (v := _) rfl (by rfl) ?_ ?_
       rotate_left
       · (intro w' hS; skip; (obtain ⟨x0, _⟩ := box_facts (hS.heap HGd.out id); obtain ⟨y0, _⟩ := box_facts (hS.heap HBd.out id); have e2 : w'.cell? ⟨hb, 2, none⟩ = some (.map (some m)) := (by rw [x0]; rfl); have d0 : w'.cell? ⟨C, 0, none⟩ = some (.int .i64 q) := (by rw [y0]; rfl); have hl := hlk.out w' hS; clear x0 y0 hS); go_simp; try rfl)
       simp only [List.getElem_toArray, List.getElem_cons_zero, List.getElem_cons_succ, Act.put, List.setIfInBounds_toArray, List.set_cons_zero, List.set_cons_succ])
    | (refine' wpPlan_skip rfl (by rfl) ?_
       simp only [List.getElem_toArray, List.getElem_cons_zero, List.getElem_cons_succ, Act.put, List.setIfInBounds_toArray, List.set_cons_zero, List.set_cons_succ])
    | (refine' wpPlan_skipHeld rfl (by rfl) ?_
       simp only [List.getElem_toArray, List.getElem_cons_zero, List.getElem_cons_succ, Act.put, List.setIfInBounds_toArray, List.set_cons_zero, List.set_cons_succ]))
  refine wpPlan_end ?_
  simp only [wpSegs, List.drop_succ_cons, List.drop_zero]
  obtain ⟨x0, z0⟩ := box_facts HGd.out
  have e1 : wd.cell? ⟨hb, 1, none⟩ = some (.int .i64 s.1) := by rw [x0]; rfl
  have e0 : wd.cell? ⟨hb, 0, none⟩ = some (.slice (some ⟨g, 0, none⟩) s.2.length cap) := by rw [x0]; rfl
  clear x0 z0 hlk
  go_wp2_with fail
  rw [HC']
  clear HC'
  have hno1 : g ≠ hb := by
    rintro rfl
    have := f0d.heap HGC.out id
    rw [HGd.out] at this
    cases this
  have hno2 : g ≠ C := by have := lt_of_block HGC.out; have := HSZ.out; omega
  have hno3 : g ≠ C + 1 := by have := lt_of_block HGC.out; have := HSZ.out; omega
  have hno4 : hb ≠ C := by have := HH.out.lt; have := HSZ.out; omega
  have hno5 : hb ≠ C + 1 := by have := HH.out.lt; have := HSZ.out; omega
  have HGCd : Hid (wd.heap[g]? = some (.cells (A ++ (hapE cc rs X.2.2.1 X.2.2.2.1 X.2.2.2.2.1 X.2.2.2.2.2 ++ B)).toArray 76 (0, 0))) := Lib.hid (by rw [← HCU.out]; exact f0d.heap HGC.out id)
  clear e0 e1
  have HAL : Hid (A.length = i * 23) := HA
  have HEL : Hid (∀ a b o f, 22 + [Value.bool true].length ≤ (hapE cc rcs a b o f).length) := Lib.hid (fun a b o f => by rw [hapE_len HCC.out HRL.out]; simp)
  have HL1 : Hid (4 + rcs.length ≤ (hapE cc rs X.2.2.1 X.2.2.2.1 X.2.2.2.2.1 X.2.2.2.2.2).length) := Lib.hid (by rw [hapE_len HCC.out HRS.out, HRL.out]; omega)
  have HL2 : Hid (∀ a b o f, 20 + [Value.int .i64 0].length ≤ (hapE cc rcs a b o f).length) := Lib.hid (fun a b o f => by rw [hapE_len HCC.out HRL.out]; simp)
  have HL3 : Hid (∀ a b o f, 21 + [Value.bool false].length ≤ (hapE cc rcs a b o f).length) := Lib.hid (fun a b o f => by rw [hapE_len HCC.out HRL.out]; simp)
  have HS52 : Hid ((Try.prog.info? 52).map (·.size) = some rcs.length) := Lib.hid (by rw [HRL.out]; exact size52)
  obtain ⟨e, he⟩ : ∃ e, r.1 = e := ⟨_, rfl⟩
  obtain ⟨kd, hkd⟩ : ∃ kd, X.1.1 = kd := ⟨_, rfl⟩
  have HE1 := Lib.hid he
  have HKD := Lib.hid hkd
  rw [he] at HRE
  rw [hkd] at HC0
  clear he hkd
  go_upto_region 9 with (fail)
  go_cut [9] (fun v wx => v = .pointer (some ⟨g, i * 23, none⟩) ∧ Hid (CutRep wd C g hb m (.slice (some ⟨g, 0, none⟩) s.2.length cap) ov s.1 A (hapE cc rcs X.2.2.1 s.1 false X.2.2.2.2.2) B q rcs wx))
  case first =>
    have LD : Hid (∀ y : World, y.heap[C + 1]? = some (.cells rcs.toArray 52 (0, 0)) → (do pure (Next.value (← Instr.loadAt 52 (.pointer (some ⟨C + 1, 0, none⟩)))) : Sem Next).run Try.prog y = .ok (.value (.agg rcs.toArray)) y) := Lib.hid (fun y hy => RepLoad HRL.out hy)
    have HGe : Hid (wd.drew.heap[hb]? = some (.cells #[.slice (some ⟨g, 0, none⟩) s.2.length cap, .int .i64 s.1, .map (some m), ov] 95 (0, 0))) := Lib.hid HGd.out
    have HBe : Hid (wd.drew.heap[C]? = some (.cells #[.int .i64 q] 3 (0, 0))) := Lib.hid HBd.out
    have HCe : Hid (wd.drew.heap[C + 1]? = some (.cells rcs.toArray 52 (0, 0))) := Lib.hid HCd.out
    have HGCe : Hid (wd.drew.heap[g]? = some (.cells (A ++ (hapE cc rs X.2.2.1 X.2.2.2.1 X.2.2.2.2.1 X.2.2.2.2.2 ++ B)).toArray 76 (0, 0))) := Lib.hid HGCd.out
    have fe : Fr (fun b => b = g ∨ b = hb) wd wd.drew := (Fr.refl _ _).drew
    go_wp2_with fail
    refine wp_draw [((fun y => y.heap[C + 1]? = some (.cells rcs.toArray 52 (0, 0))), [(.free, 0), (.free, 1), (.free, 2), (.held, 3), (.free, 4), (.kept, 5), (.free, 6), (.free, 7)])] 8 (by kernel_rfl) (by kernel_rfl) (fun _ _ _ _ _ h => h) ⟨HCe.out, ?_⟩
    generalize wd.drew = we at HGe HBe HCe HGCe fe ⊢
    repeat (first
      | (refine' wpPlan_free (v := _) rfl (by rfl) ?_ ?_
         rotate_left
         · (intro w'; skip; go_simp; try rfl)
         simp only [List.getElem_toArray, List.getElem_cons_zero, List.getElem_cons_succ, Act.put, List.setIfInBounds_toArray, List.set_cons_zero, List.set_cons_succ])
      | (refine' wpPlan_held (v := _) rfl (by rfl) (fun w' hS => LD.out w' hS) ?_
         simp only [List.getElem_toArray, List.getElem_cons_zero, List.getElem_cons_succ, Act.put, List.setIfInBounds_toArray, List.set_cons_zero, List.set_cons_succ])
      | (refine' wpPlan_held (v := _) rfl (by rfl) ?_ ?_
         rotate_left
         · (intro w' hS; skip; skip; go_simp; try rfl)
         simp only [List.getElem_toArray, List.getElem_cons_zero, List.getElem_cons_succ, Act.put, List.setIfInBounds_toArray, List.set_cons_zero, List.set_cons_succ])
      | (refine' wpPlan_skip rfl (by rfl) ?_
         simp only [List.getElem_toArray, List.getElem_cons_zero, List.getElem_cons_succ, Act.put, List.setIfInBounds_toArray, List.set_cons_zero, List.set_cons_succ])
      | (refine' wpPlan_skipHeld rfl (by rfl) ?_
         simp only [List.getElem_toArray, List.getElem_cons_zero, List.getElem_cons_succ, Act.put, List.setIfInBounds_toArray, List.set_cons_zero, List.set_cons_succ]))
    refine' wpPlan_kept rfl ?_
    intro K hK
    go_simp
    refine (placeH_any HGe.out (by omega) (by have := HROOM.out; omega)).mono ?_
    rintro e w1 ⟨rfl, p1, f1⟩
    go_simp
    have P1 := Lib.hid p1
    have B2 := Lib.hid (f1.heap HBe.out hno4.symm)
    have C2 := Lib.hid (f1.heap HCe.out hno5.symm)
    have G2 := Lib.hid (f1.heap HGCe.out hno1)
    clear p1
    refine hK _ _ ⟨C2.out, ?_⟩
    clear hK K
    repeat (first
      | (refine' wpPlan_free (v := _) rfl (by rfl) ?_ ?_
         rotate_left
         · (intro w'; skip; go_simp; try rfl)
         simp only [List.getElem_toArray, List.getElem_cons_zero, List.getElem_cons_succ, Act.put, List.setIfInBounds_toArray, List.set_cons_zero, List.set_cons_succ])
      | (refine' wpPlan_held (v := _) rfl (by rfl) ?_ ?_
         rotate_left
         · (intro w' hS; skip; skip; go_simp; try rfl)
         simp only [List.getElem_toArray, List.getElem_cons_zero, List.getElem_cons_succ, Act.put, List.setIfInBounds_toArray, List.set_cons_zero, List.set_cons_succ])
      | (refine' wpPlan_skip rfl (by rfl) ?_
         simp only [List.getElem_toArray, List.getElem_cons_zero, List.getElem_cons_succ, Act.put, List.setIfInBounds_toArray, List.set_cons_zero, List.set_cons_succ])
      | (refine' wpPlan_skipHeld rfl (by rfl) ?_
         simp only [List.getElem_toArray, List.getElem_cons_zero, List.getElem_cons_succ, Act.put, List.setIfInBounds_toArray, List.set_cons_zero, List.set_cons_succ]))
    refine wpPlan_end ?_
    simp only [wpSegs, List.drop_succ_cons, List.drop_zero]
    go_wp2_with (refine wpList_store_mid rfl 52 _ _ rfl g (i * 23) 4 rfl (.agg rcs.toArray) rfl A _ B 76 G2.out HAL.out rcs rfl HL1.out HS52.out HRO.out _ (hapE_res HCC.out HRS.out HRL.out) ?_)
    intro w2 q1 v1
    have G3 := Lib.hid q1
    clear q1
    go_wp2_with (refine wpList_store_mid rfl 3 _ _ rfl g (i * 23) 20 rfl (.int .i64 s.1) rfl A _ B 76 G3.out HAL.out [.int .i64 s.1] rfl (HL2.out _ _ _ _) size3 (by simp [Value.oneCell']) _ (hapE_to HCC.out HRL.out) ?_)
    intro w3 q2 v2
    have G4 := Lib.hid q2
    clear q2
    go_wp2_with (refine wpList_store_mid rfl 4 _ _ rfl g (i * 23) 21 rfl (.bool false) rfl A _ B 76 G4.out HAL.out [.bool false] rfl (HL3.out _ _ _ _) size4 (by simp [Value.oneCell']) _ (hapE_open HCC.out HRL.out) ?_)
    intro w4 q3 v3
    have v13 := (v1.trans v2).trans v3
    have GZ := Lib.hid (show CutRep wd C g hb m (.slice (some ⟨g, 0, none⟩) s.2.length cap) ov s.1 A (hapE cc rcs X.2.2.1 s.1 false X.2.2.2.2.2) B q rcs w4 from ⟨q3, v13.heap P1.out hno1.symm, v13.heap B2.out hno2.symm, v13.heap C2.out hno3.symm, fe.trans ((f1.mono fun _ _ h => .inr h).trans (v13.mono fun _ _ h => .inl h))⟩)
    clear v1 v2 v3 v13 q3 f1 fe
    go_wp2_with fail
    go_meet
    exact ⟨rfl, GZ⟩
  case rest =>
  obtain ⟨rfl, HR1⟩ := hcut
  obtain ⟨y0, x0, _⟩ := HR1.out.facts HAL.out HCC.out HRL.out HRE.out HC0.out
  go_upto_region 10 with (fail)
  go_cut [9] (fun v wx => v = .pointer (some ⟨g, i * 23, none⟩) ∧ Hid (CutRep wd C g hb m (.slice (some ⟨g, 0, none⟩) s.2.length cap) ov s.1 A (hapE cc rcs X.2.2.1 s.1 false (hFree1 e)) B q rcs wx))
  case first =>
    by_cases a1 : e = 0
    · subst a1
      go_wp2_with (refine wpList_store_mid rfl 4 _ _ rfl g (i * 23) 22 rfl (.bool false) rfl A _ B 76 HR1.out.1 HAL.out [.bool false] rfl (HEL.out _ _ _ _) size4 (by simp [Value.oneCell']) _ (hapE_free HCC.out HRL.out) ?_)
      intro wz qz vz
      have GZ := Lib.hid (HR1.out.put vz qz hno1 hno2 hno3)
      clear qz vz
      go_wp2_with fail
      go_meet
      exact ⟨rfl, Lib.hid (by show CutRep wd C g hb m (.slice (some ⟨g, 0, none⟩) s.2.length cap) ov s.1 A (hapE cc rcs X.2.2.1 s.1 false false) B q rcs _; exact GZ.out)⟩
    by_cases a2 : e = 121
    · subst a2
      go_wp2_with (refine wpList_store_mid rfl 4 _ _ rfl g (i * 23) 22 rfl (.bool false) rfl A _ B 76 HR1.out.1 HAL.out [.bool false] rfl (HEL.out _ _ _ _) size4 (by simp [Value.oneCell']) _ (hapE_free HCC.out HRL.out) ?_)
      intro wz qz vz
      have GZ := Lib.hid (HR1.out.put vz qz hno1 hno2 hno3)
      clear qz vz
      go_wp2_with fail
      go_meet
      exact ⟨rfl, Lib.hid (by show CutRep wd C g hb m (.slice (some ⟨g, 0, none⟩) s.2.length cap) ov s.1 A (hapE cc rcs X.2.2.1 s.1 false false) B q rcs _; exact GZ.out)⟩
    have z1 : (e == 0) = false := by simpa using a1
    have z1' : (e != 0) = true := by simpa using a1
    have z2 : (e == 121) = false := by simpa using a2
    have z2' : (e != 121) = true := by simpa using a2
    clear a1 a2
    go_wp2_with (refine wpList_store_mid rfl 4 _ _ rfl g (i * 23) 22 rfl (.bool true) rfl A _ B 76 HR1.out.1 HAL.out [.bool true] rfl (HEL.out _ _ _ _) size4 (by simp [Value.oneCell']) _ (hapE_free HCC.out HRL.out) ?_)
    intro wz qz vz
    have GZ := Lib.hid (HR1.out.put vz qz hno1 hno2 hno3)
    clear qz vz
    go_wp2_with fail
    go_meet
    exact ⟨rfl, Lib.hid (by rw [show hFree1 e = true by unfold hFree1; rw [z1, z2]; rfl]; exact GZ.out)⟩
  case rest =>
  obtain ⟨rfl, HR2⟩ := hcut
  clear y0 x0
  obtain ⟨y0, x0, d0⟩ := HR2.out.facts HAL.out HCC.out HRL.out HRE.out HC0.out
  obtain ⟨b, hfb⟩ : ∃ b, hFree1 e = b := ⟨_, rfl⟩
  rw [hfb] at d0 HR2
  have HBB := Lib.hid hfb
  clear hfb
  have a12 : Hid (b = true → e ≠ 0 ∧ e ≠ 121) := Lib.hid (by
    intro hb
    have := HBB.out
    rw [hb] at this
    simpa [hFree1] using this)
  have a13 : Hid (b = false → hFree kd e = false) := Lib.hid (by
    intro hb
    have := HBB.out
    rw [hb] at this
    unfold hFree1 at this
    unfold hFree
    by_cases h1 : e = 0
    · simp [h1]
    · by_cases h2 : e = 121
      · simp [h2]
      · simp [h1, h2] at this)
  go_upto_if 61 with (fail)
  go_cut [9] (fun v wx => Hid (CutRep wd C g hb m (.slice (some ⟨g, 0, none⟩) s.2.length cap) ov s.1 A (hapE cc rcs X.2.2.1 s.1 false (hFree kd e)) B q rcs wx))
  case first =>
    cases b with
    | false =>
      have a14 := Lib.hid (a13.out rfl)
      go_wp2_with fail
      go_meet
      exact Lib.hid (by rw [a14.out]; exact HR2.out)
    | true =>
      obtain ⟨n1, n2⟩ := a12.out rfl
      have N1 := Lib.hid n1
      have N2 := Lib.hid n2
      clear n1 n2
      by_cases a3 : kd = 1
      · subst a3
        by_cases a4 : e = 100
        · subst a4
          go_wp2_with (refine wpList_store_mid rfl 4 _ _ rfl g (i * 23) 22 rfl (.bool false) rfl A _ B 76 HR2.out.1 HAL.out [.bool false] rfl (HEL.out _ _ _ _) size4 (by simp [Value.oneCell']) _ (hapE_free HCC.out HRL.out) ?_)
          intro wz qz vz
          have GZ := Lib.hid (HR2.out.put vz qz hno1 hno2 hno3)
          clear qz vz
          go_wp2_with fail
          go_meet
          exact Lib.hid (by rw [show hFree 1 100 = false by simp [hFree]]; exact GZ.out)
        · have z4 : (e == 100) = false := by simpa using a4
          have z4' : (e != 100) = true := by simpa using a4
          have A4 := Lib.hid a4
          clear a4
          go_wp2_with (refine wpList_store_mid rfl 4 _ _ rfl g (i * 23) 22 rfl (.bool true) rfl A _ B 76 HR2.out.1 HAL.out [.bool true] rfl (HEL.out _ _ _ _) size4 (by simp [Value.oneCell']) _ (hapE_free HCC.out HRL.out) ?_)
          intro wz qz vz
          have GZ := Lib.hid (HR2.out.put vz qz hno1 hno2 hno3)
          clear qz vz
          go_wp2_with fail
          go_meet
          exact Lib.hid (by rw [show hFree 1 e = true by simp [hFree, N1.out, N2.out, A4.out]]; exact GZ.out)
      have z3 : (kd == 1) = false := by simpa using a3
      have A3 := Lib.hid a3
      clear a3
      by_cases a5 : kd = 2
      · subst a5
        by_cases a6 : e = 101
        · subst a6
          go_wp2_with (refine wpList_store_mid rfl 4 _ _ rfl g (i * 23) 22 rfl (.bool false) rfl A _ B 76 HR2.out.1 HAL.out [.bool false] rfl (HEL.out _ _ _ _) size4 (by simp [Value.oneCell']) _ (hapE_free HCC.out HRL.out) ?_)
          intro wz qz vz
          have GZ := Lib.hid (HR2.out.put vz qz hno1 hno2 hno3)
          clear qz vz
          go_wp2_with fail
          go_meet
          exact Lib.hid (by rw [show hFree 2 101 = false by simp [hFree]]; exact GZ.out)
        · have z4 : (e == 101) = false := by simpa using a6
          have z4' : (e != 101) = true := by simpa using a6
          have A6 := Lib.hid a6
          clear a6
          go_wp2_with (refine wpList_store_mid rfl 4 _ _ rfl g (i * 23) 22 rfl (.bool true) rfl A _ B 76 HR2.out.1 HAL.out [.bool true] rfl (HEL.out _ _ _ _) size4 (by simp [Value.oneCell']) _ (hapE_free HCC.out HRL.out) ?_)
          intro wz qz vz
          have GZ := Lib.hid (HR2.out.put vz qz hno1 hno2 hno3)
          clear qz vz
          go_wp2_with fail
          go_meet
          exact Lib.hid (by rw [show hFree 2 e = true by simp [hFree, N1.out, N2.out, A6.out]]; exact GZ.out)
      · have z5 : (kd == 2) = false := by simpa using a5
        have A5 := Lib.hid a5
        clear a5
        go_wp2_with (refine wpList_store_mid rfl 4 _ _ rfl g (i * 23) 22 rfl (.bool false) rfl A _ B 76 HR2.out.1 HAL.out [.bool false] rfl (HEL.out _ _ _ _) size4 (by simp [Value.oneCell']) _ (hapE_free HCC.out HRL.out) ?_)
        intro wz qz vz
        have GZ := Lib.hid (HR2.out.put vz qz hno1 hno2 hno3)
        clear qz vz
        go_wp2_with fail
        go_meet
        exact Lib.hid (by rw [show hFree kd e = false by simp [hFree, N1.out, N2.out, A3.out, A5.out]]; exact GZ.out)
  case rest =>
  clear d0 y0 x0 a12 a13 HBB HR2 HR1
  have HR3 := hcut
  clear hcut
  have hm1 : hb ≠ m := HMd.out.ne HGd.out
  have hm2 : g ≠ m := HMd.out.ne HGCd.out
  have hm3 : C ≠ m := HMd.out.ne HBd.out
  have MC := HMd.out.keep (HR3.out.2.2.2.2.block m HMd.out.lt (by rintro (h | h) <;> omega))
  obtain ⟨w5, hdel, M5, f5⟩ := MapO.del_run (w := wc.drew) (t := 93) (MC : MapO Try.prog 3 3 wc.drew m n (hMap s.2)) Try.underlying93 Try.underlying3 q HQ.out 0
  have P5 := Lib.hid (f5.heap (show wc.drew.heap[hb]? = _ from HR3.out.2.1) hm1)
  have B5 := Lib.hid (f5.heap (show wc.drew.heap[C]? = _ from HR3.out.2.2.1) hm3)
  have G5 := Lib.hid (f5.heap (show wc.drew.heap[g]? = _ from HR3.out.1) hm2)
  have M5h := Lib.hid M5
  have FC := Lib.hid HR3.out.2.2.2.2
  have F5 : Hid (Fr (fun b => b = m) wc w5) := Lib.hid ⟨f5.os, f5.tape, f5.output, f5.size, f5.block⟩
  have PD : Hid (wc.drew.heap[hb]? = some (.cells #[.slice (some ⟨g, 0, none⟩) s.2.length cap, .int .i64 ((s.1 : Int) + 1), .map (some m), ov] 95 (0, 0))) := Lib.hid HR3.out.2.1
  have BD : Hid (wc.drew.heap[C]? = some (.cells #[.int .i64 q] 3 (0, 0))) := Lib.hid HR3.out.2.2.1
  clear MC M5 f5
  go_wp2_with fail
  refine wp_draw [((fun y => y.heap[hb]? = some (.cells #[.slice (some ⟨g, 0, none⟩) s.2.length cap, .int .i64 ((s.1 : Int) + 1), .map (some m), ov] 95 (0, 0)) ∧ y.heap[C]? = some (.cells #[.int .i64 q] 3 (0, 0))), [(.free, 0), (.free, 1), (.free, 2), (.held, 3), (.held, 4), (.kept, 5)])] 6 (by kernel_rfl) (by kernel_rfl) (fun _ _ _ _ _ h => h) ⟨⟨PD.out, BD.out⟩, ?_⟩
  generalize wc.drew = wq at PD BD hdel ⊢
  repeat (first
    | (refine' wpPlan_free (v := _) rfl (by rfl) ?_ ?_
       rotate_left
       · (intro w'; skip; go_simp; try rfl)
       simp only [List.getElem_toArray, List.getElem_cons_zero, List.getElem_cons_succ, Act.put, List.setIfInBounds_toArray, List.set_cons_zero, List.set_cons_succ])
    | (refine' wpPlan_held (v := _) rfl (by rfl) ?_ ?_
       rotate_left
       · (intro w' hS; skip; (obtain ⟨x0, _⟩ := box_facts hS.1; obtain ⟨y0, _⟩ := box_facts hS.2; have e2 : w'.cell? ⟨hb, 2, none⟩ = some (.map (some m)) := (by rw [x0]; rfl); have d0 : w'.cell? ⟨C, 0, none⟩ = some (.int .i64 q) := (by rw [y0]; rfl); clear x0 y0 hS); go_simp; try rfl)
       simp only [List.getElem_toArray, List.getElem_cons_zero, List.getElem_cons_succ, Act.put, List.setIfInBounds_toArray, List.set_cons_zero, List.set_cons_succ])
    | (refine' wpPlan_skip rfl (by rfl) ?_
       simp only [List.getElem_toArray, List.getElem_cons_zero, List.getElem_cons_succ, Act.put, List.setIfInBounds_toArray, List.set_cons_zero, List.set_cons_succ])
    | (refine' wpPlan_skipHeld rfl (by rfl) ?_
       simp only [List.getElem_toArray, List.getElem_cons_zero, List.getElem_cons_succ, Act.put, List.setIfInBounds_toArray, List.set_cons_zero, List.set_cons_succ]))
  refine' wpPlan_kept rfl ?_
  intro K hK
  go_simp
  refine hK _ _ ⟨⟨P5.out, B5.out⟩, ?_⟩
  clear hK K hdel
  refine wpPlan_end ?_
  simp only [wpSegs, List.drop_succ_cons, List.drop_zero]
  obtain ⟨x0, _⟩ := box_facts P5.out
  have e3 : w5.cell? ⟨hb, 3, none⟩ = some ov := by rw [x0]; rfl
  clear x0
  have hov1 : ov.ownBlock ≠ some hb := by
    obtain ⟨_, _, _, _, _, h1, _⟩ := HH.out
    exact HOV.out.ne h1 (by decide)
  have hov2 : ov.ownBlock ≠ some g := HOV.out.ne HGC.out (by decide)
  have hov3 : ov.ownBlock ≠ some m := by
    intro h
    obtain ⟨cur, e⟩ := HOV.out.own_cells m h
    exact HMP.out.ne e rfl
  have O5 := Lib.hid (HOV.out.keep (w' := w5) fun b hb1 => by
    have l1 := HOV.out.lt b hb1
    have l2 := Nat.lt_of_lt_of_le l1 f0d.size
    rw [F5.out.block b (Nat.lt_of_lt_of_le l2 FC.out.size) (by rintro rfl; exact hov3 hb1), FC.out.block b l2 (by rintro (rfl | rfl); exact hov2 hb1; exact hov1 hb1), f0d.block b l1 id])
  have HOL : (hOpens s.2).length ≤ 200000 := by have := hOpen_len HOK.out; omega
  have HCL := Lib.hid (cloneInts_any O5.out HOL)
  have hone : Hid (∃ k, ∃ hk : k < (hOpens s.2).length, (hOpens s.2)[k] = q ∧ (∀ p (h : p < (hOpens s.2).length), p ≠ k → (hOpens s.2)[p] ≠ q) ∧ (hOpens s.2).eraseIdx k = hOpens (s.2.modify i fun x => hReplied x r s.1)) := Lib.hid (by
    obtain ⟨A', x', B', _, _, _, e2, n1, n2, e3, e4⟩ := hReply_parts HOK.out HI.out r s.1
    obtain ⟨hk, h1, h2, h3⟩ := once_at n1 n2 e3
    exact ⟨_, hk, h1, h2, by rw [h3, e2, e4]⟩)
  go_wp2_with fail
  refine HCL.out.mono ?_
  rintro e w6 ⟨v6, rfl, O6, f6, own6, ne6⟩
  obtain ⟨p, hp, hp1, hp2, hp3⟩ := hone.out
  have hne : hOpens s.2 ≠ [] := by intro h; rw [h] at hp; simp at hp
  rcases id O6.2 with ⟨h0, _⟩ | ⟨g2, cap2, cur2, rfl, _, _, _, _, _⟩
  · exact absurd h0 (ne6 hne)
  have hg2 : w5.heap.size ≤ g2 := own6 g2 rfl
  have hCg2 : C ≠ g2 := by have := lt_of_block B5.out; omega
  have hbg2 : hb ≠ g2 := by have := lt_of_block P5.out; omega
  have B6 := f6.heap B5.out id
  have HDL := Lib.hid (deleteInts_any O6 HOL q (B := C) (by rw [cell_of_row w6 C 0 _ _ _ B6]; rfl) hCg2 hp hp1 hp2)
  have F6 := Lib.hid f6
  have HP3 := Lib.hid hp3
  clear hne ne6 own6 O6 B6 hp hp1 hp2 hp3 f6 e3
  go_wp2_with fail
  refine HDL.out.mono ?_
  rintro e w7 ⟨v7, rfl, O7, f7, own7⟩
  obtain ⟨va, vn, rfl⟩ := O7.form
  obtain ⟨len7, hlen7⟩ : ∃ n, ((hOpens s.2).eraseIdx p).length = n := ⟨_, rfl⟩
  rw [hlen7] at O7 own7 ⊢
  have O7h := Lib.hid O7
  have F7 := Lib.hid f7
  have OW7 := Lib.hid own7
  have HL7 := Lib.hid hlen7
  have P7 := Lib.hid (f7.heap (F6.out.heap P5.out id) hbg2)
  clear O7 f7 own7 hlen7
  go_wp2_with (refine wpList_store_block rfl 73 _ _ rfl hb 3 rfl (.slice va len7 vn) rfl #[.slice (some ⟨g, 0, none⟩) s.2.length cap, .int .i64 ((s.1 : Int) + 1), .map (some m), ov] 95 P7.out ?hfit ?hinf ?hone ?_)
  case hfit => simp [Value.cells]
  case hinf => kernel_rfl
  case hone => intro u hu; simp [Value.cells] at hu; subst hu; rfl
  intro w8 hbx f8
  replace hbx : w8.heap[hb]? = some (.cells #[.slice (some ⟨g, 0, none⟩) s.2.length cap, .int .i64 ((s.1 + 1 : Nat) : Int), .map (some m), .slice va len7 vn] 95 (0, 0)) := by simpa [putAt, Value.cells] using hbx
  have HBX := Lib.hid hbx
  have F8 := Lib.hid f8
  have F0 := Lib.hid f0d
  clear hbx f8 f0d
  go_wp2_with fail
  go_ret
  have hsz := HSZ.out
  have hbw := HH.out.lt
  have gw := lt_of_block HGC.out
  have cg : c g = k := HH9.out g rfl
  have sz1 : w.heap.size ≤ w5.heap.size := by have := F0.out.size; have := FC.out.size; have := F5.out.size; omega
  have hmw := HMP.out.lt
  have F05 : Fr (fun b => b = g ∨ b = hb ∨ b = m) w w5 := (F0.out.mono fun _ _ h => h.elim).trans ((FC.out.mono fun _ _ h => h.elim .inl (fun h => .inr (.inl h))).trans (F5.out.mono fun _ _ h => .inr (.inr h)))
  have F58 : Fr (fun b => b = g2 ∨ b = hb) w5 w8 := (F6.out.mono fun _ _ h => h.elim).trans ((F7.out.mono fun _ _ h => .inl h).trans (F8.out.mono fun _ _ h => .inr h))
  have FV : Fr (fun b => b = g ∨ b = hb ∨ b = m) w w8 := F05.trans2 F58 (fun b hb1 h => by
    rcases h with h | h
    · omega
    · exact .inr (.inl h))
  have FT : Fr (fun b => c b = k) w w8 := FV.mono (fun b _ h => by
    rcases h with rfl | rfl | rfl
    · exact cg
    · exact h7
    · exact h8)
  have M8 := M5h.out.keep (F58.block m M5h.out.lt (by rintro (h | h) <;> omega))
  have G8 := F58.heap G5.out (by rintro (h | h) <;> omega)
  have O8 := O7h.out.keep (w' := w8) fun b hb1 => F8.out.block b (O7h.out.lt b hb1) (fun h => by
    rw [OW7.out] at hb1
    have := Option.some.inj hb1
    omega)
  let c' : Nat → Nat := fun b => if b < w.heap.size then c b else if b = g2 then k else 0
  have cold : ∀ b, b < w.heap.size → c' b = c b := fun b hb1 => if_pos hb1
  have cnew : c' g2 = k := by
    show (if g2 < w.heap.size then c g2 else if g2 = g2 then k else 0) = k
    rw [if_neg (by omega), if_pos rfl]
  have keep1 : ∀ b, b < w.heap.size → c b = 0 → w8.heap[b]? = w.heap[b]? := fun b hb1 hs => FT.block b hb1 (fun h => hk0 (h ▸ hs))
  have keep2 : ∀ b, b < w.heap.size → c b = 0 → c' b = 0 := fun b hb1 hs => by rw [cold b hb1]; exact hs
  have zold : Row kHap (fun b => c' b = 0) w8 cs (hAll s.2) := HR.out.fr keep1 keep2
  rw [HCS.out, List.append_assoc] at zold
  have hy : kHap.rd (fun b => c' b = 0) w8 (hapE cc rcs X.2.2.1 s.1 false (hFree kd e)) ((fun x : MHap => ((x.1, r, x.2.2.1, (s.1 : Int), false, hFree x.1.1 r.1) : MHap)) (hAll s.2)[i]) := by
    rw [HX.out]
    simp only [HKD.out, HE1.out]
    exact hap_of (kCall.fr HCR.out keep1 keep2) (kRes.fr HRD.out keep1 keep2) HFR.out (wf_i64n (by have := HROOM.out; omega))
  have hrow := zold.put (f := fun x : MHap => ((x.1, r, x.2.2.1, (s.1 : Int), false, hFree x.1.1 r.1) : MHap)) hila HAL.out (hapE_len HCC.out HRS.out) hy
  rw [← hAll_modify] at hrow
  have hlenE : (hapE cc rcs X.2.2.1 s.1 false (hFree kd e)).length = (hapE cc rs X.2.2.1 X.2.2.2.1 X.2.2.2.2.1 X.2.2.2.2.2).length := by rw [hapE_len HCC.out HRL.out, hapE_len HCC.out HRS.out]
  have hcl : (A ++ (hapE cc rcs X.2.2.1 s.1 false (hFree kd e) ++ B1)).length = s.2.length * 23 := by
    have h := HL.out.1
    rw [HCS.out] at h
    simp only [List.length_append] at h ⊢
    omega
  have hG : GRow w8 76 23 (.slice (some ⟨g, 0, none⟩) s.2.length cap) (s.2.modify i fun x => hReplied x r s.1).length (A ++ (hapE cc rcs X.2.2.1 s.1 false (hFree kd e) ++ B1)) := by
    rw [List.length_modify]
    obtain ⟨rest', hB'⟩ := HB1.out
    refine ⟨hcl, .inr ⟨g, cap, _, rfl, G8, g1, by unfold maxLen; omega, ?_, ?_⟩⟩
    · have h := HG3.out
      rw [HCU.out] at h
      simp only [List.size_toArray, List.length_append] at h ⊢
      omega
    · simp only
      rw [hB', ← hcl]
      have : A ++ (hapE cc rcs X.2.2.1 s.1 false (hFree kd e) ++ (B1 ++ rest')) = (A ++ (hapE cc rcs X.2.2.1 s.1 false (hFree kd e) ++ B1)) ++ rest' := by simp
      rw [this]
      exact List.take_left
  have hO : GRow w8 3 1 (.slice va len7 vn) (hOpens (s.2.modify i fun x => hReplied x r s.1)).length (ints (hOpens (s.2.modify i fun x => hReplied x r s.1))) := by
    rw [← HP3.out, HL7.out]
    exact O8
  have hM : MapO Try.prog 3 3 w8 m n (hMap (s.2.modify i fun x => hReplied x r s.1)) := by
    rw [hMap_reply HOK.out HI.out]
    exact M8
  exact ⟨rfl, FT, c', ⟨_, _, m, n, _, HBX.out, hG, hrow, hO, hM, by simp; omega, by rw [cold _ hbw]; exact h7, by rw [cold _ hmw]; exact h8, fun b h => by
    simp [Value.ownBlock] at h
    subst h
    rw [cold _ gw]; exact cg, fun b h => by
    rw [OW7.out] at h
    cases h
    exact cnew⟩, cold⟩

theorem reply_at {c : Nat → Nat} {k : Nat} (hk0 : k ≠ 0) {w : World} {hb : Nat} {s : MHist} (h : HistAt c k w hb s) (hok : HistOk s) (q : Int) (hid : (Lit.int .i64 q).wf = true) (r : MRes) (rcs : List Value)
    (hr : kRes.rd (fun b => c b = 0) w rcs r) :
    Calls Try.prog 46 #[.pointer (some ⟨hb, 0, none⟩), .int .i64 q, .agg rcs.toArray] w (CallEnd c k w hb (hReply s q r)) := by
  by_cases hno : ((hOpenAt q s.2).isNone || decide (65536 ≤ s.1)) = true
  · exact reply_no h hok q hid r rcs hno
  · simp only [Bool.or_eq_true, decide_eq_true_eq, not_or, Bool.not_eq_true] at hno
    obtain ⟨h1, h2⟩ := hno
    obtain ⟨i, hi⟩ : ∃ i, hOpenAt q s.2 = some i := by
      cases ho : hOpenAt q s.2 with
      | none => rw [ho] at h1; cases h1
      | some i => exact ⟨i, rfl⟩
    exact reply_yes hk0 h hok q hid r rcs hr hi (by omega)
end Go.Proofs.Ytplhcfaonhkegaa
