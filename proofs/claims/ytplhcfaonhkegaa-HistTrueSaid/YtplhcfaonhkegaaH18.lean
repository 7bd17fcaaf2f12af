/-
  Reply: laws on one of a row that is put anew; a reply that is refused.
-/
import Derived.Test.YtplhcfaonhkegaaH17
namespace Go.Proofs.Ytplhcfaonhkegaa
open Go.RowKit Go.Maps

theorem putAt_right {A B vs : List Value} {o : Nat} (h : A.length ≤ o) : putAt (A ++ B) o vs = A ++ putAt B (o - A.length) vs := by
  unfold putAt
  rw [List.take_append, List.drop_append, List.take_of_length_le h, List.drop_of_length_le (by omega)]
  rw [show o + vs.length - A.length = o - A.length + vs.length by omega]
  simp
theorem putAt_left {A B vs : List Value} {o : Nat} (h : o + vs.length ≤ A.length) : putAt (A ++ B) o vs = putAt A o vs ++ B := by
  unfold putAt
  rw [List.take_append, List.drop_append, show o - A.length = 0 by omega, show o + vs.length - A.length = 0 by omega]
  simp
/-- In the midst of a row. -/
theorem putAt_mid {A E B vs : List Value} {i j : Nat} (hA : A.length = i) (hj : j + vs.length ≤ E.length) : putAt (A ++ (E ++ B)) (i + j) vs = A ++ (putAt E j vs ++ B) := by
  rw [putAt_right (by omega), putAt_left (by omega), hA, Nat.add_sub_cancel_left]
theorem mid_at {A E B : List Value} {i j : Nat} (hA : A.length = i) {v : Value} (h : E[j]? = some v) : (A ++ (E ++ B)).toArray[i + j]? = some v := by
  have hj : j < E.length := by
    rcases Nat.lt_or_ge j E.length with h1 | h1
    · exact h1
    · rw [List.getElem?_eq_none h1] at h; cases h
  rw [List.getElem?_toArray, List.getElem?_append_right (by omega), hA, Nat.add_sub_cancel_left, List.getElem?_append_left hj, h]
/-- The cells of what happened, by parts. -/
def hapE (cc rs : List Value) (a b : Int) (o f : Bool) : List Value := cc ++ (rs ++ [.int .i64 a, .int .i64 b, .bool o, .bool f])
theorem hapE_res {cc rs rs' : List Value} {a b : Int} {o f : Bool} (h1 : cc.length = 4) (h2 : rs.length = 15) (h3 : rs'.length = 15) : putAt (hapE cc rs a b o f) 4 rs' = hapE cc rs' a b o f := by
  unfold hapE
  rw [putAt_right (by omega), h1, putAt_left (by omega), putAt_whole _ _ (by omega)]
theorem hapE_to {cc rs : List Value} {a b n : Int} {o f : Bool} (h1 : cc.length = 4) (h2 : rs.length = 15) : putAt (hapE cc rs a b o f) 20 [.int .i64 n] = hapE cc rs a n o f := by
  unfold hapE
  rw [putAt_right (by omega), h1, putAt_right (by omega), h2]
  rfl
theorem hapE_open {cc rs : List Value} {a b : Int} {o f x : Bool} (h1 : cc.length = 4) (h2 : rs.length = 15) : putAt (hapE cc rs a b o f) 21 [.bool x] = hapE cc rs a b x f := by
  unfold hapE
  rw [putAt_right (by omega), h1, putAt_right (by omega), h2]
  rfl
theorem hapE_free {cc rs : List Value} {a b : Int} {o f x : Bool} (h1 : cc.length = 4) (h2 : rs.length = 15) : putAt (hapE cc rs a b o f) 22 [.bool x] = hapE cc rs a b o x := by
  unfold hapE
  rw [putAt_right (by omega), h1, putAt_right (by omega), h2]
  rfl
theorem hapE_len {cc rs : List Value} {a b : Int} {o f : Bool} (h1 : cc.length = 4) (h2 : rs.length = 15) : (hapE cc rs a b o f).length = 23 := by
  unfold hapE; simp [h1, h2]
theorem hapE_at22 {cc rs : List Value} {a b : Int} {o f : Bool} (h1 : cc.length = 4) (h2 : rs.length = 15) : (hapE cc rs a b o f)[22]? = some (.bool f) := by
  unfold hapE
  rw [List.getElem?_append_right (by omega), List.getElem?_append_right (by omega), h1, h2]
  rfl
theorem hap_parts {S : Nat → Prop} {w : World} {cs : List Value} {x : MHap} (h : kHap.rd S w cs x) : ∃ cc rs, cs = hapE cc rs x.2.2.1 x.2.2.2.1 x.2.2.2.2.1 x.2.2.2.2.2 ∧ cc.length = 4 ∧ rs.length = 15 ∧ cc[0]? = some (.int .i64 x.1.1) ∧ kCall.rd S w cc x.1 ∧ (Lit.int .i64 x.2.2.1).wf = true := by
  obtain ⟨c1, _, rfl, h1, d1, _, rfl, h2, _, _, rfl, ⟨rfl, h3⟩, _, _, rfl, ⟨rfl, h4⟩, _, _, rfl, rfl, rfl⟩ := h
  refine ⟨c1, d1, rfl, kCall.len h1, kRes.len h2, ?_, h1, h3⟩
  obtain ⟨v, rfl, _⟩ := call_cells h1
  rfl
theorem hap_of {S : Nat → Prop} {w : World} {cc rs : List Value} {c : MCall} {r : MRes} {a b : Int} {o f : Bool} (h1 : kCall.rd S w cc c) (h2 : kRes.rd S w rs r) (h3 : (Lit.int .i64 a).wf = true) (h4 : (Lit.int .i64 b).wf = true) : kHap.rd S w (hapE cc rs a b o f) (c, r, a, b, o, f) :=
  ⟨cc, _, rfl, h1, rs, _, rfl, h2, [_], _, rfl, ⟨rfl, h3⟩, [_], _, rfl, ⟨rfl, h4⟩, [_], _, rfl, rfl, rfl⟩
/-- Where just one is a number. -/
theorem once_at {a b l : List Int} {q : Int} (h1 : q ∉ a) (h2 : q ∉ b) (e : l = a ++ q :: b) : ∃ hk : a.length < l.length, l[a.length] = q ∧ (∀ p (h : p < l.length), p ≠ a.length → l[p] ≠ q) ∧ l.eraseIdx a.length = a ++ b := by
  subst e
  refine ⟨by simp, by simp, fun p h hp e => ?_, by rw [List.eraseIdx_append_of_length_le (Nat.le_refl _)]; simp⟩
  by_cases hl : p < a.length
  · rw [List.getElem_append_left hl] at e
    exact h1 (e ▸ List.getElem_mem _)
  · rw [List.getElem_append_right (by omega)] at e
    obtain ⟨n, hn⟩ : ∃ n, p - a.length = n + 1 := ⟨p - a.length - 1, by omega⟩
    have h3 : n < b.length := by simp at h; omega
    have : (q :: b)[p - a.length]'(by simp; omega) = b[n] := by simp [hn]
    rw [this] at e
    exact h2 (e ▸ List.getElem_mem _)
/-- One of a row is put anew. -/
theorem Row.put {α : Type} {k : Kd α} {S : Nat → Prop} {w : World} {l : List α} {c1 cx c2 cx' : List Value} (h : Row k S w (c1 ++ (cx ++ c2)) l) {i : Nat} (hi : i < l.length) (h1 : c1.length = i * k.sz) (h2 : cx.length = k.sz) {f : α → α} (hy : k.rd S w cx' (f l[i])) :
    Row k S w (c1 ++ (cx' ++ c2)) (l.modify i f) := by
  have t := h.take i
  have d := h.drop (i + 1)
  rw [← h1, List.take_left] at t
  rw [show (i + 1) * k.sz = c1.length + cx.length by rw [h1, h2, Nat.add_mul]; omega, ← List.append_assoc, List.drop_append_of_le_length (by simp), List.drop_of_length_le (by simp), List.nil_append] at d
  rw [List.modify_eq_take_cons_drop hi]
  exact t.append ⟨cx', c2, rfl, hy, d⟩

section
variable {P : Program} {w : World} {ops : Array Oper} {rest : List Oper} {o : Oper} {a : Act} {Q : Exit → Act → World → Prop}
/-- A store in the midst of a row. -/
theorem wpList_store_mid (hgd : o.guard = none) (ty : TypeId) (x y : Operand) (ho : o.op = .store ty x y)
    (g i j : Nat) (hx : a.eval x = .pointer (some ⟨g, i + j, none⟩)) (v : Value) (hy : a.eval y = v) (A E B : List Value) (e : TypeId) (hg : w.heap[g]? = some (.cells (A ++ (E ++ B)).toArray e (0, 0))) (hA : A.length = i)
    (vs : List Value) (hv : v.cells.toList = vs) (hj : j + vs.length ≤ E.length) (hi : (P.info? ty).map (·.size) = some vs.length) (h1 : ∀ u ∈ vs, u.oneCell' = true) (E' : List Value) (hE : putAt E j vs = E')
    (h : ∀ w', w'.heap[g]? = some (.cells (A ++ (E' ++ B)).toArray e (0, 0)) → Fr (fun i => i = g) w w' → wpList P ops Q rest (a.put o.dst undef) w') : wpList P ops Q (o :: rest) a w := by
  subst hE
  have hs : v.cells.size = vs.length := by rw [← hv]; simp
  refine wpList_store_block hgd ty x y ho g (i + j) hx v hy (A ++ (E ++ B)).toArray e hg (by simp [hs]; omega) (by rw [hs]; exact hi) (by rw [hv]; exact h1) fun w' h2 h3 => h w' ?_ h3
  rw [h2, hv, putAt_mid hA hj]
end

set_option maxRecDepth 100000 in
set_option maxHeartbeats 4000000 in
theorem reply_no {c : Nat → Nat} {k : Nat} {w : World} {hb : Nat} {s : MHist} (h : HistAt c k w hb s) (_hok : HistOk s) (q : Int) (hid : (Lit.int .i64 q).wf = true) (r : MRes) (rcs : List Value)
    (hno : ((hOpenAt q s.2).isNone || decide (65536 ≤ s.1)) = true) :
    Calls Try.prog 46 #[.pointer (some ⟨hb, 0, none⟩), .int .i64 q, .agg rcs.toArray] w (CallEnd c k w hb (hReply s q r)) := by
  obtain ⟨lv, ov, m, n, cs, h1, h2, h3, h4, h5, h6, _⟩ := id h
  obtain ⟨w0, hw0⟩ : ∃ w0, (w.alloc (.cells #[.int .i64 q] 3)).alloc (.cells rcs.toArray 52) = w0 := ⟨_, rfl⟩
  have f0 : Fr Non w w0 := by rw [← hw0]; exact ((Fr.refl _ _).alloc _).alloc _
  have g1 := f0.heap h1 id
  have m1 := made_any g1
  have b1 : w0.heap[w.heap.size]? = some (.cells #[.int .i64 q] 3 (0, 0)) := by rw [← hw0]; exact alloc_at2 w _ _
  obtain ⟨C, hC⟩ : ∃ C, w.heap.size = C := ⟨_, rfl⟩
  rw [hC] at b1
  have HG := Lib.hid g1
  have HB := Lib.hid b1
  have HM := Lib.hid m1
  have HH := Lib.hid h
  have HN := Lib.hid hno
  have HMP := Lib.hid (h5.keep (f0.block m h5.lt id))
  have HQ := Lib.hid hid
  clear b1 g1 m1 h h1 h2 h3 h4 h5 _hok hno hid
  go_enter Try.func46, Try.ntmps46
  go_wp2_with fail
  (try rw [hw0])
  refine HM.out.mono ?_
  rintro e w' ⟨rfl, rfl⟩
  clear HM
  have HGd : Hid (w0.drew.heap[hb]? = some (.cells #[lv, .int .i64 s.1, .map (some m), ov] 95 (0, 0))) := Lib.hid HG.out
  have HBd : Hid (w0.drew.heap[C]? = some (.cells #[.int .i64 q] 3 (0, 0))) := Lib.hid HB.out
  have HMd : Hid (MapO Try.prog 3 3 w0.drew m n (hMap s.2)) := Lib.hid HMP.out
  have f0d := f0.drew
  clear HG HB HMP f0
  go_wp2_with fail
  clear hw0
  refine wp_draw [((fun y => Fr Non w0.drew y), [(.free, 0), (.free, 1), (.free, 2), (.held, 3), (.held, 4), (.held, 5), (.free, 6), (.free, 7), (.free, 8), (.free, 9), (.free, 10)])] 11 (by kernel_rfl) (by kernel_rfl) (fun _ _ _ _ _ h => h) ⟨(Fr.refl _ _), ?_⟩
  generalize w0.drew = wd at HGd HBd HMd f0d ⊢
  obtain ⟨t, ht⟩ : ∃ t, hOpenAt q s.2 = t := ⟨_, rfl⟩
  have HT := Lib.hid ht
  have hlk : Hid (∀ y, Fr Non wd y → (Instr.lookup 93 (.map (some m)) (.int .i64 q) true).run Try.prog y = .ok (.tuple #[.int .i64 ((hMap s.2 q).getD 0), .bool t.isSome]) y) := Lib.hid (fun y g => by
    have hf : (hMap s.2 q).isSome = t.isSome := by unfold hMap; rw [ht]; cases t <;> rfl
    rw [← hf]
    exact (HMd.out.keep (g.block m HMd.out.lt id)).look (t := 93) Try.underlying93 Try.underlying3 Try.underlying3 (by rfl) q HQ.out)
  clear ht
  cases t with
  | none =>
    repeat (first
      | (refine' wpPlan_free (v := _) rfl (by rfl) ?_ ?_
         rotate_left
         · (intro w'; skip; go_simp; try rfl)
         simp only [List.getElem_toArray, List.getElem_cons_zero, List.getElem_cons_succ, Act.put, List.setIfInBounds_toArray, List.set_cons_zero, List.set_cons_succ])
      | (refine' wpPlan_held (v := _) rfl (by rfl) ?_ ?_
         rotate_left
         · (intro w' hS; skip; (obtain ⟨x0, _⟩ := box_facts (hS.heap HGd.out id); obtain ⟨y0, _⟩ := box_facts (hS.heap HBd.out id); have e2 : w'.cell? ⟨hb, 2, none⟩ = some (.map (some m)) := (by rw [x0]; rfl); have d0 : w'.cell? ⟨C, 0, none⟩ = some (.int .i64 q) := (by rw [y0]; rfl); have hl := hlk.out w' hS; clear x0 y0 hS); go_simp; try rfl)
         simp only [List.getElem_toArray, List.getElem_cons_zero, List.getElem_cons_succ, Act.put, List.setIfInBounds_toArray, List.set_cons_zero, List.set_cons_succ])
      | (refine' wpPlan_skip rfl (by rfl) ?_
         simp only [List.getElem_toArray, List.getElem_cons_zero, List.getElem_cons_succ, Act.put, List.setIfInBounds_toArray, List.set_cons_zero, List.set_cons_succ])
      | (refine' wpPlan_skipHeld rfl (by rfl) ?_
         simp only [List.getElem_toArray, List.getElem_cons_zero, List.getElem_cons_succ, Act.put, List.setIfInBounds_toArray, List.set_cons_zero, List.set_cons_succ]))
    refine wpPlan_end ?_
    simp only [wpSegs, List.drop_succ_cons, List.drop_zero]
    go_wp2_with fail
    go_ret
    rw [show hReply s q r = (220, s) by unfold hReply; rw [HT.out]]
    exact CallEnd.same HH.out 220 f0d
  | some i =>
    have hge : 65536 ≤ s.1 := by
      have := HN.out
      rw [HT.out] at this
      simpa using this
    have hI : (65536 : Int) ≤ (s.1 : Int) := by omega
    have HGE := Lib.hid hge
    clear hge
    repeat (first
      | (refine' wpPlan_free (v := _) rfl (by rfl) ?_ ?_
         rotate_left
         · (intro w'; skip; go_simp; try rfl)
         simp only [List.getElem_toArray, List.getElem_cons_zero, List.getElem_cons_succ, Act.put, List.setIfInBounds_toArray, List.set_cons_zero, List.set_cons_succ])
      | (refine' wpPlan_held (v := _) rfl (by rfl) ?_ ?_
         rotate_left
         · (intro w' hS; skip; (obtain ⟨x0, _⟩ := box_facts (hS.heap HGd.out id); obtain ⟨y0, _⟩ := box_facts (hS.heap HBd.out id); have e2 : w'.cell? ⟨hb, 2, none⟩ = some (.map (some m)) := (by rw [x0]; rfl); have d0 : w'.cell? ⟨C, 0, none⟩ = some (.int .i64 q) := (by rw [y0]; rfl); have hl := hlk.out w' hS; clear x0 y0 hS); go_simp; try rfl)
         simp only [List.getElem_toArray, List.getElem_cons_zero, List.getElem_cons_succ, Act.put, List.setIfInBounds_toArray, List.set_cons_zero, List.set_cons_succ])
      | (refine' wpPlan_skip rfl (by rfl) ?_
         simp only [List.getElem_toArray, List.getElem_cons_zero, List.getElem_cons_succ, Act.put, List.setIfInBounds_toArray, List.set_cons_zero, List.set_cons_succ])
      | (refine' wpPlan_skipHeld rfl (by rfl) ?_
         simp only [List.getElem_toArray, List.getElem_cons_zero, List.getElem_cons_succ, Act.put, List.setIfInBounds_toArray, List.set_cons_zero, List.set_cons_succ]))
    refine wpPlan_end ?_
    simp only [wpSegs, List.drop_succ_cons, List.drop_zero]
    obtain ⟨x0, z0⟩ := box_facts HGd.out
    have e1 : wd.cell? ⟨hb, 1, none⟩ = some (.int .i64 s.1) := by rw [x0]; rfl
    clear x0 z0
    go_wp2_with fail
    go_ret
    rw [show hReply s q r = (3, s) by unfold hReply; rw [HT.out]; simp only [HGE.out, if_true]]
    exact CallEnd.same HH.out 3 f0d
end Go.Proofs.Ytplhcfaonhkegaa
