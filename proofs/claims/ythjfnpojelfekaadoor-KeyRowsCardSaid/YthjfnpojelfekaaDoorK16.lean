/-
  Keys: the reference's Sorted, walked.
-/
import Derived.Test.YthjfnpojelfekaaDoorK15
namespace Go.Proofs.YthjfnpojelfekaaDoor
open Go.RowKit

def kStep (x : MK) (s : List MK × Bool) (y : MK) : List MK × Bool := (s.1 ++ (if !s.2 && !kLess y x then [x] else []) ++ (if y ≠ x then [y] else []), s.2 || !kLess y x)
theorem kStep_put (x : MK) : ∀ (l : List MK) (s : List MK × Bool), (l.foldl (kStep x) s).1 ++ (if (l.foldl (kStep x) s).2 then [] else [x]) = s.1 ++ kPut x l s.2
  | [], s => by obtain ⟨a, b⟩ := s; cases b <;> simp [kPut]
  | y :: l, s => by
    rw [List.foldl_cons, kStep_put x l, kPut]
    unfold kStep
    simp
def kSt (x : MK) (O : List MK) (q : Nat) : List MK × Bool := (O.take q).foldl (kStep x) ([], false)
theorem kSt_next {x : MK} {O : List MK} {q : Nat} (h : q < O.length) : kSt x O (q + 1) = kStep x (kSt x O q) O[q] := by
  unfold kSt
  rw [← List.take_append_getElem h, List.foldl_append]
  rfl
theorem kSt_end (x : MK) (O : List MK) : (kSt x O O.length).1 ++ (if (kSt x O O.length).2 then [] else [x]) = kIns O x := by
  unfold kSt kIns
  rw [List.take_length, kStep_put]
  simp
theorem kSt_len (x : MK) (O : List MK) (q : Nat) (h : q ≤ O.length) : (kSt x O q).1.length ≤ 2 * q := by
  induction q with
  | zero => simp [kSt]
  | succ q ih =>
    rw [kSt_next (by omega)]
    have := ih (by omega)
    unfold kStep
    simp only [List.length_append]
    split <;> split <;> simp <;> omega
/-- A row that is built while another is read. -/
def NextAt (w1 wr : World) (v : Value) (S : List MK) : Prop := Keys wr v S ∧ (∀ b, v.ownBlock = some b → w1.heap.size ≤ b) ∧ Fr Non w1 wr
theorem NextAt.fr {w1 wr w' : World} {v : Value} {S : List MK} (h : NextAt w1 wr v S) (f : Fr Non wr w') : NextAt w1 w' v S := ⟨h.1.fr f, h.2.1, h.2.2.trans f⟩
theorem NextAt.push {w1 wr wa w' : World} {v v' : Value} {S : List MK} {x : MK} (h : NextAt w1 wr v S) (fa : Fr Non wr wa) (r1 : GRow w' 25 2 v' (S.length + 1) (keyCells S ++ [.int .i64 x.1, .int .u64 x.2]))
    (r2 : Fr (fun k => v.ownBlock = some k) wa w') (r3 : v'.ownBlock = v.ownBlock ∨ v'.ownBlock = some wa.heap.size ∧ wa.heap.size < w'.heap.size) : NextAt w1 w' v' (S ++ [x]) := by
  have f1 : Fr Non w1 wa := h.2.2.trans fa
  refine ⟨?_, fun b hb => ?_, f1.trans2 r2 (fun b hb e => by have := h.2.1 b e; omega)⟩
  · unfold Keys
    rw [keyCells_app, List.length_append]
    exact r1
  · rcases r3 with r3 | ⟨r3, _⟩
    · rw [r3] at hb; exact h.2.1 b hb
    · have := Option.some.inj (r3.symm.trans hb)
      have := f1.size
      omega

set_option maxRecDepth 100000 in
set_option maxHeartbeats 4000000 in
theorem rsorted_any {w : World} {u : Value} {l : List MK} (hl : Sl kKey All w u l) (hn : l.length ≤ 100) :
    Calls Tryd.prog 23 #[u] w fun e w' => ∃ v, e = .returned v ∧ Keys w' v (kRSort l) ∧ Fr Non w w' := by
  obtain ⟨a, n, rfl, _⟩ := hl.frm
  have HL := Lib.hid hl.there
  clear hl
  go_enter Tryd.func23, Tryd.ntmps23
  go_wp2_with fail
  go_loopw [3, 4] (fun o i wr => ∃ (j : Nat), j ≤ l.length ∧ i = .int .i64 j ∧ Hid (Keys wr o (kRSort (l.take j)) ∧ Fr Non w wr)) (fun _ i _ => l.length - (intOf i).toNat)
  case atStart => exact ⟨0, by omega, rfl, GRow.nil _ _ _, Fr.refl _ _⟩
  case round =>
    obtain ⟨j, hj, rfl, HI⟩ := hrel
    have j0 : (0 : Int) ≤ (j : Int) := by omega
    by_cases hlt : j < l.length
    · have j1 : (j : Int) < (l.length : Int) := by omega
      have HK := Lib.hid HI.out.1
      have HF := Lib.hid HI.out.2
      obtain ⟨b1, o1, rfl, x0, x1⟩ := keys_rd (HL.out.stay HF.out) j hlt
      have XN := Lib.hid (kRSort_next hlt)
      have hor : Rise (kRSort (l.take j)) := by rw [kRSort_eq]; exact (kSorted_rise _).1
      have hol : (kRSort (l.take j)).length ≤ 100 := by
        rw [kRSort_eq]
        have h1 : (kSorted (l.take j)).length ≤ (l.take j).length := by
          unfold kSorted
          have := kComp_len (kSort (l.take j)) (kSort (l.take j)).length
          rw [List.take_length, kSort_len] at this
          exact this
        rw [List.length_take] at h1
        omega
      obtain ⟨O, hO⟩ : ∃ O, kRSort (l.take j) = O := ⟨_, rfl⟩
      rw [hO] at HK XN hol hor
      obtain ⟨X, hX⟩ : ∃ X, l[j] = X := ⟨_, rfl⟩
      rw [hX] at x0 x1 XN
      obtain ⟨X1, X2⟩ := X
      simp only at x0 x1
      have X0 := Lib.hid (And.intro x0 x1)
      obtain ⟨oa, oc, rfl⟩ := GRow.form HK.out
      clear hO hX x0 x1 HI hor
      go_wp2_with fail
      obtain ⟨wo, rfl⟩ : ∃ wo, wo = wr := ⟨_, rfl⟩
      go_loopw [5, 6, 7] (fun nx pt k wr => ∃ (q : Nat), q ≤ O.length ∧ k = .int .i64 q ∧ pt = .bool (kSt (X1, X2) O q).2 ∧ Hid (NextAt wo wr nx (kSt (X1, X2) O q).1)) (fun _ _ k _ => O.length - (intOf k).toNat)
      case atStart => exact ⟨0, by omega, rfl, rfl, GRow.nil _ _ _, by simp [Value.ownBlock], Fr.refl _ _⟩
      case round =>
        obtain ⟨q, hq, rfl, rfl, HN⟩ := hrel
        have q0 : (0 : Int) ≤ (q : Int) := by omega
        by_cases hq2 : q < O.length
        · have q1 : (q : Int) < (O.length : Int) := by omega
          have ST := Lib.hid (kSt_next (x := (X1, X2)) hq2)
          have hsl := kSt_len (X1, X2) O q hq
          have hcO : ∃ g : Nat, oa = some ⟨g, 0, none⟩ ∧ wo.cell? ⟨g, q * 2, none⟩ = some (.int .i64 O[q].1) ∧ wo.cell? ⟨g, q * 2 + 1, none⟩ = some (.int .u64 O[q].2) := by
            rcases id HK.out.2 with ⟨_, h0⟩ | ⟨g, cap, cur, e, _⟩
            · omega
            · cases e
              obtain ⟨c0, c1⟩ := keyCells_at hq2
              exact ⟨g, rfl, GRow.cells HK.out (g := g) rfl _ _ c0, GRow.cells HK.out (g := g) rfl _ _ c1⟩
          obtain ⟨g, rfl, y0, y1⟩ := hcO
          have HLS := Lib.hid (fun w => rless_any w O[q] (X1, X2))
          have E := Lib.hid (fun w => neq_key O[q] (X1, X2) w)
          have IRR := Lib.hid (kLess_irr (X1, X2))
          obtain ⟨Y, hY⟩ : ∃ Y, O[q] = Y := ⟨_, rfl⟩
          rw [hY] at y0 y1 HLS E ST
          obtain ⟨P, hP⟩ : ∃ P, kSt (X1, X2) O q = P := ⟨_, rfl⟩
          rw [hP] at HN ST hsl ⊢
          obtain ⟨S, pt⟩ := P
          simp only at hsl ⊢
          have NA : Hid (NextAt wo wr u5 S) := Lib.hid HN.out
          obtain ⟨Y1, Y2⟩ := Y
          simp only at y0 y1
          have Q1 := Lib.hid (And.intro y0 (And.intro y1 (And.intro X0.out.1 X0.out.2)))
          have FW := NA.out.2.2
          have Q := Lib.hid (And.intro (FW.cell y0 id) (And.intro (FW.cell y1 id) (And.intro (FW.cell X0.out.1 id) (FW.cell X0.out.2 id))))
          have sl : S.length ≤ 200 := by omega
          obtain ⟨lb, hlb⟩ : ∃ lb, kLess (Y1, Y2) (X1, X2) = lb := ⟨_, rfl⟩
          have HLB := Lib.hid hlb
          rw [hlb] at HLS
          unfold kV at HLS E
          clear y0 y1 hY hP HN hsl FW hlb hq2
          by_cases heq : (Y1, Y2) = (X1, X2)
          · have HEQ := Lib.hid heq
            rw [decide_eq_true heq] at E
            have hl0 : lb = false := by rw [← HLB.out, heq]; exact IRR.out
            subst hl0
            clear heq
            cases pt with
            | true =>
              go_wp2_with fail
              have fd0 : Fr Non wr wr.drew := (Fr.refl _ _).drew
              refine wp_draw [((fun y => Fr Non wr y), [(.free, 0), (.free, 1), (.free, 2), (.free, 3), (.free, 4), (.free, 5), (.held, 6), (.free, 7), (.free, 8), (.free, 9), (.held, 10), (.kept, 11), (.free, 12), (.free, 13)])] 14 (by kernel_rfl) (by kernel_rfl) (fun _ _ _ _ _ h => h) ⟨fd0, ?_⟩
              generalize wr.drew = wd at fd0 ⊢
              repeat (first
                | (refine' wpPlan_free (v := _) rfl (by rfl) ?_ ?_
                   rotate_left
                   · (intro w'; skip; go_simp; try rfl)
                   simp only [List.getElem_toArray, List.getElem_cons_zero, List.getElem_cons_succ, Act.put, List.setIfInBounds_toArray, List.set_cons_zero, List.set_cons_succ])
                | (refine' wpPlan_held (v := _) rfl (by rfl) ?_ ?_
                   rotate_left
                   · (intro w' hS; skip; (have q0 := hS.cell Q.out.1 id; have q1 := hS.cell Q.out.2.1 id; have q2 := hS.cell Q.out.2.2.1 id; have q3 := hS.cell Q.out.2.2.2 id; clear hS); go_simp; try rfl)
                   simp only [List.getElem_toArray, List.getElem_cons_zero, List.getElem_cons_succ, Act.put, List.setIfInBounds_toArray, List.set_cons_zero, List.set_cons_succ])
                | (refine' wpPlan_skip rfl (by rfl) ?_
                   simp only [List.getElem_toArray, List.getElem_cons_zero, List.getElem_cons_succ, Act.put, List.setIfInBounds_toArray, List.set_cons_zero, List.set_cons_succ])
                | (refine' wpPlan_skipHeld rfl (by rfl) ?_
                   simp only [List.getElem_toArray, List.getElem_cons_zero, List.getElem_cons_succ, Act.put, List.setIfInBounds_toArray, List.set_cons_zero, List.set_cons_succ]))
              refine' wpPlan_kept rfl ?_
              intro K hK
              go_simp
              refine hK _ _ ⟨fd0, ?_⟩
              clear hK K
              repeat (first
                | (refine' wpPlan_free (v := _) rfl (by rfl) ?_ ?_
                   rotate_left
                   · (intro w'; skip; go_simp; try rfl)
                   simp only [List.getElem_toArray, List.getElem_cons_zero, List.getElem_cons_succ, Act.put, List.setIfInBounds_toArray, List.set_cons_zero, List.set_cons_succ])
                | (refine' wpPlan_held (v := _) rfl (by rfl) ?_ ?_
                   rotate_left
                   · (intro w' hS; skip; skip; go_simp; try rfl)
                   simp only [List.getElem_toArray, List.getElem_cons_zero, List.getElem_cons_succ, Act.put, List.setIfInBounds_toArray, List.set_cons_zero, List.set_cons_succ])
                | (refine' wpPlan_skip rfl (by rfl) ?_
                   simp only [List.getElem_toArray, List.getElem_cons_zero, List.getElem_cons_succ, Act.put, List.setIfInBounds_toArray, List.set_cons_zero, List.set_cons_succ])
                | (refine' wpPlan_skipHeld rfl (by rfl) ?_
                   simp only [List.getElem_toArray, List.getElem_cons_zero, List.getElem_cons_succ, Act.put, List.setIfInBounds_toArray, List.set_cons_zero, List.set_cons_succ]))
              refine wpPlan_end ?_
              simp only [wpSegs, List.drop_succ_cons, List.drop_zero]
              have NB := Lib.hid (NA.out.fr fd0)
              have p0 := fd0.cell Q.out.1 id
              have p1 := fd0.cell Q.out.2.1 id
              have p2 := fd0.cell Q.out.2.2.1 id
              have p3 := fd0.cell Q.out.2.2.2 id
              go_wp2_with fail
              have fe0 : Fr Non wd wd.drew := (Fr.refl _ _).drew
              have NC := Lib.hid (NB.out.fr fe0)
              have Q2 := Lib.hid (And.intro p0 (And.intro p1 (And.intro p2 p3)))
              clear p0 p1 p2 p3
              refine wp_draw [((fun y => Fr Non wd y), [(.free, 0), (.free, 1), (.free, 2), (.held, 3), (.free, 4), (.free, 5), (.free, 6), (.held, 7), (.free, 8)])] 9 (by kernel_rfl) (by kernel_rfl) (fun _ _ _ _ _ h => h) ⟨fe0, ?_⟩
              generalize wd.drew = we at fe0 NC ⊢
              repeat (first
                | (refine' wpPlan_free (v := _) rfl (by rfl) ?_ ?_
                   rotate_left
                   · (intro w'; (have e1 := E.out); go_simp; try rfl)
                   simp only [List.getElem_toArray, List.getElem_cons_zero, List.getElem_cons_succ, Act.put, List.setIfInBounds_toArray, List.set_cons_zero, List.set_cons_succ])
                | (refine' wpPlan_held (v := _) rfl (by rfl) ?_ ?_
                   rotate_left
                   · (intro w' hS; (have e1 := E.out); (have q0 := hS.cell Q2.out.1 id; have q1 := hS.cell Q2.out.2.1 id; have q2 := hS.cell Q2.out.2.2.1 id; have q3 := hS.cell Q2.out.2.2.2 id; clear hS); go_simp; try rfl)
                   simp only [List.getElem_toArray, List.getElem_cons_zero, List.getElem_cons_succ, Act.put, List.setIfInBounds_toArray, List.set_cons_zero, List.set_cons_succ])
                | (refine' wpPlan_skip rfl (by rfl) ?_
                   simp only [List.getElem_toArray, List.getElem_cons_zero, List.getElem_cons_succ, Act.put, List.setIfInBounds_toArray, List.set_cons_zero, List.set_cons_succ])
                | (refine' wpPlan_skipHeld rfl (by rfl) ?_
                   simp only [List.getElem_toArray, List.getElem_cons_zero, List.getElem_cons_succ, Act.put, List.setIfInBounds_toArray, List.set_cons_zero, List.set_cons_succ]))
              refine wpPlan_end ?_
              simp only [wpSegs, List.drop_succ_cons, List.drop_zero]
              go_wp2_with fail
              go_roundw
              case rel => exact ⟨q + 1, by omega, by go_num, by rw [ST.out]; first | rfl | simp [kStep, HEQ.out, IRR.out], by rw [ST.out]; simpa [kStep, HLB.out, HEQ.out, IRR.out] using NC⟩
              case measure => simp [intOf]; omega
            | false =>
              go_wp2_with fail
              have fd0 : Fr Non wr wr.drew := (Fr.refl _ _).drew
              refine wp_draw [((fun y => Fr Non wr y), [(.free, 0), (.free, 1), (.free, 2), (.free, 3), (.free, 4), (.free, 5), (.held, 6), (.free, 7), (.free, 8), (.free, 9), (.held, 10), (.kept, 11), (.free, 12), (.free, 13)])] 14 (by kernel_rfl) (by kernel_rfl) (fun _ _ _ _ _ h => h) ⟨fd0, ?_⟩
              generalize wr.drew = wd at fd0 ⊢
              repeat (first
                | (refine' wpPlan_free (v := _) rfl (by rfl) ?_ ?_
                   rotate_left
                   · (intro w'; skip; go_simp; try rfl)
                   simp only [List.getElem_toArray, List.getElem_cons_zero, List.getElem_cons_succ, Act.put, List.setIfInBounds_toArray, List.set_cons_zero, List.set_cons_succ])
                | (refine' wpPlan_held (v := _) rfl (by rfl) ?_ ?_
                   rotate_left
                   · (intro w' hS; skip; (have q0 := hS.cell Q.out.1 id; have q1 := hS.cell Q.out.2.1 id; have q2 := hS.cell Q.out.2.2.1 id; have q3 := hS.cell Q.out.2.2.2 id; clear hS); go_simp; try rfl)
                   simp only [List.getElem_toArray, List.getElem_cons_zero, List.getElem_cons_succ, Act.put, List.setIfInBounds_toArray, List.set_cons_zero, List.set_cons_succ])
                | (refine' wpPlan_skip rfl (by rfl) ?_
                   simp only [List.getElem_toArray, List.getElem_cons_zero, List.getElem_cons_succ, Act.put, List.setIfInBounds_toArray, List.set_cons_zero, List.set_cons_succ])
                | (refine' wpPlan_skipHeld rfl (by rfl) ?_
                   simp only [List.getElem_toArray, List.getElem_cons_zero, List.getElem_cons_succ, Act.put, List.setIfInBounds_toArray, List.set_cons_zero, List.set_cons_succ]))
              refine' wpPlan_kept rfl ?_
              intro K hK
              go_simp
              refine (HLS.out _).mono ?_
              rintro e v ⟨rfl, g⟩
              go_simp
              have fd1 := fd0.trans g
              refine hK _ _ ⟨fd1, ?_⟩
              clear hK K fd0 g
              repeat (first
                | (refine' wpPlan_free (v := _) rfl (by rfl) ?_ ?_
                   rotate_left
                   · (intro w'; skip; go_simp; try rfl)
                   simp only [List.getElem_toArray, List.getElem_cons_zero, List.getElem_cons_succ, Act.put, List.setIfInBounds_toArray, List.set_cons_zero, List.set_cons_succ])
                | (refine' wpPlan_held (v := _) rfl (by rfl) ?_ ?_
                   rotate_left
                   · (intro w' hS; skip; skip; go_simp; try rfl)
                   simp only [List.getElem_toArray, List.getElem_cons_zero, List.getElem_cons_succ, Act.put, List.setIfInBounds_toArray, List.set_cons_zero, List.set_cons_succ])
                | (refine' wpPlan_skip rfl (by rfl) ?_
                   simp only [List.getElem_toArray, List.getElem_cons_zero, List.getElem_cons_succ, Act.put, List.setIfInBounds_toArray, List.set_cons_zero, List.set_cons_succ])
                | (refine' wpPlan_skipHeld rfl (by rfl) ?_
                   simp only [List.getElem_toArray, List.getElem_cons_zero, List.getElem_cons_succ, Act.put, List.setIfInBounds_toArray, List.set_cons_zero, List.set_cons_succ]))
              refine wpPlan_end ?_
              simp only [wpSegs, List.drop_succ_cons, List.drop_zero]
              have NB := Lib.hid (NA.out.fr fd1)
              have p0 := fd1.cell Q.out.1 id
              have p1 := fd1.cell Q.out.2.1 id
              have p2 := fd1.cell Q.out.2.2.1 id
              have p3 := fd1.cell Q.out.2.2.2 id
              go_wp2_with (at_builtin; refine wpList_append_g rfl _ _ eI25 rfl u5 S.length (keyCells S) rfl ((NB.out.fr ((Fr.refl _ _).alloc (.cells #[.int .i64 X1, .int .u64 X2] 25))).1) _ 1 [.int .i64 X1, .int .u64 X2] rfl (Src.block (m := 1) (alloc_at v _) rfl ?k5) ?k6 ?k7 ?_)
              case k5 => simp [Value.oneCell']
              case k6 => unfold maxLen; (try simp); omega
              case k7 => (try simp); omega
              intro nxa wza r1 r2 r3
              have NAa := Lib.hid (NB.out.push (x := (X1, X2)) ((Fr.refl _ _).alloc (.cells #[.int .i64 X1, .int .u64 X2] 25)) (by first | exact r1 | simpa using r1) r2 (by simpa using r3))
              clear r1 r2 r3
              have FQ := Lib.hid (NAa.out.2.2)
              clear p0 p1 p2 p3
              have p0 := FQ.out.cell Q1.out.1 id
              have p1 := FQ.out.cell Q1.out.2.1 id
              have p2 := FQ.out.cell Q1.out.2.2.1 id
              have p3 := FQ.out.cell Q1.out.2.2.2 id
              go_wp2_with fail
              have fe0 : Fr Non wza wza.drew := (Fr.refl _ _).drew
              have NC := Lib.hid (NAa.out.fr fe0)
              have Q2 := Lib.hid (And.intro p0 (And.intro p1 (And.intro p2 p3)))
              clear p0 p1 p2 p3
              refine wp_draw [((fun y => Fr Non wza y), [(.free, 0), (.free, 1), (.free, 2), (.held, 3), (.free, 4), (.free, 5), (.free, 6), (.held, 7), (.free, 8)])] 9 (by kernel_rfl) (by kernel_rfl) (fun _ _ _ _ _ h => h) ⟨fe0, ?_⟩
              generalize wza.drew = we at fe0 NC ⊢
              repeat (first
                | (refine' wpPlan_free (v := _) rfl (by rfl) ?_ ?_
                   rotate_left
                   · (intro w'; (have e1 := E.out); go_simp; try rfl)
                   simp only [List.getElem_toArray, List.getElem_cons_zero, List.getElem_cons_succ, Act.put, List.setIfInBounds_toArray, List.set_cons_zero, List.set_cons_succ])
                | (refine' wpPlan_held (v := _) rfl (by rfl) ?_ ?_
                   rotate_left
                   · (intro w' hS; (have e1 := E.out); (have q0 := hS.cell Q2.out.1 id; have q1 := hS.cell Q2.out.2.1 id; have q2 := hS.cell Q2.out.2.2.1 id; have q3 := hS.cell Q2.out.2.2.2 id; clear hS); go_simp; try rfl)
                   simp only [List.getElem_toArray, List.getElem_cons_zero, List.getElem_cons_succ, Act.put, List.setIfInBounds_toArray, List.set_cons_zero, List.set_cons_succ])
                | (refine' wpPlan_skip rfl (by rfl) ?_
                   simp only [List.getElem_toArray, List.getElem_cons_zero, List.getElem_cons_succ, Act.put, List.setIfInBounds_toArray, List.set_cons_zero, List.set_cons_succ])
                | (refine' wpPlan_skipHeld rfl (by rfl) ?_
                   simp only [List.getElem_toArray, List.getElem_cons_zero, List.getElem_cons_succ, Act.put, List.setIfInBounds_toArray, List.set_cons_zero, List.set_cons_succ]))
              refine wpPlan_end ?_
              simp only [wpSegs, List.drop_succ_cons, List.drop_zero]
              go_wp2_with fail
              go_roundw
              case rel => exact ⟨q + 1, by omega, by go_num, by rw [ST.out]; first | rfl | simp [kStep, HEQ.out, IRR.out], by rw [ST.out]; simpa [kStep, HLB.out, HEQ.out, IRR.out] using NC⟩
              case measure => simp [intOf]; omega
          · have HEQ := Lib.hid heq
            rw [decide_eq_false heq] at E
            clear heq
            cases pt with
            | true =>
              go_wp2_with fail
              have fd0 : Fr Non wr wr.drew := (Fr.refl _ _).drew
              refine wp_draw [((fun y => Fr Non wr y), [(.free, 0), (.free, 1), (.free, 2), (.free, 3), (.free, 4), (.free, 5), (.held, 6), (.free, 7), (.free, 8), (.free, 9), (.held, 10), (.kept, 11), (.free, 12), (.free, 13)])] 14 (by kernel_rfl) (by kernel_rfl) (fun _ _ _ _ _ h => h) ⟨fd0, ?_⟩
              generalize wr.drew = wd at fd0 ⊢
              repeat (first
                | (refine' wpPlan_free (v := _) rfl (by rfl) ?_ ?_
                   rotate_left
                   · (intro w'; skip; go_simp; try rfl)
                   simp only [List.getElem_toArray, List.getElem_cons_zero, List.getElem_cons_succ, Act.put, List.setIfInBounds_toArray, List.set_cons_zero, List.set_cons_succ])
                | (refine' wpPlan_held (v := _) rfl (by rfl) ?_ ?_
                   rotate_left
                   · (intro w' hS; skip; (have q0 := hS.cell Q.out.1 id; have q1 := hS.cell Q.out.2.1 id; have q2 := hS.cell Q.out.2.2.1 id; have q3 := hS.cell Q.out.2.2.2 id; clear hS); go_simp; try rfl)
                   simp only [List.getElem_toArray, List.getElem_cons_zero, List.getElem_cons_succ, Act.put, List.setIfInBounds_toArray, List.set_cons_zero, List.set_cons_succ])
                | (refine' wpPlan_skip rfl (by rfl) ?_
                   simp only [List.getElem_toArray, List.getElem_cons_zero, List.getElem_cons_succ, Act.put, List.setIfInBounds_toArray, List.set_cons_zero, List.set_cons_succ])
                | (refine' wpPlan_skipHeld rfl (by rfl) ?_
                   simp only [List.getElem_toArray, List.getElem_cons_zero, List.getElem_cons_succ, Act.put, List.setIfInBounds_toArray, List.set_cons_zero, List.set_cons_succ]))
              refine' wpPlan_kept rfl ?_
              intro K hK
              go_simp
              refine hK _ _ ⟨fd0, ?_⟩
              clear hK K
              repeat (first
                | (refine' wpPlan_free (v := _) rfl (by rfl) ?_ ?_
                   rotate_left
                   · (intro w'; skip; go_simp; try rfl)
                   simp only [List.getElem_toArray, List.getElem_cons_zero, List.getElem_cons_succ, Act.put, List.setIfInBounds_toArray, List.set_cons_zero, List.set_cons_succ])
                | (refine' wpPlan_held (v := _) rfl (by rfl) ?_ ?_
                   rotate_left
                   · (intro w' hS; skip; skip; go_simp; try rfl)
                   simp only [List.getElem_toArray, List.getElem_cons_zero, List.getElem_cons_succ, Act.put, List.setIfInBounds_toArray, List.set_cons_zero, List.set_cons_succ])
                | (refine' wpPlan_skip rfl (by rfl) ?_
                   simp only [List.getElem_toArray, List.getElem_cons_zero, List.getElem_cons_succ, Act.put, List.setIfInBounds_toArray, List.set_cons_zero, List.set_cons_succ])
                | (refine' wpPlan_skipHeld rfl (by rfl) ?_
                   simp only [List.getElem_toArray, List.getElem_cons_zero, List.getElem_cons_succ, Act.put, List.setIfInBounds_toArray, List.set_cons_zero, List.set_cons_succ]))
              refine wpPlan_end ?_
              simp only [wpSegs, List.drop_succ_cons, List.drop_zero]
              have NB := Lib.hid (NA.out.fr fd0)
              have p0 := fd0.cell Q.out.1 id
              have p1 := fd0.cell Q.out.2.1 id
              have p2 := fd0.cell Q.out.2.2.1 id
              have p3 := fd0.cell Q.out.2.2.2 id
              go_wp2_with fail
              have fe0 : Fr Non wd wd.drew := (Fr.refl _ _).drew
              have NC := Lib.hid (NB.out.fr fe0)
              have Q2 := Lib.hid (And.intro p0 (And.intro p1 (And.intro p2 p3)))
              clear p0 p1 p2 p3
              refine wp_draw [((fun y => Fr Non wd y), [(.free, 0), (.free, 1), (.free, 2), (.held, 3), (.free, 4), (.free, 5), (.free, 6), (.held, 7), (.free, 8)])] 9 (by kernel_rfl) (by kernel_rfl) (fun _ _ _ _ _ h => h) ⟨fe0, ?_⟩
              generalize wd.drew = we at fe0 NC ⊢
              repeat (first
                | (refine' wpPlan_free (v := _) rfl (by rfl) ?_ ?_
                   rotate_left
                   · (intro w'; (have e1 := E.out); go_simp; try rfl)
                   simp only [List.getElem_toArray, List.getElem_cons_zero, List.getElem_cons_succ, Act.put, List.setIfInBounds_toArray, List.set_cons_zero, List.set_cons_succ])
                | (refine' wpPlan_held (v := _) rfl (by rfl) ?_ ?_
                   rotate_left
                   · (intro w' hS; (have e1 := E.out); (have q0 := hS.cell Q2.out.1 id; have q1 := hS.cell Q2.out.2.1 id; have q2 := hS.cell Q2.out.2.2.1 id; have q3 := hS.cell Q2.out.2.2.2 id; clear hS); go_simp; try rfl)
                   simp only [List.getElem_toArray, List.getElem_cons_zero, List.getElem_cons_succ, Act.put, List.setIfInBounds_toArray, List.set_cons_zero, List.set_cons_succ])
                | (refine' wpPlan_skip rfl (by rfl) ?_
                   simp only [List.getElem_toArray, List.getElem_cons_zero, List.getElem_cons_succ, Act.put, List.setIfInBounds_toArray, List.set_cons_zero, List.set_cons_succ])
                | (refine' wpPlan_skipHeld rfl (by rfl) ?_
                   simp only [List.getElem_toArray, List.getElem_cons_zero, List.getElem_cons_succ, Act.put, List.setIfInBounds_toArray, List.set_cons_zero, List.set_cons_succ]))
              refine wpPlan_end ?_
              simp only [wpSegs, List.drop_succ_cons, List.drop_zero]
              have p0 := fe0.cell Q2.out.1 id
              have p1 := fe0.cell Q2.out.2.1 id
              go_wp2_with (at_builtin; refine wpList_append_g rfl _ _ eI25 rfl u5 S.length (keyCells S) rfl ((NC.out.fr ((Fr.refl _ _).alloc (.cells #[.int .i64 Y1, .int .u64 Y2] 25))).1) _ 1 [.int .i64 Y1, .int .u64 Y2] rfl (Src.block (m := 1) (alloc_at we _) rfl ?k5) ?k6 ?k7 ?_)
              case k5 => simp [Value.oneCell']
              case k6 => unfold maxLen; (try simp); omega
              case k7 => (try simp); omega
              intro nxb wzb r1 r2 r3
              have NAb := Lib.hid (NC.out.push (x := (Y1, Y2)) ((Fr.refl _ _).alloc (.cells #[.int .i64 Y1, .int .u64 Y2] 25)) (by first | exact r1 | simpa using r1) r2 (by simpa using r3))
              clear r1 r2 r3
              go_wp2_with fail
              go_roundw
              case rel => exact ⟨q + 1, by omega, by go_num, by rw [ST.out]; first | rfl | simp [kStep, HLB.out, HEQ.out], by rw [ST.out]; simpa [kStep, HLB.out, HEQ.out] using NAb⟩
              case measure => simp [intOf]; omega
            | false =>
              cases lb with
              | true =>
                go_wp2_with fail
                have fd0 : Fr Non wr wr.drew := (Fr.refl _ _).drew
                refine wp_draw [((fun y => Fr Non wr y), [(.free, 0), (.free, 1), (.free, 2), (.free, 3), (.free, 4), (.free, 5), (.held, 6), (.free, 7), (.free, 8), (.free, 9), (.held, 10), (.kept, 11), (.free, 12), (.free, 13)])] 14 (by kernel_rfl) (by kernel_rfl) (fun _ _ _ _ _ h => h) ⟨fd0, ?_⟩
                generalize wr.drew = wd at fd0 ⊢
                repeat (first
                  | (refine' wpPlan_free (v := _) rfl (by rfl) ?_ ?_
                     rotate_left
                     · (intro w'; skip; go_simp; try rfl)
                     simp only [List.getElem_toArray, List.getElem_cons_zero, List.getElem_cons_succ, Act.put, List.setIfInBounds_toArray, List.set_cons_zero, List.set_cons_succ])
                  | (refine' wpPlan_held (v := _) rfl (by rfl) ?_ ?_
                     rotate_left
                     · (intro w' hS; skip; (have q0 := hS.cell Q.out.1 id; have q1 := hS.cell Q.out.2.1 id; have q2 := hS.cell Q.out.2.2.1 id; have q3 := hS.cell Q.out.2.2.2 id; clear hS); go_simp; try rfl)
                     simp only [List.getElem_toArray, List.getElem_cons_zero, List.getElem_cons_succ, Act.put, List.setIfInBounds_toArray, List.set_cons_zero, List.set_cons_succ])
                  | (refine' wpPlan_skip rfl (by rfl) ?_
                     simp only [List.getElem_toArray, List.getElem_cons_zero, List.getElem_cons_succ, Act.put, List.setIfInBounds_toArray, List.set_cons_zero, List.set_cons_succ])
                  | (refine' wpPlan_skipHeld rfl (by rfl) ?_
                     simp only [List.getElem_toArray, List.getElem_cons_zero, List.getElem_cons_succ, Act.put, List.setIfInBounds_toArray, List.set_cons_zero, List.set_cons_succ]))
                refine' wpPlan_kept rfl ?_
                intro K hK
                go_simp
                refine (HLS.out _).mono ?_
                rintro e v ⟨rfl, g⟩
                go_simp
                have fd1 := fd0.trans g
                refine hK _ _ ⟨fd1, ?_⟩
                clear hK K fd0 g
                repeat (first
                  | (refine' wpPlan_free (v := _) rfl (by rfl) ?_ ?_
                     rotate_left
                     · (intro w'; skip; go_simp; try rfl)
                     simp only [List.getElem_toArray, List.getElem_cons_zero, List.getElem_cons_succ, Act.put, List.setIfInBounds_toArray, List.set_cons_zero, List.set_cons_succ])
                  | (refine' wpPlan_held (v := _) rfl (by rfl) ?_ ?_
                     rotate_left
                     · (intro w' hS; skip; skip; go_simp; try rfl)
                     simp only [List.getElem_toArray, List.getElem_cons_zero, List.getElem_cons_succ, Act.put, List.setIfInBounds_toArray, List.set_cons_zero, List.set_cons_succ])
                  | (refine' wpPlan_skip rfl (by rfl) ?_
                     simp only [List.getElem_toArray, List.getElem_cons_zero, List.getElem_cons_succ, Act.put, List.setIfInBounds_toArray, List.set_cons_zero, List.set_cons_succ])
                  | (refine' wpPlan_skipHeld rfl (by rfl) ?_
                     simp only [List.getElem_toArray, List.getElem_cons_zero, List.getElem_cons_succ, Act.put, List.setIfInBounds_toArray, List.set_cons_zero, List.set_cons_succ]))
                refine wpPlan_end ?_
                simp only [wpSegs, List.drop_succ_cons, List.drop_zero]
                have NB := Lib.hid (NA.out.fr fd1)
                have p0 := fd1.cell Q.out.1 id
                have p1 := fd1.cell Q.out.2.1 id
                have p2 := fd1.cell Q.out.2.2.1 id
                have p3 := fd1.cell Q.out.2.2.2 id
                go_wp2_with fail
                have fe0 : Fr Non v v.drew := (Fr.refl _ _).drew
                have NC := Lib.hid (NB.out.fr fe0)
                have Q2 := Lib.hid (And.intro p0 (And.intro p1 (And.intro p2 p3)))
                clear p0 p1 p2 p3
                refine wp_draw [((fun y => Fr Non v y), [(.free, 0), (.free, 1), (.free, 2), (.held, 3), (.free, 4), (.free, 5), (.free, 6), (.held, 7), (.free, 8)])] 9 (by kernel_rfl) (by kernel_rfl) (fun _ _ _ _ _ h => h) ⟨fe0, ?_⟩
                generalize v.drew = we at fe0 NC ⊢
                repeat (first
                  | (refine' wpPlan_free (v := _) rfl (by rfl) ?_ ?_
                     rotate_left
                     · (intro w'; (have e1 := E.out); go_simp; try rfl)
                     simp only [List.getElem_toArray, List.getElem_cons_zero, List.getElem_cons_succ, Act.put, List.setIfInBounds_toArray, List.set_cons_zero, List.set_cons_succ])
                  | (refine' wpPlan_held (v := _) rfl (by rfl) ?_ ?_
                     rotate_left
                     · (intro w' hS; (have e1 := E.out); (have q0 := hS.cell Q2.out.1 id; have q1 := hS.cell Q2.out.2.1 id; have q2 := hS.cell Q2.out.2.2.1 id; have q3 := hS.cell Q2.out.2.2.2 id; clear hS); go_simp; try rfl)
                     simp only [List.getElem_toArray, List.getElem_cons_zero, List.getElem_cons_succ, Act.put, List.setIfInBounds_toArray, List.set_cons_zero, List.set_cons_succ])
                  | (refine' wpPlan_skip rfl (by rfl) ?_
                     simp only [List.getElem_toArray, List.getElem_cons_zero, List.getElem_cons_succ, Act.put, List.setIfInBounds_toArray, List.set_cons_zero, List.set_cons_succ])
                  | (refine' wpPlan_skipHeld rfl (by rfl) ?_
                     simp only [List.getElem_toArray, List.getElem_cons_zero, List.getElem_cons_succ, Act.put, List.setIfInBounds_toArray, List.set_cons_zero, List.set_cons_succ]))
                refine wpPlan_end ?_
                simp only [wpSegs, List.drop_succ_cons, List.drop_zero]
                have p0 := fe0.cell Q2.out.1 id
                have p1 := fe0.cell Q2.out.2.1 id
                go_wp2_with (at_builtin; refine wpList_append_g rfl _ _ eI25 rfl u5 S.length (keyCells S) rfl ((NC.out.fr ((Fr.refl _ _).alloc (.cells #[.int .i64 Y1, .int .u64 Y2] 25))).1) _ 1 [.int .i64 Y1, .int .u64 Y2] rfl (Src.block (m := 1) (alloc_at we _) rfl ?k5) ?k6 ?k7 ?_)
                case k5 => simp [Value.oneCell']
                case k6 => unfold maxLen; (try simp); omega
                case k7 => (try simp); omega
                intro nxb wzb r1 r2 r3
                have NAb := Lib.hid (NC.out.push (x := (Y1, Y2)) ((Fr.refl _ _).alloc (.cells #[.int .i64 Y1, .int .u64 Y2] 25)) (by first | exact r1 | simpa using r1) r2 (by simpa using r3))
                clear r1 r2 r3
                go_wp2_with fail
                go_roundw
                case rel => exact ⟨q + 1, by omega, by go_num, by rw [ST.out]; first | rfl | simp [kStep, HLB.out, HEQ.out], by rw [ST.out]; simpa [kStep, HLB.out, HEQ.out] using NAb⟩
                case measure => simp [intOf]; omega
              | false =>
                go_wp2_with fail
                have fd0 : Fr Non wr wr.drew := (Fr.refl _ _).drew
                refine wp_draw [((fun y => Fr Non wr y), [(.free, 0), (.free, 1), (.free, 2), (.free, 3), (.free, 4), (.free, 5), (.held, 6), (.free, 7), (.free, 8), (.free, 9), (.held, 10), (.kept, 11), (.free, 12), (.free, 13)])] 14 (by kernel_rfl) (by kernel_rfl) (fun _ _ _ _ _ h => h) ⟨fd0, ?_⟩
                generalize wr.drew = wd at fd0 ⊢
                repeat (first
                  | (refine' wpPlan_free (v := _) rfl (by rfl) ?_ ?_
                     rotate_left
                     · (intro w'; skip; go_simp; try rfl)
                     simp only [List.getElem_toArray, List.getElem_cons_zero, List.getElem_cons_succ, Act.put, List.setIfInBounds_toArray, List.set_cons_zero, List.set_cons_succ])
                  | (refine' wpPlan_held (v := _) rfl (by rfl) ?_ ?_
                     rotate_left
                     · (intro w' hS; skip; (have q0 := hS.cell Q.out.1 id; have q1 := hS.cell Q.out.2.1 id; have q2 := hS.cell Q.out.2.2.1 id; have q3 := hS.cell Q.out.2.2.2 id; clear hS); go_simp; try rfl)
                     simp only [List.getElem_toArray, List.getElem_cons_zero, List.getElem_cons_succ, Act.put, List.setIfInBounds_toArray, List.set_cons_zero, List.set_cons_succ])
                  | (refine' wpPlan_skip rfl (by rfl) ?_
                     simp only [List.getElem_toArray, List.getElem_cons_zero, List.getElem_cons_succ, Act.put, List.setIfInBounds_toArray, List.set_cons_zero, List.set_cons_succ])
                  | (refine' wpPlan_skipHeld rfl (by rfl) ?_
                     simp only [List.getElem_toArray, List.getElem_cons_zero, List.getElem_cons_succ, Act.put, List.setIfInBounds_toArray, List.set_cons_zero, List.set_cons_succ]))
                refine' wpPlan_kept rfl ?_
                intro K hK
                go_simp
                refine (HLS.out _).mono ?_
                rintro e v ⟨rfl, g⟩
                go_simp
                have fd1 := fd0.trans g
                refine hK _ _ ⟨fd1, ?_⟩
                clear hK K fd0 g
                repeat (first
                  | (refine' wpPlan_free (v := _) rfl (by rfl) ?_ ?_
                     rotate_left
                     · (intro w'; skip; go_simp; try rfl)
                     simp only [List.getElem_toArray, List.getElem_cons_zero, List.getElem_cons_succ, Act.put, List.setIfInBounds_toArray, List.set_cons_zero, List.set_cons_succ])
                  | (refine' wpPlan_held (v := _) rfl (by rfl) ?_ ?_
                     rotate_left
                     · (intro w' hS; skip; skip; go_simp; try rfl)
                     simp only [List.getElem_toArray, List.getElem_cons_zero, List.getElem_cons_succ, Act.put, List.setIfInBounds_toArray, List.set_cons_zero, List.set_cons_succ])
                  | (refine' wpPlan_skip rfl (by rfl) ?_
                     simp only [List.getElem_toArray, List.getElem_cons_zero, List.getElem_cons_succ, Act.put, List.setIfInBounds_toArray, List.set_cons_zero, List.set_cons_succ])
                  | (refine' wpPlan_skipHeld rfl (by rfl) ?_
                     simp only [List.getElem_toArray, List.getElem_cons_zero, List.getElem_cons_succ, Act.put, List.setIfInBounds_toArray, List.set_cons_zero, List.set_cons_succ]))
                refine wpPlan_end ?_
                simp only [wpSegs, List.drop_succ_cons, List.drop_zero]
                have NB := Lib.hid (NA.out.fr fd1)
                have p0 := fd1.cell Q.out.1 id
                have p1 := fd1.cell Q.out.2.1 id
                have p2 := fd1.cell Q.out.2.2.1 id
                have p3 := fd1.cell Q.out.2.2.2 id
                go_wp2_with (at_builtin; refine wpList_append_g rfl _ _ eI25 rfl u5 S.length (keyCells S) rfl ((NB.out.fr ((Fr.refl _ _).alloc (.cells #[.int .i64 X1, .int .u64 X2] 25))).1) _ 1 [.int .i64 X1, .int .u64 X2] rfl (Src.block (m := 1) (alloc_at v _) rfl ?k5) ?k6 ?k7 ?_)
                case k5 => simp [Value.oneCell']
                case k6 => unfold maxLen; (try simp); omega
                case k7 => (try simp); omega
                intro nxa wza r1 r2 r3
                have NAa := Lib.hid (NB.out.push (x := (X1, X2)) ((Fr.refl _ _).alloc (.cells #[.int .i64 X1, .int .u64 X2] 25)) (by first | exact r1 | simpa using r1) r2 (by simpa using r3))
                clear r1 r2 r3
                have FQ := Lib.hid (NAa.out.2.2)
                clear p0 p1 p2 p3
                have p0 := FQ.out.cell Q1.out.1 id
                have p1 := FQ.out.cell Q1.out.2.1 id
                have p2 := FQ.out.cell Q1.out.2.2.1 id
                have p3 := FQ.out.cell Q1.out.2.2.2 id
                go_wp2_with fail
                have fe0 : Fr Non wza wza.drew := (Fr.refl _ _).drew
                have NC := Lib.hid (NAa.out.fr fe0)
                have Q2 := Lib.hid (And.intro p0 (And.intro p1 (And.intro p2 p3)))
                clear p0 p1 p2 p3
                refine wp_draw [((fun y => Fr Non wza y), [(.free, 0), (.free, 1), (.free, 2), (.held, 3), (.free, 4), (.free, 5), (.free, 6), (.held, 7), (.free, 8)])] 9 (by kernel_rfl) (by kernel_rfl) (fun _ _ _ _ _ h => h) ⟨fe0, ?_⟩
                generalize wza.drew = we at fe0 NC ⊢
                repeat (first
                  | (refine' wpPlan_free (v := _) rfl (by rfl) ?_ ?_
                     rotate_left
                     · (intro w'; (have e1 := E.out); go_simp; try rfl)
                     simp only [List.getElem_toArray, List.getElem_cons_zero, List.getElem_cons_succ, Act.put, List.setIfInBounds_toArray, List.set_cons_zero, List.set_cons_succ])
                  | (refine' wpPlan_held (v := _) rfl (by rfl) ?_ ?_
                     rotate_left
                     · (intro w' hS; (have e1 := E.out); (have q0 := hS.cell Q2.out.1 id; have q1 := hS.cell Q2.out.2.1 id; have q2 := hS.cell Q2.out.2.2.1 id; have q3 := hS.cell Q2.out.2.2.2 id; clear hS); go_simp; try rfl)
                     simp only [List.getElem_toArray, List.getElem_cons_zero, List.getElem_cons_succ, Act.put, List.setIfInBounds_toArray, List.set_cons_zero, List.set_cons_succ])
                  | (refine' wpPlan_skip rfl (by rfl) ?_
                     simp only [List.getElem_toArray, List.getElem_cons_zero, List.getElem_cons_succ, Act.put, List.setIfInBounds_toArray, List.set_cons_zero, List.set_cons_succ])
                  | (refine' wpPlan_skipHeld rfl (by rfl) ?_
                     simp only [List.getElem_toArray, List.getElem_cons_zero, List.getElem_cons_succ, Act.put, List.setIfInBounds_toArray, List.set_cons_zero, List.set_cons_succ]))
                refine wpPlan_end ?_
                simp only [wpSegs, List.drop_succ_cons, List.drop_zero]
                have p0 := fe0.cell Q2.out.1 id
                have p1 := fe0.cell Q2.out.2.1 id
                go_wp2_with (at_builtin; refine wpList_append_g rfl _ _ eI25 rfl nxa (S ++ [(X1, X2)]).length (keyCells (S ++ [(X1, X2)])) rfl ((NC.out.fr ((Fr.refl _ _).alloc (.cells #[.int .i64 Y1, .int .u64 Y2] 25))).1) _ 1 [.int .i64 Y1, .int .u64 Y2] rfl (Src.block (m := 1) (alloc_at we _) rfl ?k5) ?k6 ?k7 ?_)
                case k5 => simp [Value.oneCell']
                case k6 => unfold maxLen; (try simp); omega
                case k7 => (try simp); omega
                intro nxb wzb r1 r2 r3
                have NAb := Lib.hid (NC.out.push (x := (Y1, Y2)) ((Fr.refl _ _).alloc (.cells #[.int .i64 Y1, .int .u64 Y2] 25)) (by first | exact r1 | simpa using r1) r2 (by simpa using r3))
                clear r1 r2 r3
                go_wp2_with fail
                go_roundw
                case rel => exact ⟨q + 1, by omega, by go_num, by rw [ST.out]; first | rfl | simp [kStep, HLB.out, HEQ.out], by rw [ST.out]; simpa [kStep, HLB.out, HEQ.out] using NAb⟩
                case measure => simp [intOf]; omega
        · obtain rfl : q = O.length := by omega
          have SE := Lib.hid (kSt_end (X1, X2) O)
          have hsl := kSt_len (X1, X2) O O.length (Nat.le_refl _)
          obtain ⟨P, hP⟩ : ∃ P, kSt (X1, X2) O O.length = P := ⟨_, rfl⟩
          rw [hP] at HN SE hsl ⊢
          obtain ⟨S, pt⟩ := P
          simp only at hsl ⊢
          have NA : Hid (NextAt wo wr u5 S) := Lib.hid HN.out
          have FW := NA.out.2.2
          have p0 := FW.cell X0.out.1 id
          have p1 := FW.cell X0.out.2 id
          have sl : S.length ≤ 200 := by omega
          clear hP HN hsl hq2 FW
          cases pt with
          | true =>
            have HI2 : Hid (Keys wr u5 (kRSort (l.take (j + 1))) ∧ Fr Non w wr) := Lib.hid ⟨by rw [XN.out, ← SE.out]; simpa using NA.out.1, HF.out.trans NA.out.2.2⟩
            clear SE NA p0 p1
            go_wp2_with fail
            go_roundw
            case rel => exact ⟨j + 1, by omega, by go_num, HI2⟩
            case measure => simp [intOf]; omega
          | false =>
            go_wp2_with (at_builtin; refine wpList_append_g rfl _ _ eI25 rfl u5 S.length (keyCells S) rfl ((NA.out.fr ((Fr.refl _ _).alloc (.cells #[.int .i64 X1, .int .u64 X2] 25))).1) _ 1 [.int .i64 X1, .int .u64 X2] rfl (Src.block (m := 1) (alloc_at wr _) rfl ?k5) ?k6 ?k7 ?_)
            case k5 => simp [Value.oneCell']
            case k6 => unfold maxLen; (try simp); omega
            case k7 => (try simp); omega
            intro nxc wzc r1 r2 r3
            have NAc := Lib.hid (NA.out.push (x := (X1, X2)) ((Fr.refl _ _).alloc (.cells #[.int .i64 X1, .int .u64 X2] 25)) (by first | exact r1 | simpa using r1) r2 (by simpa using r3))
            clear r1 r2 r3
            have HI2 : Hid (Keys wzc nxc (kRSort (l.take (j + 1))) ∧ Fr Non w wzc) := Lib.hid ⟨by rw [XN.out, ← SE.out]; simpa using NAc.out.1, HF.out.trans NAc.out.2.2⟩
            clear SE NA NAc p0 p1
            go_wp2_with fail
            go_roundw
            case rel => exact ⟨j + 1, by omega, by go_num, HI2⟩
            case measure => simp [intOf]; omega
    · obtain rfl : j = l.length := by omega
      have HT := Lib.hid (List.take_length (l := l))
      go_wp2_with fail
      go_ret
      exact ⟨_, by trivial, by have := HI.out.1; rw [HT.out] at this; exact this, HI.out.2⟩
end Go.Proofs.YthjfnpojelfekaaDoor
