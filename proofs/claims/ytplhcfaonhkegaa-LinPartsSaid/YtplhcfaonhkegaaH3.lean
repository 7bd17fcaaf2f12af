/-
  Boxes of what happened; within, gone.
-/
import Derived.Test.YtplhcfaonhkegaaH2
namespace Go.Proofs.Ytplhcfaonhkegaa
open Go.RowKit Go.Maps

/-- A variable that holds what happened. -/
def BoxH (w : World) (b : Nat) (x : MHap) (V : Value) : Prop :=
  ∃ cs : List Value, V = .agg cs.toArray ∧ HapV All w V x ∧ w.heap[b]? = some (.cells cs.toArray 76 (0, 0))
theorem BoxH.fr {w w' : World} {b : Nat} {x : MHap} {V : Value} (h : BoxH w b x V) (f : Fr Non w w') : BoxH w' b x V := by
  obtain ⟨cs, e, h1, h2⟩ := h
  exact ⟨cs, e, h1.stay f, f.heap h2 id⟩
theorem BoxH.made {w : World} {x : MHap} {cs : List Value} (h : HapV All w (.agg cs.toArray) x) : BoxH (w.alloc (.cells cs.toArray 76)) w.heap.size x (.agg cs.toArray) :=
  ⟨cs, rfl, h.stay ((Fr.refl _ _).alloc _), alloc_at w _⟩
theorem HapV.size {S : Nat → Prop} {w : World} {V : Value} {x : MHap} (h : HapV S w V x) : ∃ cs : List Value, V = .agg cs.toArray ∧ cs.length = 23 ∧ cs[0]? = some (.int .i64 x.1.1) ∧ cs[1]? = some (.int .u64 x.1.2.1) ∧ cs[2]? = some (.int .u64 x.1.2.2.1) ∧ cs[4]? = some (.int .i64 x.2.1.1) ∧
    cs[19]? = some (.int .i64 x.2.2.1) ∧ cs[20]? = some (.int .i64 x.2.2.2.1) ∧ cs[21]? = some (.bool x.2.2.2.2.1) ∧ cs[22]? = some (.bool x.2.2.2.2.2) := by
  obtain ⟨a0, n0, a1, n1, a2, n2, rfl, _⟩ := h
  exact ⟨_, rfl, by simp [hapCells, resCells, refCells], rfl, rfl, rfl, rfl, rfl, rfl, rfl, rfl⟩
theorem HapV.slices {S : Nat → Prop} {w : World} {cs : List Value} {x : MHap} (h : HapV S w (.agg cs.toArray) x) : ∃ a0 n0 a2 n2, cs[3]? = some (.slice a0 x.1.2.2.2.length n0) ∧ cs[7]? = some (.slice a2 x.2.1.2.2.2.1.length n2) ∧
    Sl kByte S w (.slice a0 x.1.2.2.2.length n0) x.1.2.2.2 ∧ Sl kItem S w (.slice a2 x.2.1.2.2.2.1.length n2) x.2.1.2.2.2.1 := by
  obtain ⟨a0, n0, a1, n1, a2, n2, e, h0, h1, h2⟩ := h
  have e2 : cs = hapCells x (.slice a0 x.1.2.2.2.length n0) (.slice a1 x.2.1.2.2.1.length n1) (.slice a2 x.2.1.2.2.2.1.length n2) := by
    have := congrArg (fun v : Value => match v with | .agg c => c.toList | _ => []) e
    simpa using this
  subst e2
  exact ⟨a0, n0, a2, n2, rfl, rfl, h0, h2⟩

theorem size76 : (Try.prog.info? 76).map (·.size) = some 23 := by kernel_rfl
theorem size129 : (Try.prog.info? 129).map (·.size) = some 24 := by kernel_rfl
theorem BoxH.cell {w : World} {b : Nat} {cs : List Value} (h : w.heap[b]? = some (.cells cs.toArray 76 (0, 0))) {j : Nat} {v : Value} (hj : cs[j]? = some v) : w.cell? ⟨b, j, none⟩ = some v := by
  rw [cell_of_row w b j _ _ _ h]
  simpa using hj
/-- What is read of it. -/
theorem BoxH.facts {w : World} {b : Nat} {x : MHap} {V : Value} (h : BoxH w b x V) : HapV All w V x ∧ (Instr.loadAt 76 (.pointer (some ⟨b, 0, none⟩))).run Try.prog w = .ok V w ∧
    w.cell? ⟨b, 0, none⟩ = some (.int .i64 x.1.1) ∧ w.cell? ⟨b, 1, none⟩ = some (.int .u64 x.1.2.1) ∧ w.cell? ⟨b, 2, none⟩ = some (.int .u64 x.1.2.2.1) ∧ w.cell? ⟨b, 4, none⟩ = some (.int .i64 x.2.1.1) ∧
    w.cell? ⟨b, 19, none⟩ = some (.int .i64 x.2.2.1) ∧ w.cell? ⟨b, 20, none⟩ = some (.int .i64 x.2.2.2.1) ∧ w.cell? ⟨b, 21, none⟩ = some (.bool x.2.2.2.2.1) ∧ w.cell? ⟨b, 22, none⟩ = some (.bool x.2.2.2.2.2) := by
  obtain ⟨cs, rfl, h1, h2⟩ := h
  have hc : ∀ j v, cs[j]? = some v → w.cell? ⟨b, j, none⟩ = some v := fun j v hv => BoxH.cell h2 hv
  obtain ⟨cs', e, g, g0, g1, g2, g4, g19, g20, g21, g22⟩ := h1.size
  have e2 : cs' = cs := by
    have := congrArg (fun v : Value => match v with | .agg c => c.toList | _ => []) e
    simpa using this.symm
  subst e2
  refine ⟨h1, run_loadAt_list _ _ Try.underlying76 rfl (by rw [g]; exact size76) (fun j v hv => by rw [Nat.zero_add]; exact hc j v hv), hc _ _ g0, hc _ _ g1, hc _ _ g2, hc _ _ g4, hc _ _ g19, hc _ _ g20, hc _ _ g21, hc _ _ g22⟩

/-- A row and one of what happened, as a value. -/
def AskV (w : World) (l : List MHap) (lv : Value) (r : MHap) (V AV : Value) : Prop :=
  ∃ cs ac : List Value, ac = lv :: cs ∧ V = .agg cs.toArray ∧ AV = .agg ac.toArray ∧ HapV All w V r ∧ Sl kHap All w lv l
theorem AskV.stay {w w' : World} {l : List MHap} {lv : Value} {r : MHap} {V AV : Value} (h : AskV w l lv r V AV) (f : Fr Non w w') : AskV w' l lv r V AV := by
  obtain ⟨cs, ac, e0, e, e1, h1, h2⟩ := h
  exact ⟨cs, ac, e0, e, e1, h1.stay f, h2.stay f⟩
/-- A variable that holds it. -/
def BoxA (w : World) (b : Nat) (l : List MHap) (lv : Value) (r : MHap) (V AV : Value) : Prop :=
  ∃ ac : List Value, AV = .agg ac.toArray ∧ AskV w l lv r V AV ∧ w.heap[b]? = some (.cells ac.toArray 129 (0, 0))
theorem BoxA.fr {w w' : World} {b : Nat} {l : List MHap} {lv : Value} {r : MHap} {V AV : Value} (h : BoxA w b l lv r V AV) (f : Fr Non w w') : BoxA w' b l lv r V AV := by
  obtain ⟨ac, e, h1, h3⟩ := h
  exact ⟨ac, e, h1.stay f, f.heap h3 id⟩
theorem BoxA.facts {w : World} {b : Nat} {l : List MHap} {lv : Value} {r : MHap} {V AV : Value} (h : BoxA w b l lv r V AV) : HapV All w V r ∧ Sl kHap All w lv l ∧ (Instr.loadAt 129 (.pointer (some ⟨b, 0, none⟩))).run Try.prog w = .ok AV w ∧
    (Instr.loadAt 76 (.pointer (some ⟨b, 1, none⟩))).run Try.prog w = .ok V w ∧ w.cell? ⟨b, 0, none⟩ = some lv ∧
    w.cell? ⟨b, 2, none⟩ = some (.int .u64 r.1.2.1) ∧ w.cell? ⟨b, 3, none⟩ = some (.int .u64 r.1.2.2.1) ∧ w.cell? ⟨b, 20, none⟩ = some (.int .i64 r.2.2.1) ∧ w.cell? ⟨b, 21, none⟩ = some (.int .i64 r.2.2.2.1) := by
  obtain ⟨ac, e, ⟨cs, ac', e0, rfl, e1, h1, h2⟩, h3⟩ := h
  have e3 : ac' = ac := by
    rw [e] at e1
    have := congrArg (fun v : Value => match v with | .agg c => c.toList | _ => []) e1
    simpa using this.symm
  subst e3 e0 e
  have hc : ∀ j v, (lv :: cs)[j]? = some v → w.cell? ⟨b, j, none⟩ = some v := fun j v hv => by
    rw [cell_of_row w b j _ _ _ h3]
    simpa using hv
  obtain ⟨cs', e, g, g0, g1, g2, g4, g19, g20, g21, g22⟩ := h1.size
  have e2 : cs' = cs := by
    have := congrArg (fun v : Value => match v with | .agg c => c.toList | _ => []) e
    simpa using this.symm
  subst e2
  refine ⟨h1, h2, run_loadAt_list _ _ Try.underlying129 rfl (by rw [List.length_cons, g]; exact size129) (fun j v hv => by rw [Nat.zero_add]; exact hc j v hv),
    run_loadAt_list _ _ Try.underlying76 rfl (by rw [g]; exact size76) (fun j v hv => hc (1 + j) v (by rw [Nat.add_comm]; exact hv)), hc 0 _ rfl, hc 2 _ g1, hc 3 _ g2, hc 20 _ g19, hc 21 _ g20⟩

set_option maxRecDepth 100000 in
set_option maxHeartbeats 2000000 in
theorem within1_any {w : World} {v : Value} {x : MHap} (hx : HapV All w v x) {b1 b2 : Nat} {put : MHap} {PV : Value} (hp : BoxH w b1 put PV) {l : List MHap} {lv : Value} {r : MHap} {RV AV : Value} (hr : BoxA w b2 l lv r RV AV) :
    Calls Try.prog 143 #[v, .pointer (some ⟨b1, 0, none⟩), .pointer (some ⟨b2, 0, none⟩)] w fun e w' => e = .returned (.bool (hWithin1 r put x)) ∧ Fr Non w w' := by
  obtain ⟨cs, rfl, hlen, _⟩ := hx.size
  have f0 : Fr Non w (w.alloc (.cells cs.toArray 76)) := (Fr.refl _ _).alloc _
  have BX := Lib.hid (BoxH.made hx)
  have BP := Lib.hid (hp.fr f0)
  have BR := Lib.hid (hr.fr f0)
  clear hx hp hr
  unfold hWithin1
  obtain ⟨C, hC⟩ : ∃ C, w.heap.size = C := ⟨_, rfl⟩
  have ld0 := BX.out.facts.2.1
  rw [hC] at ld0
  have LD0 := Lib.hid ld0
  rw [hC] at BX
  clear ld0
  go_enter Try.func143, Try.ntmps143
  go_wp2_with (refine wpList_load_w 76 (.pointer (some ⟨C, 0, none⟩)) (.agg cs.toArray) LD0.out _ rfl rfl (by rfl) ?_)
  generalize (w.alloc (.cells cs.toArray 76)) = w1 at BX BP BR f0 ⊢
  refine (hdone_any BX.out.facts.1 2).mono ?_
  rintro e w2 ⟨rfl, f2⟩
  obtain ⟨hx2, ldx, x0, x1, x2, x4, x19, x20, x21, x22⟩ := (BX.out.fr f2).facts
  obtain ⟨hp2, ldp, p0, p1, p2, p4, p19, p20, p21, p22⟩ := (BP.out.fr f2).facts
  obtain ⟨hr2, _, lda, ldr, a0, a2, a3, a20, a21⟩ := (BR.out.fr f2).facts
  have LDX := Lib.hid ldx
  have LDP := Lib.hid ldp
  clear ldx ldp lda ldr
  obtain ⟨d, hd⟩ : ∃ d, hDone x 2 = d := ⟨_, rfl⟩
  rw [hd]
  have HD := Lib.hid hd
  clear hd
  cases d with
  | false =>
    go_wp2_with fail
    go_ret
    exact ⟨by rw [HD.out]; rfl, f0.trans f2⟩
  | true =>
    by_cases hk : x.1.2.1 = put.1.2.1
    rotate_left
    · have n1 : (x.1.2.1 == put.1.2.1) = false := by simpa using hk
      have HN := Lib.hid hk
      clear hk
      go_wp2_with fail
      go_ret
      exact ⟨by rw [HD.out, decide_eq_false HN.out]; rfl, f0.trans f2⟩
    have n1 : (x.1.2.1 == put.1.2.1) = true := by simpa using hk
    have HN := Lib.hid hk
    clear hk
    go_wp2_with (first | (refine wpList_load_w 76 (.pointer (some ⟨C, 0, none⟩)) _ LDX.out _ rfl rfl (by rfl) ?_) | (refine wpList_load_w 76 (.pointer (some ⟨b1, 0, none⟩)) _ LDP.out _ rfl rfl (by rfl) ?_))
    refine (hahead_any hx2 hp2).mono ?_
    rintro e w3 ⟨rfl, f3⟩
    have f23 := f2.trans f3
    clear x0 x1 x2 x4 x19 x20 x21 x22 p0 p1 p2 p4 p19 p20 p21 p22 a0 a2 a3 a20 a21
    obtain ⟨_, _, x0, x1, x2, x4, x19, _⟩ := (BX.out.fr f23).facts
    obtain ⟨_, _, _, _, a0, a2, a3, a20, a21⟩ := (BR.out.fr f23).facts
    obtain ⟨d, hd⟩ : ∃ d, hAhead x put = d := ⟨_, rfl⟩
    rw [hd]
    have HE := Lib.hid hd
    clear hd
    cases d with
    | true =>
      go_wp2_with fail
      go_ret
      exact ⟨by rw [HE.out]; simp, f0.trans f23⟩
    | false =>
      go_wp2_with fail
      go_ret
      exact ⟨by rw [HD.out, HE.out, decide_eq_true HN.out]; simp, f0.trans f23⟩

set_option maxRecDepth 100000 in
set_option maxHeartbeats 2000000 in
theorem gone1_any {w : World} {v : Value} {x : MHap} (hx : HapV All w v x) {b1 b2 : Nat} {put : MHap} {PV : Value} (hp : BoxH w b1 put PV) {l : List MHap} {lv : Value} {r : MHap} {RV AV : Value} (hr : BoxA w b2 l lv r RV AV) :
    Calls Try.prog 142 #[v, .pointer (some ⟨b1, 0, none⟩), .pointer (some ⟨b2, 0, none⟩)] w fun e w' => e = .returned (.bool (hGone1 r put x)) ∧ Fr Non w w' := by
  obtain ⟨cs, rfl, hlen, _⟩ := hx.size
  have f0 : Fr Non w (w.alloc (.cells cs.toArray 76)) := (Fr.refl _ _).alloc _
  have BX := Lib.hid (BoxH.made hx)
  have BP := Lib.hid (hp.fr f0)
  have BR := Lib.hid (hr.fr f0)
  clear hx hp hr
  unfold hGone1
  obtain ⟨C, hC⟩ : ∃ C, w.heap.size = C := ⟨_, rfl⟩
  have ld0 := BX.out.facts.2.1
  rw [hC] at ld0
  have LD0 := Lib.hid ld0
  rw [hC] at BX
  clear ld0
  go_enter Try.func142, Try.ntmps142
  go_wp2_with (refine wpList_load_w 76 (.pointer (some ⟨C, 0, none⟩)) (.agg cs.toArray) LD0.out _ rfl rfl (by rfl) ?_)
  generalize (w.alloc (.cells cs.toArray 76)) = w1 at BX BP BR f0 ⊢
  refine (hdone_any BX.out.facts.1 2).mono ?_
  rintro e w2 ⟨rfl, f2⟩
  have LDX := Lib.hid ((BX.out.fr f2).facts.2.1)
  obtain ⟨d, hd⟩ : ∃ d, hDone x 2 = d := ⟨_, rfl⟩
  rw [hd]
  have HD := Lib.hid hd
  clear hd
  cases d with
  | false =>
    go_wp2_with fail
    go_ret
    exact ⟨by rw [HD.out]; rfl, f0.trans f2⟩
  | true =>
    go_wp2_with (refine wpList_load_w 76 (.pointer (some ⟨C, 0, none⟩)) _ LDX.out _ rfl rfl (by rfl) ?_)
    refine (hsure_any (BX.out.fr f2).facts.1).mono ?_
    rintro e w3 ⟨rfl, f3⟩
    have f23 := f2.trans f3
    clear LDX
    obtain ⟨d, hd⟩ : ∃ d, hSure x = d := ⟨_, rfl⟩
    rw [hd]
    have HE := Lib.hid hd
    clear hd
    cases d with
    | false =>
      go_wp2_with fail
      go_ret
      exact ⟨by rw [HD.out, HE.out]; rfl, f0.trans f23⟩
    | true =>
      obtain ⟨hx2, ldx, x0, x1, x2, x4, x19, x20, x21, x22⟩ := (BX.out.fr f23).facts
      obtain ⟨hp2, ldp, p0, p1, p2, p4, p19, p20, p21, p22⟩ := (BP.out.fr f23).facts
      have LDX := Lib.hid ldx
      have LDP := Lib.hid ldp
      clear ldx ldp
      by_cases hk : x.1.2.1 = put.1.2.1
      rotate_left
      · have n1 : (x.1.2.1 == put.1.2.1) = false := by simpa using hk
        have HN := Lib.hid hk
        clear hk
        go_wp2_with fail
        go_ret
        exact ⟨by rw [HD.out, HE.out, decide_eq_false HN.out]; rfl, f0.trans f23⟩
      have n1 : (x.1.2.1 == put.1.2.1) = true := by simpa using hk
      have HN := Lib.hid hk
      clear hk
      go_wp2_with (first | (refine wpList_load_w 76 (.pointer (some ⟨C, 0, none⟩)) _ LDX.out _ rfl rfl (by rfl) ?_) | (refine wpList_load_w 76 (.pointer (some ⟨b1, 0, none⟩)) _ LDP.out _ rfl rfl (by rfl) ?_))
      refine (hahead_any hp2 hx2).mono ?_
      rintro e w4 ⟨rfl, f4⟩
      have f24 := f23.trans f4
      clear x0 x1 x2 x4 x19 x20 x21 x22 p0 p1 p2 p4 p19 p20 p21 p22 LDX LDP
      obtain ⟨hx3, ldx, _⟩ := (BX.out.fr f24).facts
      obtain ⟨hr3, _, _, ldr, _⟩ := (BR.out.fr f24).facts
      have LDX := Lib.hid ldx
      have LDR := Lib.hid ldr
      clear ldx ldr
      obtain ⟨d, hd⟩ : ∃ d, hAhead put x = d := ⟨_, rfl⟩
      rw [hd]
      have HF := Lib.hid hd
      clear hd
      cases d with
      | false =>
        go_wp2_with fail
        go_ret
        exact ⟨by rw [HD.out, HE.out, HF.out]; simp, f0.trans f24⟩
      | true =>
        go_wp2_with (first | (refine wpList_load_w 76 (.pointer (some ⟨C, 0, none⟩)) _ LDX.out _ rfl rfl (by rfl) ?_) | (refine wpList_load_w 76 (.pointer (some ⟨b2, 1, none⟩)) _ LDR.out _ rfl rfl (by rfl) ?_))
        refine (hahead_any hx3 hr3).mono ?_
        rintro e w5 ⟨rfl, f5⟩
        obtain ⟨d, hd⟩ : ∃ d, hAhead x r = d := ⟨_, rfl⟩
        rw [hd]
        have HG := Lib.hid hd
        clear hd
        go_wp2_with fail
        go_ret
        exact ⟨by rw [HD.out, HE.out, HF.out, HG.out, decide_eq_true HN.out]; simp, f0.trans (f24.trans f5)⟩
end Go.Proofs.Ytplhcfaonhkegaa
