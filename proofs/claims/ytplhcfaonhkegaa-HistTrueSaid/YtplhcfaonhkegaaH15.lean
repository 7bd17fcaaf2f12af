/-
  Call: one is noted.
-/
import Derived.Test.YtplhcfaonhkegaaH14
namespace Go.Proofs.Ytplhcfaonhkegaa
open Go.RowKit Go.Maps

theorem call_put {S S' : Nat → Prop} {w w' : World} {a b c v v' : Value} {x : MCall} (h : kCall.rd S w [a, b, c, v] x) (hv : Sl kByte S' w' v' x.2.2.2) : kCall.rd S' w' [a, b, c, v'] x := by
  obtain ⟨c1, c2, e, ⟨rfl, h1⟩, d1, d2, rfl, ⟨rfl, h2⟩, e1, e2, rfl, ⟨rfl, h3⟩, ⟨u, rfl, hu, hB⟩⟩ := h
  cases e
  exact ⟨_, _, rfl, ⟨rfl, h1⟩, _, _, rfl, ⟨rfl, h2⟩, _, _, rfl, ⟨rfl, h3⟩, v', rfl, hv, hB⟩
theorem hap_note {S : Nat → Prop} {w : World} {cs : List Value} {x : MCall} {n : Int} (h : kCall.rd S w cs x) (hn : (Lit.int .i64 n).wf = true) :
    kHap.rd S w (cs ++ (resCells (mErr 0) (.slice none 0 0) (.slice none 0 0) ++ [.int .i64 n, .int .i64 0, .bool true, .bool false])) (x, mErr 0, n, 0, true, false) :=
  ⟨cs, _, rfl, h, _, _, rfl, cells_res (by decide) (by simp) (.inl ⟨rfl, rfl⟩) (by simp) (.inl ⟨rfl, rfl⟩) (by simp), [_], _, rfl, ⟨rfl, hn⟩, [_], _, rfl, ⟨rfl, by show (Lit.int .i64 0).wf = true; decide⟩, [_], _, rfl, rfl, rfl⟩
theorem GRow.len_run {w0 : World} {e : TypeId} {sz : Nat} {v : Value} {n : Nat} {xs : List Value} (h : GRow w0 e sz v n xs) {t : TypeId} (ht : Try.prog.underlying t = some (.slice e)) (ty : TypeId) (w : World) : (Builtin.len_ #[t] ty #[v]).run Try.prog w = .ok (goInt n) w := by
  obtain ⟨a, c, rfl⟩ := h.form
  simp [Builtin.len_, run_underlying ht]
theorem hOpen_len {s : MHist} (hok : HistOk s) : (hOpens s.2).length ≤ 65536 := by have := hok.len; have := hok.most; have := hOpens_len s.2; omega

/-- What Call leaves. -/
def CallEnd (c : Nat → Nat) (k : Nat) (w : World) (hb : Nat) (r : Int × MHist) (e : Ending) (w' : World) : Prop :=
  e = .returned (.int .i64 r.1) ∧ Fr (fun b => c b = k) w w' ∧ ∃ c', HistAt c' k w' hb r.2 ∧ ∀ b, b < w.heap.size → c' b = c b
theorem CallEnd.same {c : Nat → Nat} {k : Nat} {w w' : World} {hb : Nat} {s : MHist} (h : HistAt c k w hb s) (x : Int) (f : Fr Non w w') : CallEnd c k w hb (x, s) (.returned (.int .i64 x)) w' :=
  ⟨rfl, f.mono (fun _ _ h => h.elim), c, h.fr f (fun _ _ h => h.elim) (fun _ _ => rfl), fun _ _ => rfl⟩

set_option maxRecDepth 100000 in
set_option maxHeartbeats 4000000 in
theorem call_no {c : Nat → Nat} {k : Nat} {w : World} {hb : Nat} {s : MHist} (h : HistAt c k w hb s) (hok : HistOk s) (q : Int) (hid : (Lit.int .i64 q).wf = true) (x : MCall) (va : Option Addr) (vc : Nat)
    (hno : ((hOpenAt q s.2).isSome || (!mCallOk x || decide (65536 ≤ s.1))) = true) :
    Calls Try.prog 45 #[.pointer (some ⟨hb, 0, none⟩), .int .i64 q, .agg #[.int .i64 x.1, .int .u64 x.2.1, .int .u64 x.2.2.1, .slice va x.2.2.2.length vc]] w (CallEnd c k w hb (hCall s q x)) := by
  obtain ⟨lv, ov, m, n, cs, h1, h2, h3, h4, h5, h6, _⟩ := id h
  obtain ⟨w0, hw0⟩ : ∃ w0, w.alloc (.cells #[.int .i64 x.1, .int .u64 x.2.1, .int .u64 x.2.2.1, .slice va x.2.2.2.length vc] 39) = w0 := ⟨_, rfl⟩
  have f0 : Fr Non w w0 := by rw [← hw0]; exact (Fr.refl _ _).alloc _
  have g1 := f0.heap h1 id
  have m1 := made_any g1
  have hlk := (h5.keep (f0.block m h5.lt id)).look (t := 93) Try.underlying93 Try.underlying3 Try.underlying3 (by rfl) q hid
  have hf : (hMap s.2 q).isSome = (hOpenAt q s.2).isSome := by unfold hMap; cases hOpenAt q s.2 <;> rfl
  rw [hf] at hlk
  have b1 : w0.heap[w.heap.size]? = some (.cells #[.int .i64 x.1, .int .u64 x.2.1, .int .u64 x.2.2.1, .slice va x.2.2.2.length vc] 39 (0, 0)) := by rw [← hw0]; exact alloc_at w _
  obtain ⟨C, hC⟩ : ∃ C, w.heap.size = C := ⟨_, rfl⟩
  rw [hC] at b1
  obtain ⟨x0, z0⟩ := box_facts g1
  have c2 : w0.cell? ⟨hb, 2, none⟩ = some (.map (some m)) := by rw [x0]; rfl
  obtain ⟨y0, _⟩ := box_facts b1
  have d0 : w0.cell? ⟨C, 0, none⟩ = some (.int .i64 x.1) := by rw [y0]; rfl
  have d1 : w0.cell? ⟨C, 1, none⟩ = some (.int .u64 x.2.1) := by rw [y0]; rfl
  have d2 : w0.cell? ⟨C, 2, none⟩ = some (.int .u64 x.2.2.1) := by rw [y0]; rfl
  have d3 : w0.cell? ⟨C, 3, none⟩ = some (.slice va x.2.2.2.length vc) := by rw [y0]; rfl
  have HG := Lib.hid g1
  have HM := Lib.hid m1
  have HH := Lib.hid h
  have HN := Lib.hid hno
  have HK := Lib.hid hok.most
  clear x0 z0 y0 b1 g1 m1 h h1 h2 h3 h4 h5 hf hok hno
  cases ho : hOpenAt q s.2 with
  | some i =>
    rw [ho] at hlk
    have HO := Lib.hid ho
    clear ho
    simp only [Option.isSome_some] at hlk
    go_enter Try.func45, Try.ntmps45
    go_wp2_with fail
    (try rw [hw0])
    refine HM.out.mono ?_
    rintro e w' ⟨rfl, rfl⟩
    go_wp2_with fail
    go_ret
    rw [show hCall s q x = (220, s) by unfold hCall; rw [HO.out]]
    exact CallEnd.same HH.out 220 f0
  | none =>
    rw [ho] at hlk
    have HO := Lib.hid ho
    clear ho
    simp only [Option.isSome_none] at hlk
    by_cases hc : mCallOk x = true
    · have hge : 65536 ≤ s.1 := by
        have := HN.out
        rw [HO.out, hc] at this
        simpa using this
      have ce : mCall x = 0 := by unfold mCall; rw [if_pos hc]
      have HCE := Lib.hid ce
      have HC := Lib.hid hc
      have hI : (65536 : Int) ≤ (s.1 : Int) := by omega
      have HGE := Lib.hid hge
      clear ce hc hge
      go_enter Try.func45, Try.ntmps45
      go_wp2_with fail
      (try rw [hw0])
      refine HM.out.mono ?_
      rintro e w' ⟨rfl, rfl⟩
      go_wp2_with fail
      refine (call_any _ x va vc).mono ?_
      rintro e w1 ⟨rfl, f1⟩
      rw [HCE.out]
      obtain ⟨x0, z0⟩ := box_facts (f1.heap HG.out id)
      have e1 : w1.cell? ⟨hb, 1, none⟩ = some (.int .i64 s.1) := by rw [x0]; rfl
      clear x0 z0
      go_wp2_with fail
      go_ret
      rw [show hCall s q x = (3, s) by unfold hCall; rw [HO.out]; simp only [HC.out, if_true, HGE.out]]
      exact CallEnd.same HH.out 3 (f0.trans f1)
    · have ce : mCall x = 104 := by unfold mCall; rw [if_neg hc]
      have HCE := Lib.hid ce
      have HC := Lib.hid hc
      clear ce hc
      go_enter Try.func45, Try.ntmps45
      go_wp2_with fail
      (try rw [hw0])
      refine HM.out.mono ?_
      rintro e w' ⟨rfl, rfl⟩
      go_wp2_with fail
      refine (call_any _ x va vc).mono ?_
      rintro e w1 ⟨rfl, f1⟩
      rw [HCE.out]
      go_wp2_with fail
      go_ret
      rw [show hCall s q x = (104, s) by unfold hCall; rw [HO.out]; simp only [HC.out, if_false, Bool.false_eq_true]]
      exact CallEnd.same HH.out 104 (f0.trans f1)
end Go.Proofs.Ytplhcfaonhkegaa
