/-
  misses.
-/
import Derived.Test.YtplhcfaonhkegaaH6
namespace Go.Proofs.Ytplhcfaonhkegaa
open Go.RowKit Go.Maps

theorem Sl.grow {α : Type} {k : Kd α} {w w' : World} {v : Value} {l : List α} (h : Sl k All w v l) (f : Fr (fun b => w.heap.size ≤ b) w w') : Sl k All w' v l :=
  (h.there.frame f (fun b hb _ e => by omega)).all
theorem HapV.grow {w w' : World} {V : Value} {x : MHap} (h : HapV All w V x) (f : Fr (fun b => w.heap.size ≤ b) w w') : HapV All w' V x := by
  obtain ⟨a0, n0, a1, n1, a2, n2, e, h0, h1, h2⟩ := h
  exact ⟨a0, n0, a1, n1, a2, n2, e, h0.grow f, h1.grow f, h2.grow f⟩
theorem AskV.grow {w w' : World} {l : List MHap} {lv : Value} {r : MHap} {V AV : Value} (h : AskV w l lv r V AV) (f : Fr (fun b => w.heap.size ≤ b) w w') : AskV w' l lv r V AV := by
  obtain ⟨cs, ac, e0, e, e1, h1, h2⟩ := h
  exact ⟨cs, ac, e0, e, e1, h1.grow f, h2.grow f⟩
theorem BoxA.grow {w w' : World} {b : Nat} {l : List MHap} {lv : Value} {r : MHap} {V AV : Value} (h : BoxA w b l lv r V AV) (f : Fr (fun b => w.heap.size ≤ b) w w') : BoxA w' b l lv r V AV := by
  obtain ⟨ac, e, h1, h3⟩ := h
  exact ⟨ac, e, h1.grow f, f.heap h3 (by have := lt_of_block h3; omega)⟩
theorem hap_keys {S : Nat → Prop} {w : World} {v : Value} {l : List MHap} (h : Sl kHap S w v l) : ∀ x ∈ l, (0 ≤ x.1.2.1 ∧ x.1.2.1 ≤ 18446744073709551615) := by
  intro x hx
  obtain ⟨i, hi, rfl⟩ := List.getElem_of_mem hx
  obtain ⟨a, c, rfl, _⟩ := h.frm
  obtain ⟨b, o, cs, rfl, _, _, _, hr, hc⟩ := h.at i hi
  obtain ⟨_, _, rfl, h1, _⟩ := hr
  obtain ⟨_, _, _, _, h2, _⟩ := call_cells h1
  exact h2
theorem BoxA.items {w : World} {b : Nat} {l : List MHap} {lv : Value} {r : MHap} {V AV : Value} (h : BoxA w b l lv r V AV) : ∃ a n, w.cell? ⟨b, 8, none⟩ = some (.slice a r.2.1.2.2.2.1.length n) ∧ Sl kItem All w (.slice a r.2.1.2.2.2.1.length n) r.2.1.2.2.2.1 := by
  obtain ⟨ac, e, ⟨cs, ac', e0, rfl, e1, h1, h2⟩, h3⟩ := h
  have e3 : ac' = ac := by
    rw [e] at e1
    have := congrArg (fun v : Value => match v with | .agg c => c.toList | _ => []) e1
    simpa using this.symm
  subst e3 e0 e
  obtain ⟨a0, n0, a2, n2, _, g7, _, h4⟩ := h1.slices
  refine ⟨a2, n2, ?_, h4⟩
  rw [cell_of_row w b 8 _ _ _ h3]
  simpa using g7
def hToldUp (is : List MItem) (j : Nat) : Int → Bool := fun k => (is.take j).any fun i => decide (i.1 = k)
theorem hToldUp_next {is : List MItem} {j : Nat} (h : j < is.length) : updB (hToldUp is j) is[j].1 true = hToldUp is (j + 1) := by
  funext k
  unfold updB hToldUp
  rw [List.take_succ_eq_append_getElem h, List.any_append]
  by_cases hk : k = is[j].1
  · subst hk; simp
  · rw [if_neg hk]
    have : decide (is[j].1 = k) = false := decide_eq_false (Ne.symm hk)
    simp [this]

theorem enters133 : ∀ args w, (callFunc 133 args).run Try.prog w = .ok (.enter 133 args) w := enters_of Try.func133 (by kernel_rfl) rfl
set_option maxRecDepth 100000 in
set_option maxHeartbeats 2000000 in
theorem misses_any {w : World} {l : List MHap} {lv : Value} {r : MHap} {RV AV : Value} (ha : AskV w l lv r RV AV) (hn : r.2.1.2.2.2.1.length ≤ 200000) :
    Calls Try.prog 112 #[AV] w fun e w' => e = .returned (.bool (hMisses l r)) ∧ Fr Non w w' := by
  obtain ⟨cs, ac, e0, e1, rfl, hr, hl⟩ := ha
  have f0 : Fr Non w (w.alloc (.cells ac.toArray 129)) := (Fr.refl _ _).alloc _
  have BA : Hid (BoxA (w.alloc (.cells ac.toArray 129)) w.heap.size l lv r RV (.agg ac.toArray)) := Lib.hid ⟨ac, rfl, ⟨cs, ac, e0, e1, rfl, hr.stay f0, hl.stay f0⟩, alloc_at w _⟩
  obtain ⟨C, hC⟩ : ∃ C, w.heap.size = C := ⟨_, rfl⟩
  have HCC := Lib.hid hC
  rw [hC] at BA
  obtain ⟨va, vc, rfl, _⟩ := hl.frm
  have eg := enters133
  have HKS := Lib.hid (hap_keys hl)
  clear hr hl e0
  obtain ⟨ia, ic, a8, hit⟩ := BA.out.items
  have HIT := Lib.hid hit
  obtain ⟨it, hI⟩ : ∃ it, r.2.1.2.2.2.1 = it := ⟨_, rfl⟩
  rw [hI] at a8 HIT hn
  have HI0 := Lib.hid hI
  clear hit hI
  obtain ⟨_, hcap, _⟩ : True ∧ ic ≤ maxLen ∧ True := ⟨trivial, by obtain ⟨_, _, e, _, h2, _⟩ := HIT.out.frm; cases e; exact h2, trivial⟩
  unfold maxLen at hcap
  have hmm := @run_makeMap Try.prog
  obtain ⟨w1, hw1⟩ : ∃ w1, w.alloc (.cells ac.toArray 129) = w1 := ⟨_, rfl⟩
  have sz1 : w1.heap.size = C + 1 := by rw [← hw1, World.size_alloc, hC]
  have MB : Hid (MapB Try.prog .u64 36 4 ((w1.alloc (.map #[] 0)).alloc (.cells #[.map (some (C + 1))] 182)) (C + 1) 0 (hToldUp it 0)) := Lib.hid (by
    have h := (MapB.made w1 Try.prog .u64 36 4).fr ((Fr.refl Non _).alloc (.cells #[.map (some (C + 1))] 182))
    rw [sz1] at h
    have : hToldUp it 0 = fun _ => false := by funext k; simp [hToldUp]
    rw [this]; exact h)
  have MX : Hid (((w1.alloc (.map #[] 0)).alloc (.cells #[.map (some (C + 1))] 182)).heap[C + 2]? = some (.cells #[.map (some (C + 1))] 182 (0, 0))) := Lib.hid (by
    have h := alloc_at (w1.alloc (.map #[] 0)) (.cells #[.map (some (C + 1))] 182)
    rw [World.size_alloc, sz1] at h
    exact h)
  have F2 : Hid (Fr Non w1 ((w1.alloc (.map #[] 0)).alloc (.cells #[.map (some (C + 1))] 182))) := Lib.hid (((Fr.refl _ _).alloc _).alloc _)
  go_enter Try.func112, Try.ntmps112
  rw [hw1] at BA HIT a8 f0
  go_wp2_with fail
  generalize ((w1.alloc (.map #[] 0)).alloc (.cells #[.map (some (C + 1))] 182)) = w2 at MB MX F2 ⊢
  go_loopw [12] (fun i wr => ∃ (j : Nat), j ≤ it.length ∧ i = .int .i64 j ∧ Hid (Fr (fun b => b = C + 1) w2 wr ∧ MapB Try.prog .u64 36 4 wr (C + 1) j (hToldUp it j))) (fun i _ => it.length - (intOf i).toNat)
  case atStart => exact ⟨0, by omega, rfl, Fr.refl _ _, MB.out⟩
  case round =>
    obtain ⟨j, hj, rfl, HI⟩ := hrel
    have g0 : Fr (fun b => w1.heap.size ≤ b) w1 wr := (F2.out.mono fun _ _ h => h.elim).trans2 HI.out.1 (fun b _ hb => by omega)
    obtain ⟨hm, fm⟩ : MapB Try.prog .u64 36 4 wr (C + 1) j (hToldUp it j) ∧ True := ⟨HI.out.2, trivial⟩
    have hbx := HI.out.1.heap MX.out (by omega)
    obtain ⟨x0, _⟩ := box_facts hbx
    have y0 : wr.cell? ⟨C + 1 + 1, 0, none⟩ = some (.map (some (C + 1))) := x0 0
    have y1 : C + 1 + 1 < wr.heap.size := lt_of_block hbx
    by_cases hlt : j < it.length
    · obtain ⟨B, O, u, rfl, _, _, c0, c1, hu, _, k0, k1⟩ := item_at (HIT.out.grow g0) j hlt
      obtain ⟨ua, uc, rfl, _⟩ := hu.frm
      clear hu
      have HN := Lib.hid (hToldUp_next hlt)
      obtain ⟨X, hX⟩ : ∃ X, it[j].1 = X := ⟨_, rfl⟩
      rw [hX] at c0 HN k0 k1
      clear hX
      have j0 : (0 : Int) ≤ (j : Int) := by omega
      have j1 : (j : Int) < (it.length : Int) := by omega
      have HM := Lib.hid hm
      clear hm
      go_wp2_with (at_mapUpdate; refine wpList_updateB 182 rfl _ _ _ rfl Try.underlying182 Try.underlying36 Try.underlying4 rfl (HM.out.fr ((Fr.refl _ _).alloc _)) ?hn X rfl (wf_u64.2 ⟨k0, k1⟩) true rfl ?_)
      case hn => unfold maxLen; omega
      intro w4 m4 f4
      go_wp2_with fail
      go_roundw
      case rel => exact ⟨j + 1, by omega, by go_num, ((HI.out.1).alloc _).trans2 f4 (fun b _ hb => hb), by rw [HN.out] at m4; exact m4⟩
      case measure => simp [intOf]; omega
    · obtain rfl : j = it.length := by omega
      have BW := Lib.hid (BA.out.grow g0)
      obtain ⟨_, _, _, _, a0, _⟩ := BW.out.facts
      have BM : Hid (BoxM wr (C + 2) (hTold r)) := Lib.hid ⟨C + 1, it.length, hbx, by
        have h := hm
        have : hToldUp it it.length = hTold r := by
          funext k; simp [hToldUp, hTold, HI0.out]
        rw [this] at h; exact h⟩
      go_wp2_with fail
      refine (containsHap_any BW.out.facts.2.1 133 _ _ (hMisses1 l r) enters133 (fun W v x f hx hv => misses1_any hv (HKS.out x hx) (BW.out.fr f) (BM.out.fr f))).mono ?_
      rintro e w5 ⟨rfl, f5⟩
      go_wp2_with fail
      go_ret
      refine ⟨rfl, ?_⟩
      exact (f0.trans2 g0 (fun b hb hx => by rw [← hw1, World.size_alloc] at hx; omega)).trans f5
end Go.Proofs.Ytplhcfaonhkegaa
