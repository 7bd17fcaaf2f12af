/-
  The reference's history on the heap: open, free, All, Open, Kill, Call, Reply.
-/
import Derived.Test.YtplhcfaonhkegaaH22
namespace Go.Proofs.Ytplhcfaonhkegaa
open Go.RowKit Go.Maps

def kNot : Kd MNot := kPair kI (kPair kBool kHap)
theorem eI132 : ElemInfo Try.prog 84 132 25 240 := elemInfo (z := .agg ([Value.int .i64 0, .bool false] ++ hapCells ((0, 0, 0, []), mErr 0, 0, 0, false, false) (.slice none 0 0) (.slice none 0 0) (.slice none 0 0)).toArray) Try.underlying84 (by kernel_rfl) rfl (by decide)
theorem not_cells {S : Nat → Prop} {w : World} {cs : List Value} {x : MNot} (h : kNot.rd S w cs x) : ∃ hc, cs = .int .i64 x.1 :: .bool x.2.1 :: hc ∧ kHap.rd S w hc x.2.2 ∧ (Lit.int .i64 x.1).wf = true := by
  obtain ⟨_, _, rfl, ⟨rfl, h1⟩, _, hc, rfl, rfl, h2⟩ := h
  exact ⟨hc, rfl, h2, h1⟩
theorem not_of {S : Nat → Prop} {w : World} {hc : List Value} {x : MNot} (h : kHap.rd S w hc x.2.2) (h1 : (Lit.int .i64 x.1).wf = true) : kNot.rd S w (.int .i64 x.1 :: .bool x.2.1 :: hc) x :=
  ⟨[_], _, rfl, ⟨rfl, h1⟩, [_], hc, rfl, rfl, h⟩
theorem not_at {S : Nat → Prop} {w : World} {a : Option Addr} {n c : Nat} {l : List MNot} (h : Sl kNot S w (.slice a n c) l) (i : Nat) (hi : i < l.length) :
    ∃ b o hc, a = some ⟨b, o, none⟩ ∧ kHap.rd S w hc l[i].2.2 ∧ w.cell? ⟨b, o + i * 25, none⟩ = some (.int .i64 l[i].1) ∧ w.cell? ⟨b, o + i * 25 + 1, none⟩ = some (.bool l[i].2.1) ∧
      (∀ j v, hc[j]? = some v → w.cell? ⟨b, o + i * 25 + 2 + j, none⟩ = some v) := by
  obtain ⟨b, o, cs, rfl, _, _, _, hr, hc⟩ := h.at i hi
  obtain ⟨hcs, rfl, h2, _⟩ := not_cells hr
  refine ⟨b, o, hcs, rfl, h2, ?_, ?_, fun j v hv => ?_⟩
  · exact hc 0 (by simp)
  · exact hc 1 (by simp)
  · obtain ⟨hj, rfl⟩ := List.getElem?_eq_some_iff.1 hv
    have := hc (2 + j) (by simp; omega)
    rw [show o + i * 25 + 2 + j = o + i * kNot.sz + (2 + j) by show _ = o + i * 25 + (2 + j); omega, this]
    simp [show 2 + j = j + 1 + 1 by omega]

/-- Block rb is the reference's history that reads as s. -/
def RefAt (c : Nat → Nat) (k : Nat) (w : World) (rb : Nat) (s : MHist) : Prop :=
  ∃ lv cs, w.heap[rb]? = some (.cells #[.int .i64 s.1, lv] 86 (0, 0)) ∧ GRow w 132 25 lv s.2.length cs ∧ Row kNot (fun b => c b = 0) w cs s.2 ∧ c rb = k ∧ ∀ b, lv.ownBlock = some b → c b = k
theorem RefAt.fr {c c' : Nat → Nat} {k : Nat} {w w' : World} {rb : Nat} {s : MHist} {T : Nat → Prop} (h : RefAt c k w rb s) (f : Fr T w w') (hT : ∀ b, b < w.heap.size → T b → c b ≠ 0 ∧ c b ≠ k)
    (hc : ∀ b, b < w.heap.size → c' b = c b) : RefAt c' k w' rb s := by
  obtain ⟨lv, cs, h1, h2, h3, h4, h5⟩ := h
  have hk : ∀ b, b < w.heap.size → c b = k → ¬ T b := fun b hb e t => (hT b hb t).2 e
  have h0 : ∀ b, b < w.heap.size → c b = 0 → ¬ T b := fun b hb e t => (hT b hb t).1 e
  have l1 := lt_of_block h1
  exact ⟨lv, cs, f.heap h1 (hk _ l1 h4), h2.keep fun b hb => f.block b (h2.lt b hb) (hk _ (h2.lt b hb) (h5 b hb)), h3.fr (fun b hb hs => f.block b hb (h0 b hb hs)) (fun b hb hs => by rw [hc b hb]; exact hs),
    by rw [hc _ l1]; exact h4, fun b hb => by rw [hc _ (h2.lt b hb)]; exact h5 b hb⟩
theorem RefAt.lt {c : Nat → Nat} {k : Nat} {w : World} {rb : Nat} {s : MHist} (h : RefAt c k w rb s) : rb < w.heap.size := by
  obtain ⟨lv, cs, h1, _⟩ := h
  exact lt_of_block h1
/-- Its parts, as the walks use them. -/
theorem RefAt.sl {c : Nat → Nat} {k : Nat} {w : World} {rb : Nat} {s : MHist} (h : RefAt c k w rb s) : ∃ a n, w.heap[rb]? = some (.cells #[.int .i64 s.1, .slice a s.2.length n] 86 (0, 0)) ∧ Sl kNot All w (.slice a s.2.length n) s.2 := by
  obtain ⟨lv, cs, h1, h2, h3, _⟩ := h
  rcases id h2.2 with ⟨rfl, h0⟩ | ⟨b, cap, cur, rfl, _, g1, g2, _⟩
  · exact ⟨none, 0, by rw [h0]; exact h1, .inl ⟨by rw [h0], List.eq_nil_of_length_eq_zero h0⟩⟩
  · refine ⟨_, _, h1, .inr ⟨_, cap, rfl, g1, g2, fun _ => ⟨rfl, trivial⟩, ?_⟩⟩
    refine Elems.of_row (h3.fr (fun _ _ _ => rfl) (fun _ _ _ => trivial)) fun j u hu => ?_
    rw [Nat.zero_add]
    exact h2.cells rfl j u hu

def rIdx (q : Int) (L : List MNot) : Int := match hOpenAt q L with | some i => (i : Int) | none => -1
theorem rIdx_hit {q : Int} {L : List MNot} {j : Nat} (hj : j < L.length) (h : nOpen q L[j] = true) (hb : ∀ i (hi : i < L.length), i < j → nOpen q L[i] = false) : rIdx q L = j := by
  have : hOpenAt q L = some j := List.findIdx?_eq_some_iff_getElem.2 ⟨hj, h, fun i hi => by simpa using hb i (by omega) hi⟩
  unfold rIdx
  rw [this]
theorem rIdx_miss {q : Int} {L : List MNot} (hb : ∀ i (hi : i < L.length), nOpen q L[i] = false) : rIdx q L = -1 := by
  have : hOpenAt q L = none := openAt_none.2 fun x hx => by obtain ⟨i, hi, rfl⟩ := List.getElem_of_mem hx; exact hb i hi
  unfold rIdx
  rw [this]

set_option maxRecDepth 100000 in
set_option maxHeartbeats 4000000 in
/-- open. -/
theorem ropen_any {w : World} {rb n c : Nat} {a : Option Addr} {L : List MNot} {N : Int} (h : w.heap[rb]? = some (.cells #[.int .i64 N, .slice a n c] 86 (0, 0))) (hl : Sl kNot All w (.slice a n c) L) (hn : L.length ≤ 200000) (hlen : n = L.length) (q : Int) :
    Calls Try.prog 88 #[.pointer (some ⟨rb, 0, none⟩), .int .i64 q] w fun e w' => e = .returned (.int .i64 (rIdx q L)) ∧ w = w' := by
  subst hlen
  obtain ⟨x0, _⟩ := box_facts h
  have c1 : w.cell? ⟨rb, 1, none⟩ = some (.slice a L.length c) := by rw [x0]; rfl
  have HL := Lib.hid hl
  clear x0 h hl
  go_enter Try.func88, Try.ntmps88
  go_wp2_with fail
  go_loop [5] (fun i => ∃ (j : Nat), j ≤ L.length ∧ i = .int .i64 j ∧ Hid (∀ i (hi : i < L.length), i < j → nOpen q L[i] = false)) (fun i => L.length - (intOf i).toNat)
  case atStart => exact ⟨0, by omega, rfl, fun i _ h => by omega⟩
  case round =>
    obtain ⟨j, hj, rfl, HI⟩ := hrel
    by_cases hlt : j < L.length
    · obtain ⟨b, o, hc, rfl, hr, d0, d1, d2⟩ := not_at HL.out j hlt
      obtain ⟨_, _, _, _, _, _, rfl, _⟩ := hap_cells hr
      have d3 : w.cell? ⟨b, o + j * 25 + 2 + 21, none⟩ = some (.bool L[j].2.2.2.2.2.2.1) := d2 21 _ rfl
      have j0 : (0 : Int) ≤ (j : Int) := by omega
      have j1 : (j : Int) < (L.length : Int) := by omega
      have HX : Hid (∀ t, nOpen q L[j] = t → t = true → rIdx q L = j) := Lib.hid (fun t e h => rIdx_hit hlt (e.trans h) HI.out)
      have HY : Hid (nOpen q L[j] = false → ∀ i (hi : i < L.length), i < j + 1 → nOpen q L[i] = false) := Lib.hid (fun e i hi hij => by
        by_cases h : i = j
        · subst h; exact e
        · exact HI.out i hi (by omega))
      clear d2 hr
      obtain ⟨x, hx⟩ : ∃ x, L[j] = x := ⟨_, rfl⟩
      rw [hx] at d0 d1 d3 HX HY
      clear hx
      obtain ⟨kl, hkl⟩ : ∃ kl, x.2.1 = kl := ⟨_, rfl⟩
      obtain ⟨op, hop⟩ : ∃ op, x.2.2.2.2.2.2.1 = op := ⟨_, rfl⟩
      rw [hkl] at d1
      rw [hop] at d3
      have HKL := Lib.hid hkl
      have HOP := Lib.hid hop
      clear hkl hop
      cases kl with
      | true =>
        go_wp2_with fail
        go_round
        case rel => exact ⟨j + 1, by omega, by go_num, HY.out (by unfold nOpen; rw [HKL.out]; rfl)⟩
        case measure => simp [intOf]; omega
      | false =>
        by_cases he : x.1 = q
        rotate_left
        · have n1 : (x.1 == q) = false := by simpa using he
          have HE := Lib.hid he
          clear he
          go_wp2_with fail
          go_round
          case rel => exact ⟨j + 1, by omega, by go_num, HY.out (by unfold nOpen; rw [decide_eq_false HE.out]; simp)⟩
          case measure => simp [intOf]; omega
        have n1 : (x.1 == q) = true := by simpa using he
        have HE := Lib.hid he
        clear he
        cases op with
        | false =>
          go_wp2_with fail
          go_round
          case rel => exact ⟨j + 1, by omega, by go_num, HY.out (by unfold nOpen; rw [HOP.out]; simp)⟩
          case measure => simp [intOf]; omega
        | true =>
          go_wp2_with fail
          go_ret
          exact ⟨by rw [HX.out true (by unfold nOpen; rw [HKL.out, HOP.out, decide_eq_true HE.out]; rfl) rfl]; rfl, rfl⟩
    · obtain rfl : j = L.length := by omega
      have HM := Lib.hid (rIdx_miss (q := q) (L := L) fun i hi => HI.out i hi hi)
      go_wp2_with fail
      go_ret
      exact ⟨by rw [HM.out]; rfl, rfl⟩

set_option maxRecDepth 100000 in
set_option maxHeartbeats 4000000 in
/-- free. -/
theorem rfree_any (w : World) (k e : Int) : Calls Try.prog 89 #[.int .i64 k, .int .i64 e] w fun en w' => en = .returned (.bool (hFree k e)) ∧ w = w' := by
  by_cases a1 : e = 0
  · subst a1
    go_enter Try.func89, Try.ntmps89
    go_wp2_with fail
    go_ret
    exact ⟨by simp [hFree], rfl⟩
  by_cases a2 : e = 121
  · subst a2
    clear a1
    go_enter Try.func89, Try.ntmps89
    go_wp2_with fail
    go_ret
    exact ⟨by simp [hFree], rfl⟩
  have z1 : (e == 0) = false := by simpa using a1
  have z2 : (e == 121) = false := by simpa using a2
  have A1 := Lib.hid a1
  have A2 := Lib.hid a2
  clear a1 a2
  by_cases a3 : k = 1
  · subst a3
    by_cases a4 : e = 100
    · subst a4
      clear z1 z2
      go_enter Try.func89, Try.ntmps89
      go_wp2_with fail
      go_ret
      exact ⟨by simp [hFree], rfl⟩
    · have z4 : (e == 100) = false := by simpa using a4
      have z4' : (e != 100) = true := by simpa using a4
      have A4 := Lib.hid a4
      clear a4
      go_enter Try.func89, Try.ntmps89
      go_wp2_with fail
      go_ret
      exact ⟨by simp [hFree, A1.out, A2.out, A4.out], rfl⟩
  have z3 : (k == 1) = false := by simpa using a3
  have A3 := Lib.hid a3
  clear a3
  by_cases a5 : k = 2
  · subst a5
    by_cases a6 : e = 101
    · subst a6
      clear z1 z2
      go_enter Try.func89, Try.ntmps89
      go_wp2_with fail
      go_ret
      exact ⟨by simp [hFree], rfl⟩
    · have z4 : (e == 101) = false := by simpa using a6
      have z4' : (e != 101) = true := by simpa using a6
      have A6 := Lib.hid a6
      clear a6
      go_enter Try.func89, Try.ntmps89
      go_wp2_with fail
      go_ret
      exact ⟨by simp [hFree, A1.out, A2.out, A6.out], rfl⟩
  · have z5 : (k == 2) = false := by simpa using a5
    have A5 := Lib.hid a5
    clear a5
    go_enter Try.func89, Try.ntmps89
    go_wp2_with fail
    go_ret
    exact ⟨by simp [hFree, A1.out, A2.out, A3.out, A5.out], rfl⟩
end Go.Proofs.Ytplhcfaonhkegaa

namespace Go.Proofs.Ytplhcfaonhkegaa
open Go.RowKit Go.Maps

theorem hAll_next {L : List MNot} {j : Nat} (h : j < L.length) : hAll (L.take (j + 1)) = hAll (L.take j) ++ [L[j].2.2] := by
  rw [List.take_succ_eq_append_getElem h]; unfold hAll; rw [List.map_append]; rfl
theorem hOpens_next {L : List MNot} {j : Nat} (h : j < L.length) : hOpens (L.take (j + 1)) = hOpens (L.take j) ++ (if L[j].2.2.2.2.2.2.1 then [L[j].1] else []) := by
  rw [List.take_succ_eq_append_getElem h, hOpens_append]
  by_cases hx : L[j].2.2.2.2.2.2.1 = true <;> simp [hOpens, hx]

set_option maxRecDepth 100000 in
set_option maxHeartbeats 4000000 in
theorem rall_at {c : Nat → Nat} {k : Nat} {w : World} {rb : Nat} {s : MHist} (h : RefAt c k w rb s) (hok : HistOk s) :
    Calls Try.prog 56 #[.pointer (some ⟨rb, 0, none⟩)] w fun e w' => ∃ v, e = .returned v ∧ Build kHap 76 w' v (hAll s.2) ∧ Fr Non w w' := by
  obtain ⟨a, n, h1, h2⟩ := h.sl
  have hn : s.2.length ≤ 65536 := by have := hok.len; have := hok.most; omega
  obtain ⟨L, hL⟩ : ∃ L, s.2 = L := ⟨_, rfl⟩
  rw [hL] at h1 h2 hn ⊢
  have HL := Lib.hid h2.there
  have HB := Lib.hid h1
  clear h h1 h2 hok hL
  go_enter Try.func56, Try.ntmps56
  go_wp2_with fail
  go_loopw [3, 4] (fun v i wr => ∃ (j : Nat), j ≤ L.length ∧ i = .int .i64 j ∧ Hid (Build kHap 76 wr v (hAll (L.take j)) ∧ Fr Non w wr ∧ ∀ b, v.ownBlock = some b → w.heap.size ≤ b)) (fun _ i _ => L.length - (intOf i).toNat)
  case atStart => exact ⟨0, by omega, rfl, Build.nil _ _ _, Fr.refl _ _, by simp [Value.ownBlock]⟩
  case round =>
    obtain ⟨j, hj, rfl, HI⟩ := hrel
    have f1 := HI.out.2.1
    obtain ⟨x0, _⟩ := box_facts (f1.heap HB.out id)
    have c1 : wr.cell? ⟨rb, 1, none⟩ = some (.slice a L.length n) := by rw [x0]; rfl
    clear x0
    by_cases hlt : j < L.length
    · obtain ⟨b, o, cs, rfl, hr, _, _, d2⟩ := not_at (HL.out.stay f1) j hlt
      have hlen : cs.length = 23 := kHap.len hr
      have LD : Hid ((Instr.loadAt 76 (.pointer (some ⟨b, o + j * 25 + 2, none⟩))).run Try.prog wr = .ok (.agg cs.toArray) wr) := Lib.hid (run_loadAt_list _ _ Try.underlying76 rfl (by rw [hlen]; exact size76) d2)
      have j0 : (0 : Int) ≤ (j : Int) := by omega
      have j1 : (j : Int) < (L.length : Int) := by omega
      have HNX := Lib.hid (hAll_next hlt)
      have HR := Lib.hid hr
      have ONES := Lib.hid (kHap.one hr)
      obtain ⟨g1, _, g3⟩ := HI.out
      have G3 := Lib.hid g3
      have hcount : (hAll (L.take j)).length ≤ j := by simp [hAll]; omega
      obtain ⟨rcs, g6, hrow⟩ := g1
      have HROW := Lib.hid hrow
      have hg6 := Lib.hid g6
      clear hr d2 g3 hrow g6
      go_wp2_with (first | refine wpList_load_w 76 (.pointer (some ⟨b, o + j * 25 + 2, none⟩)) _ LD.out _ rfl rfl (by rfl) ?_ | (at_builtin; refine wpList_append_g rfl _ _ eI76 rfl _ _ _ rfl (hg6.out.keep fun b hb => ?k1) _ 1 cs rfl ?hsrc ?k2 ?k3 ?_))
      case hsrc =>
        have e := fold_set0 cs 0 [] [.int .i64 0, .int .u64 0, .int .u64 0, .slice none 0 0, .int .i64 0, .int .u64 0, .slice none 0 0, .slice none 0 0, .int .i64 0, .int .i64 0, .int .u64 0, .int .i64 0, .int .u64 0, .int .i64 0, .int .i64 0, .int .u64 0, .int .i64 0, .int .u64 0, .bool false, .int .i64 0, .int .i64 0, .bool false, .bool false] rfl (by rw [hlen]; rfl)
        simp only [List.nil_append] at e
        rw [e]
        exact Src.block (m := 1) (alloc_at wr _) (by simp [hlen]) ONES.out
      case k1 => exact Below.heap_alloc _ _ _ (hg6.out.lt b hb)
      case k2 => unfold maxLen; omega
      case k3 => omega
      intro v' w7 r1 r2 r3
      go_wp2_with fail
      go_roundw
      case rel =>
        refine ⟨j + 1, by omega, by go_num, ?_, ?_, ?_⟩
        · rw [HNX.out]
          refine Build.push (w := wr) HROW.out (kHap.mono HR.out (fun b _ hb e => by have := G3.out b e; omega)) r1 (((Fr.refl _ _).alloc _).trans2 r2 (fun b _ h => h)) ?_
          rcases r3 with r3 | ⟨r3, _⟩
          · exact .inl r3
          · exact .inr ⟨_, r3, by (try simp)⟩
        · exact (f1.alloc _).trans2 r2 (fun b hb hx => by have := G3.out b hx; omega)
        · intro b hb
          rcases r3 with r3 | ⟨r3, _⟩
          · exact G3.out b (r3 ▸ hb)
          · rw [r3] at hb; cases hb; have := f1.size; (try simp); omega
      case measure => simp [intOf]; omega
    · obtain rfl : j = L.length := by omega
      obtain ⟨h1, h2, h3⟩ := HI.out
      rw [List.take_length] at h1
      go_wp2_with fail
      refine bodyPost_ret (v := _) (by simp [results, Try.results56, go_sem]) rfl ⟨_, rfl, h1, h2⟩

set_option maxRecDepth 100000 in
set_option maxHeartbeats 4000000 in
theorem ropens_at {c : Nat → Nat} {k : Nat} {w : World} {rb : Nat} {s : MHist} (h : RefAt c k w rb s) (hok : HistOk s) :
    Calls Try.prog 58 #[.pointer (some ⟨rb, 0, none⟩)] w fun e w' => ∃ v, e = .returned v ∧ GRow w' 3 1 v (hOpens s.2).length (ints (hOpens s.2)) ∧ Fr Non w w' := by
  obtain ⟨a, n, h1, h2⟩ := h.sl
  have hn : s.2.length ≤ 65536 := by have := hok.len; have := hok.most; omega
  obtain ⟨L, hL⟩ : ∃ L, s.2 = L := ⟨_, rfl⟩
  rw [hL] at h1 h2 hn ⊢
  have HL := Lib.hid h2
  have HB := Lib.hid h1
  clear h h1 h2 hok hL
  go_enter Try.func58, Try.ntmps58
  go_wp2_with fail
  go_loopw [3, 4] (fun v i wr => ∃ (j : Nat), j ≤ L.length ∧ i = .int .i64 j ∧ Hid (GRow wr 3 1 v (hOpens (L.take j)).length (ints (hOpens (L.take j))) ∧ Fr Non w wr ∧ ∀ b, v.ownBlock = some b → w.heap.size ≤ b)) (fun _ i _ => L.length - (intOf i).toNat)
  case atStart => exact ⟨0, by omega, rfl, GRow.nil _ _ _, Fr.refl _ _, by simp [Value.ownBlock]⟩
  case round =>
    obtain ⟨j, hj, rfl, HI⟩ := hrel
    have f1 := HI.out.2.1
    obtain ⟨x0, _⟩ := box_facts (f1.heap HB.out id)
    have c1 : wr.cell? ⟨rb, 1, none⟩ = some (.slice a L.length n) := by rw [x0]; rfl
    clear x0
    by_cases hlt : j < L.length
    · obtain ⟨b, o, cs, rfl, hr, d0, _, d2⟩ := not_at (HL.out.stay f1) j hlt
      obtain ⟨_, _, _, _, _, _, rfl, _⟩ := hap_cells hr
      have d3 : wr.cell? ⟨b, o + j * 25 + 2 + 21, none⟩ = some (.bool L[j].2.2.2.2.2.2.1) := d2 21 _ rfl
      have j0 : (0 : Int) ≤ (j : Int) := by omega
      have j1 : (j : Int) < (L.length : Int) := by omega
      have HNX := Lib.hid (hOpens_next hlt)
      have hcount : (hOpens (L.take j)).length ≤ j := by have := hOpens_len (L.take j); rw [List.length_take] at this; omega
      obtain ⟨x, hx⟩ : ∃ x, L[j] = x := ⟨_, rfl⟩
      rw [hx] at d0 d3 HNX
      obtain ⟨op, hop⟩ : ∃ op, x.2.2.2.2.2.2.1 = op := ⟨_, rfl⟩
      rw [hop] at d3 HNX
      obtain ⟨g1, _, g3⟩ := HI.out
      have G1 := Lib.hid g1
      have G3 := Lib.hid g3
      clear hr d2 g1 g3 hx hop
      cases op with
      | false =>
        go_wp2_with fail
        go_roundw
        case rel => exact ⟨j + 1, by omega, by go_num, by rw [HNX.out]; simpa using G1.out, f1, G3.out⟩
        case measure => simp [intOf]; omega
      | true =>
        go_wp2_with (at_builtin; refine wpList_append_g rfl _ _ eI3 rfl _ _ _ rfl (G1.out.keep fun b hb => ?k1) _ 1 [.int .i64 x.1] rfl (Src.block (m := 1) (alloc_at wr _) rfl (by simp [Value.oneCell'])) ?k2 ?k3 ?_)
        case k1 => exact Below.heap_alloc _ _ _ (G1.out.lt b hb)
        case k2 => unfold maxLen; omega
        case k3 => omega
        intro v' w7 r1 r2 r3
        go_wp2_with fail
        go_roundw
        case rel =>
          refine ⟨j + 1, by omega, by go_num, ?_, ?_, ?_⟩
          · rw [HNX.out]
            simpa [ints] using r1
          · exact (f1.alloc _).trans2 r2 (fun b hb hx => by have := G3.out b hx; omega)
          · intro b hb
            rcases r3 with r3 | ⟨r3, _⟩
            · exact G3.out b (r3 ▸ hb)
            · rw [r3] at hb; cases hb; have := f1.size; (try simp); omega
        case measure => simp [intOf]; omega
    · obtain rfl : j = L.length := by omega
      obtain ⟨h1, h2, h3⟩ := HI.out
      rw [List.take_length] at h1
      go_wp2_with fail
      refine bodyPost_ret (v := _) (by simp [results, Try.results58, go_sem]) rfl ⟨_, rfl, h1, h2⟩
end Go.Proofs.Ytplhcfaonhkegaa

namespace Go.Proofs.Ytplhcfaonhkegaa
open Go.RowKit Go.Maps

/-- What a deed of the reference's leaves. -/
def RefEnd (c : Nat → Nat) (k : Nat) (w : World) (rb : Nat) (r : Int × MHist) (e : Ending) (w' : World) : Prop :=
  e = .returned (.int .i64 r.1) ∧ Fr (fun b => c b = k) w w' ∧ ∃ c', RefAt c' k w' rb r.2 ∧ ∀ b, b < w.heap.size → c' b = c b
theorem RefEnd.same {c : Nat → Nat} {k : Nat} {w w' : World} {rb : Nat} {s : MHist} (h : RefAt c k w rb s) (x : Int) (f : Fr Non w w') : RefEnd c k w rb (x, s) (.returned (.int .i64 x)) w' :=
  ⟨rfl, f.mono (fun _ _ h => h.elim), c, h.fr f (fun _ _ h => h.elim) (fun _ _ => rfl), fun _ _ => rfl⟩
/-- One more is noted: the blocks are where they were, or new. -/
theorem RefEnd.push {c : Nat → Nat} {k : Nat} (hk0 : k ≠ 0) {w wz : World} {rb : Nat} {s : MHist} {lv lv' : Value} {cs nc : List Value} {x : MNot}
    (h2 : GRow w 132 25 lv s.2.length cs) (h3 : Row kNot (fun b => c b = 0) w cs s.2) (h4 : c rb = k) (h5 : ∀ b, lv.ownBlock = some b → c b = k) (hrb : rb < w.heap.size)
    (g1 : wz.heap[rb]? = some (.cells #[.int .i64 ((s.1 + 1 : Nat) : Int), lv'] 86 (0, 0))) (g2 : GRow wz 132 25 lv' (s.2.length + 1) (cs ++ nc))
    (hx : kNot.rd (fun b => (b < w.heap.size ∧ c b = 0) ∨ (w.heap.size ≤ b ∧ lv'.ownBlock ≠ some b)) wz nc x)
    (hown : ∀ b, lv'.ownBlock = some b → lv.ownBlock = some b ∨ w.heap.size ≤ b) (f : Fr (fun b => b = rb ∨ lv.ownBlock = some b) w wz) :
    RefEnd c k w rb (0, s.1 + 1, s.2 ++ [x]) (.returned (.int .i64 0)) wz := by
  have FT : Fr (fun b => c b = k) w wz := f.mono fun b _ h => by
    rcases h with rfl | h
    · exact h4
    · exact h5 b h
  refine ⟨rfl, FT, fun b => if b < w.heap.size then c b else if lv'.ownBlock = some b then k else 0, ⟨lv', cs ++ nc, g1, by simpa using g2, Row.append (h3.fr (fun b hb hs => FT.block b hb (fun h => hk0 (h ▸ hs))) (fun b hb hs => by simp only [if_pos hb]; exact hs)) (Row.single (kNot.mono hx fun b _ hs => ?_)), by simp only [if_pos hrb]; exact h4, fun b hb => ?_⟩, fun b hb => if_pos hb⟩
  · rcases hs with ⟨h, h'⟩ | ⟨h, h'⟩
    · simp only [if_pos h]; exact h'
    · simp only [if_neg (show ¬ b < w.heap.size by omega), if_neg h']
  · by_cases hl : b < w.heap.size
    · simp only [if_pos hl]
      rcases hown b hb with h | h
      · exact h5 b h
      · omega
    · simp only [if_neg hl, if_pos hb]

set_option maxRecDepth 100000 in
set_option maxHeartbeats 4000000 in
theorem rkill_at {c : Nat → Nat} {k : Nat} (hk0 : k ≠ 0) {w : World} {rb : Nat} {s : MHist} (h : RefAt c k w rb s) (hok : HistOk s) (key : Int) (hkey : 0 ≤ key ∧ key ≤ 18446744073709551615) (sure : Bool) :
    Calls Try.prog 54 #[.pointer (some ⟨rb, 0, none⟩), .int .u64 key, .bool sure] w (RefEnd c k w rb (hKill s key sure)) := by
  have HH := Lib.hid h
  obtain ⟨lv, cs, h1, h2, h3, h4, h5⟩ := h
  obtain ⟨x0, _⟩ := box_facts h1
  have e0 : w.cell? ⟨rb, 0, none⟩ = some (.int .i64 s.1) := by rw [x0]; rfl
  by_cases hroom : s.1 < 65536
  rotate_left
  · have hcall : hKill s key sure = (3, s) := by unfold hKill; rw [if_pos (by omega)]
    have HC := Lib.hid hcall
    have hI : (65536 : Int) ≤ (s.1 : Int) := by omega
    clear hroom hcall x0 h1 h2 h3 h5 hok
    go_enter Try.func54, Try.ntmps54
    go_wp2_with fail
    go_ret
    rw [HC.out]
    exact RefEnd.same HH.out 3 (Fr.refl _ _)
  have hcall : hKill s key sure = (0, s.1 + 1, s.2 ++ [hKillNote key s.1 sure]) := by unfold hKill; rw [if_neg (by omega)]
  rw [hcall]
  clear hcall
  have hI : decide ((65536 : Int) ≤ (s.1 : Int)) = false := by simp; omega
  have hcnt : s.2.length ≤ 65536 := by have := hok.len; omega
  have HROOM := Lib.hid hroom
  have HKEY := Lib.hid hkey
  have HB : Hid (w.drew.heap[rb]? = some (.cells #[.int .i64 s.1, lv] 86 (0, 0))) := Lib.hid h1
  have HB1 := Lib.hid h1
  have HL := Lib.hid h2
  have HLd : Hid (GRow w.drew 132 25 lv s.2.length cs) := Lib.hid (h2.keep fun _ _ => rfl)
  have HR := Lib.hid h3
  have H5 := Lib.hid h5
  have fd : Fr (fun b => b = rb ∨ lv.ownBlock = some b) w w.drew := (Fr.refl _ _).drew
  clear x0 h1 h2 h3 h5 hok hroom hkey
  go_enter Try.func54, Try.ntmps54
  go_wp2_with fail
  clear e0 hI
  refine wp_draw [((fun y => y.heap[rb]? = some (.cells #[.int .i64 s.1, lv] 86 (0, 0))), [(.free, 0), (.free, 1), (.free, 2), (.free, 3), (.held, 4), (.free, 5), (.free, 6), (.free, 7), (.free, 8), (.free, 9), (.held, 10), (.free, 11), (.free, 12), (.free, 13), (.held, 14), (.free, 15), (.free, 16), (.free, 17), (.free, 18), (.kept, 19), (.kept, 20), (.free, 21), (.free, 22)])] 23 (by kernel_rfl) (by kernel_rfl) (fun _ _ _ _ _ h => h) ⟨HB.out, ?_⟩
  generalize w.drew = wd at HB HLd fd ⊢
  repeat (first
    | (refine' wpPlan_free (v := _) rfl (by rfl) ?_ ?_
       rotate_left
       · (intro w'; skip; go_simp; try rfl)
       simp only [List.getElem_toArray, List.getElem_cons_zero, List.getElem_cons_succ, Act.put, List.setIfInBounds_toArray, List.set_cons_zero, List.set_cons_succ])
    | (refine' wpPlan_held (v := _) rfl (by rfl) ?_ ?_
       rotate_left
       · (intro w' hS; skip; (obtain ⟨x0, _⟩ := box_facts hS; have e0 : w'.cell? ⟨rb, 0, none⟩ = some (.int .i64 s.1) := (by rw [x0]; rfl); have e1 : w'.cell? ⟨rb, 1, none⟩ = some lv := (by rw [x0]; rfl); clear x0 hS); go_simp; try rfl)
       simp only [List.getElem_toArray, List.getElem_cons_zero, List.getElem_cons_succ, Act.put, List.setIfInBounds_toArray, List.set_cons_zero, List.set_cons_succ])
    | (refine' wpPlan_skip rfl (by rfl) ?_
       simp only [List.getElem_toArray, List.getElem_cons_zero, List.getElem_cons_succ, Act.put, List.setIfInBounds_toArray, List.set_cons_zero, List.set_cons_succ])
    | (refine' wpPlan_skipHeld rfl (by rfl) ?_
       simp only [List.getElem_toArray, List.getElem_cons_zero, List.getElem_cons_succ, Act.put, List.setIfInBounds_toArray, List.set_cons_zero, List.set_cons_succ]))
  refine' wpPlan_kept rfl ?_
  intro K hK
  go_simp
  refine hK _ _ ⟨by rw [Below.heap_alloc _ _ _ (lt_of_block HB.out)]; exact HB.out, ?_⟩
  clear hK K
  refine' wpPlan_kept rfl ?_
  intro K hK
  refine step_append_g rfl _ _ eI132 rfl lv s.2.length cs rfl (HLd.out.keep fun b hb => ?k4) _ 1 [.int .i64 0, .bool true, .int .i64 2, .int .u64 key, .int .u64 0, .slice none 0 0, .int .i64 0, .int .u64 0, .slice none 0 0, .slice none 0 0, .int .i64 0, .int .i64 0, .int .u64 0, .int .i64 0, .int .u64 0, .int .i64 0, .int .i64 0, .int .u64 0, .int .i64 0, .int .u64 0, .bool false, .int .i64 s.1, .int .i64 s.1, .bool false, .bool (!sure)] rfl (Src.block (m := 1) (alloc_at wd _) rfl ?k5) ?k6 ?k7 ?_
  case k4 => exact Below.heap_alloc _ _ _ (HLd.out.lt b hb)
  case k5 => simp [Value.oneCell']
  case k6 => unfold maxLen; omega
  case k7 => omega
  intro lv' w2 t1 t2 t3 _
  have f12 : Fr (fun b => lv.ownBlock = some b) wd w2 := ((Fr.refl (fun b => lv.ownBlock = some b) wd).alloc _).trans2 t2 (fun _ _ h => h)
  have HB2 := Lib.hid (f12.heap HB.out (fun h => HLd.out.ne HB.out (by decide) h))
  refine hK _ _ ⟨HB2.out, ?_⟩
  clear hK K
  have T1 := Lib.hid t1
  have T3 := Lib.hid t3
  have F12 := Lib.hid f12
  have szd := fd.size
  have FD := Lib.hid fd
  obtain ⟨la, lc, rfl⟩ := t1.form
  clear t1 t2 t3 f12 fd
  repeat (first
    | (refine' wpPlan_free (v := _) rfl (by rfl) ?_ ?_
       rotate_left
       · (intro w'; skip; go_simp; try rfl)
       simp only [List.getElem_toArray, List.getElem_cons_zero, List.getElem_cons_succ, Act.put, List.setIfInBounds_toArray, List.set_cons_zero, List.set_cons_succ])
    | (refine' wpPlan_held (v := _) rfl (by rfl) ?_ ?_
       rotate_left
       · (intro w' hS; skip; skip; go_simp; try rfl)
       simp only [List.getElem_toArray, List.getElem_cons_zero, List.getElem_cons_succ, Act.put, List.setIfInBounds_toArray, List.set_cons_zero, List.set_cons_succ])
    | (refine' wpPlan_skip rfl (by rfl) ?_
       simp only [List.getElem_toArray, List.getElem_cons_zero, List.getElem_cons_succ, Act.put, List.setIfInBounds_toArray, List.set_cons_zero, List.set_cons_succ])
    | (refine' wpPlan_skipHeld rfl (by rfl) ?_
       simp only [List.getElem_toArray, List.getElem_cons_zero, List.getElem_cons_succ, Act.put, List.setIfInBounds_toArray, List.set_cons_zero, List.set_cons_succ]))
  refine wpPlan_end ?_
  simp only [wpSegs, List.drop_succ_cons, List.drop_zero]
  go_wp2_with (refine wpList_store_block rfl 84 _ _ rfl rb 1 rfl (.slice la (s.2.length + 1) lc) rfl #[.int .i64 s.1, lv] 86 HB2.out ?hfit ?hinf ?hone ?_)
  case hfit => simp [Value.cells]
  case hinf => kernel_rfl
  case hone => intro u hu; simp [Value.cells] at hu; subst hu; rfl
  intro w3 hbx f3
  replace hbx : w3.heap[rb]? = some (.cells #[.int .i64 s.1, .slice la (s.2.length + 1) lc] 86 (0, 0)) := by simpa [putAt, Value.cells] using hbx
  obtain ⟨lv', hlv'⟩ : ∃ v, Value.slice la (s.2.length + 1) lc = v := ⟨_, rfl⟩
  rw [hlv'] at T1 T3 hbx
  clear hlv'
  have HBX := Lib.hid hbx
  have F3 := Lib.hid f3
  obtain ⟨x0, z0⟩ := box_facts hbx
  have e0 : w3.cell? ⟨rb, 0, none⟩ = some (.int .i64 s.1) := by rw [x0]; rfl
  have z1 := z0 0
  have s63 : (s.1 : Int) + 1 ≤ 65536 := by have := HROOM.out; omega
  clear hbx f3 x0 z0
  go_wp2_with fail
  go_ret
  have T9 := (T1.out.keep (w' := w3) fun b hb1 => F3.out.block b (T1.out.lt b hb1) (fun e => by subst e; exact T1.out.ne HB2.out (by decide) hb1))
  have T10 := T9.keep (w' := w3.setCell ⟨rb, 0, none⟩ (.int .i64 ((s.1 : Int) + 1))) fun b hb1 => heap_setCell_other _ _ _ _ (fun e => by subst e; exact T9.ne HBX.out (by decide) hb1)
  refine RefEnd.push (x := hKillNote key s.1 sure) hk0 HL.out HR.out h4 H5.out HH.out.lt (by simpa using heap_setCell_same w3 rb 0 _ 86 (.int .i64 ((s.1 : Int) + 1)) HBX.out) T10 (not_of (x := hKillNote key s.1 sure) (hap_killed (n := (s.1 : Int)) (f := !sure) HKEY.out.1 HKEY.out.2 (wf_i64n (by have := HROOM.out; omega))) (by show (Lit.int .i64 0).wf = true; decide)) ?_ ?_
  · intro b hb1
    rcases T3.out with h | ⟨h, _⟩
    · exact .inl (h ▸ hb1)
    · rw [h] at hb1; cases hb1; right; (try simp); omega
  · exact (FD.out.trans ((F12.out.mono fun b _ h => .inr h).trans (F3.out.mono fun b _ h => .inl h))).setCell (p := ⟨rb, 0, none⟩) (.inl (.inl rfl)) _
end Go.Proofs.Ytplhcfaonhkegaa

namespace Go.Proofs.Ytplhcfaonhkegaa
open Go.RowKit Go.Maps

set_option maxRecDepth 100000 in
set_option maxHeartbeats 4000000 in
theorem rcall_no {c : Nat → Nat} {k : Nat} {w : World} {rb : Nat} {s : MHist} (h : RefAt c k w rb s) (hok : HistOk s) (q : Int) (x : MCall) (va : Option Addr) (vc : Nat)
    (hno : ((hOpenAt q s.2).isSome || (!mCallOk x || decide (65536 ≤ s.1))) = true) :
    Calls Try.prog 52 #[.pointer (some ⟨rb, 0, none⟩), .int .i64 q, .agg #[.int .i64 x.1, .int .u64 x.2.1, .int .u64 x.2.2.1, .slice va x.2.2.2.length vc]] w (RefEnd c k w rb (hCall s q x)) := by
  have HH := Lib.hid h
  obtain ⟨a, n, h1, hsl⟩ := h.sl
  obtain ⟨w0, hw0⟩ : ∃ w0, w.alloc (.cells #[.int .i64 x.1, .int .u64 x.2.1, .int .u64 x.2.2.1, .slice va x.2.2.2.length vc] 39) = w0 := ⟨_, rfl⟩
  have f0 : Fr Non w w0 := by rw [← hw0]; exact (Fr.refl _ _).alloc _
  have g1 := f0.heap h1 id
  have hop := Lib.hid (ropen_any g1 (hsl.stay f0) (by have := hok.len; have := hok.most; omega) rfl q)
  have b1 : w0.heap[w.heap.size]? = some (.cells #[.int .i64 x.1, .int .u64 x.2.1, .int .u64 x.2.2.1, .slice va x.2.2.2.length vc] 39 (0, 0)) := by rw [← hw0]; exact alloc_at w _
  obtain ⟨C, hC⟩ : ∃ C, w.heap.size = C := ⟨_, rfl⟩
  rw [hC] at b1
  obtain ⟨y0, _⟩ := box_facts b1
  have d0 : w0.cell? ⟨C, 0, none⟩ = some (.int .i64 x.1) := by rw [y0]; rfl
  have d1 : w0.cell? ⟨C, 1, none⟩ = some (.int .u64 x.2.1) := by rw [y0]; rfl
  have d2 : w0.cell? ⟨C, 2, none⟩ = some (.int .u64 x.2.2.1) := by rw [y0]; rfl
  have d3 : w0.cell? ⟨C, 3, none⟩ = some (.slice va x.2.2.2.length vc) := by rw [y0]; rfl
  have HG := Lib.hid g1
  have HN := Lib.hid hno
  clear y0 b1 g1 h h1 hsl hok hno
  cases ho : hOpenAt q s.2 with
  | some i =>
    have hr : rIdx q s.2 = (i : Int) := by unfold rIdx; rw [ho]
    rw [hr] at hop
    have HO := Lib.hid ho
    have i0 : (0 : Int) ≤ (i : Int) := by omega
    clear ho hr
    go_enter Try.func52, Try.ntmps52
    go_wp2_with fail
    (try rw [hw0])
    refine hop.out.mono ?_
    rintro e w' ⟨rfl, rfl⟩
    go_wp2_with fail
    go_ret
    rw [show hCall s q x = (220, s) by unfold hCall; rw [HO.out]]
    exact RefEnd.same HH.out 220 f0
  | none =>
    have hr : rIdx q s.2 = -1 := by unfold rIdx; rw [ho]
    rw [hr] at hop
    have HO := Lib.hid ho
    clear ho hr
    by_cases hc : mCallOk x = true
    · have hge : 65536 ≤ s.1 := by
        have := HN.out
        rw [HO.out, hc] at this
        simpa using this
      have HCE := Lib.hid (show mCall x = 0 by unfold mCall; rw [if_pos hc])
      have HC := Lib.hid hc
      have hI : (65536 : Int) ≤ (s.1 : Int) := by omega
      have HGE := Lib.hid hge
      clear hc hge
      go_enter Try.func52, Try.ntmps52
      go_wp2_with fail
      (try rw [hw0])
      refine hop.out.mono ?_
      rintro e w' ⟨rfl, rfl⟩
      go_wp2_with fail
      refine (rcall_any _ x va vc).mono ?_
      rintro e w1 ⟨rfl, f1⟩
      rw [HCE.out]
      obtain ⟨x0, z0⟩ := box_facts (f1.heap HG.out id)
      have e1 : w1.cell? ⟨rb, 0, none⟩ = some (.int .i64 s.1) := by rw [x0]; rfl
      clear x0 z0
      go_wp2_with fail
      go_ret
      rw [show hCall s q x = (3, s) by unfold hCall; rw [HO.out]; simp only [HC.out, if_true, HGE.out]]
      exact RefEnd.same HH.out 3 (f0.trans f1)
    · have HCE := Lib.hid (show mCall x = 104 by unfold mCall; rw [if_neg hc])
      have HC := Lib.hid hc
      clear hc
      go_enter Try.func52, Try.ntmps52
      go_wp2_with fail
      (try rw [hw0])
      refine hop.out.mono ?_
      rintro e w' ⟨rfl, rfl⟩
      go_wp2_with fail
      refine (rcall_any _ x va vc).mono ?_
      rintro e w1 ⟨rfl, f1⟩
      rw [HCE.out]
      go_wp2_with fail
      go_ret
      rw [show hCall s q x = (104, s) by unfold hCall; rw [HO.out]; simp only [HC.out, if_false, Bool.false_eq_true]]
      exact RefEnd.same HH.out 104 (f0.trans f1)

set_option maxRecDepth 100000 in
set_option maxHeartbeats 4000000 in
theorem rcall_yes {c : Nat → Nat} {k : Nat} (hk0 : k ≠ 0) {w : World} {rb : Nat} {s : MHist} (h : RefAt c k w rb s) (hok : HistOk s) (q : Int) (hid : (Lit.int .i64 q).wf = true) (x : MCall) (va : Option Addr) (vc : Nat)
    (hx : kCall.rd (fun b => c b = 0) w [.int .i64 x.1, .int .u64 x.2.1, .int .u64 x.2.2.1, .slice va x.2.2.2.length vc] x)
    (ho : hOpenAt q s.2 = none) (hcc : mCallOk x = true) (hroom : s.1 < 65536) :
    Calls Try.prog 52 #[.pointer (some ⟨rb, 0, none⟩), .int .i64 q, .agg #[.int .i64 x.1, .int .u64 x.2.1, .int .u64 x.2.2.1, .slice va x.2.2.2.length vc]] w (RefEnd c k w rb (hCall s q x)) := by
  have hcall : hCall s q x = (0, s.1 + 1, s.2 ++ [hNote q x s.1]) := by unfold hCall; rw [ho]; simp only [hcc, if_true]; rw [if_neg (by omega)]
  rw [hcall]
  clear hcall
  have HH := Lib.hid h
  obtain ⟨a, n, h1, hsl⟩ := h.sl
  obtain ⟨lv, cs, q1, h2, h3, h4, h5⟩ := h
  obtain ⟨w0, hw0⟩ : ∃ w0, w.alloc (.cells #[.int .i64 x.1, .int .u64 x.2.1, .int .u64 x.2.2.1, .slice va x.2.2.2.length vc] 39) = w0 := ⟨_, rfl⟩
  have f0 : Fr Non w w0 := by rw [← hw0]; exact (Fr.refl _ _).alloc _
  have hop := ropen_any (f0.heap h1 id) (hsl.stay f0) (by have := hok.len; omega) rfl q
  rw [show rIdx q s.2 = -1 by unfold rIdx; rw [ho]] at hop
  have HOP := Lib.hid hop
  have b1 : w0.heap[w.heap.size]? = some (.cells #[.int .i64 x.1, .int .u64 x.2.1, .int .u64 x.2.2.1, .slice va x.2.2.2.length vc] 39 (0, 0)) := by rw [← hw0]; exact alloc_at w _
  obtain ⟨C, hC⟩ : ∃ C, w.heap.size = C := ⟨_, rfl⟩
  rw [hC] at b1
  obtain ⟨y0, _⟩ := box_facts b1
  have d0 : w0.cell? ⟨C, 0, none⟩ = some (.int .i64 x.1) := by rw [y0]; rfl
  have d1 : w0.cell? ⟨C, 1, none⟩ = some (.int .u64 x.2.1) := by rw [y0]; rfl
  have d2 : w0.cell? ⟨C, 2, none⟩ = some (.int .u64 x.2.2.1) := by rw [y0]; rfl
  have d3 : w0.cell? ⟨C, 3, none⟩ = some (.slice va x.2.2.2.length vc) := by rw [y0]; rfl
  have HG := Lib.hid (f0.heap q1 id)
  have HB := Lib.hid b1
  have HX := Lib.hid hx
  have hbl : x.2.2.2.length ≤ reachBytes := by
    obtain ⟨_, e, _, hB, _⟩ := call_cells hx
    exact hB
  have HV := Lib.hid (show Sl kByte All w (.slice va x.2.2.2.length vc) x.2.2.2 by
    obtain ⟨_, e, hv, _⟩ := call_cells hx
    simp only [List.cons.injEq, true_and, and_true] at e
    rw [e]; exact hv.all)
  have HCE := Lib.hid (show mCall x = 0 by unfold mCall; rw [if_pos hcc])
  have hI : decide ((65536 : Int) ≤ (s.1 : Int)) = false := by simp; omega
  have hcnt : s.2.length ≤ 65536 := by have := hok.len; omega
  have HROOM := Lib.hid hroom
  have HL := Lib.hid h2
  have HR := Lib.hid h3
  have H5 := Lib.hid h5
  have HSZ := Lib.hid hC
  have HBL := Lib.hid hbl
  have hrbC : rb < C := by rw [← hC]; exact HH.out.lt
  have HQ := Lib.hid hid
  clear y0 b1 h1 q1 h2 h3 h5 hsl hok hx ho hcc hop hroom hbl hid
  go_enter Try.func52, Try.ntmps52
  go_wp2_with fail
  (try rw [hw0])
  refine HOP.out.mono ?_
  rintro e w' ⟨rfl, rfl⟩
  go_wp2_with fail
  refine (rcall_any _ x va vc).mono ?_
  rintro e w1 ⟨rfl, f1⟩
  rw [HCE.out]
  have HG1 := Lib.hid (f1.heap HG.out id)
  have HB1 := Lib.hid (f1.heap HB.out id)
  obtain ⟨x0, _⟩ := box_facts HG1.out
  have e1 : w1.cell? ⟨rb, 0, none⟩ = some (.int .i64 s.1) := by rw [x0]; rfl
  obtain ⟨y0, _⟩ := box_facts HB1.out
  have d30 : w1.cell? ⟨C, 3, none⟩ = some (.slice va x.2.2.2.length vc) := by rw [y0]; rfl
  have HSRC := Lib.hid (sl_src (HV.out.stay (f0.trans f1)))
  have sz1 : C < w1.heap.size := lt_of_block HB1.out
  clear x0 y0 d0 d1 d2 d3 HOP
  go_wp2_with (at_builtin; refine wpList_append_g rfl _ _ eI5 rfl (.slice (some ⟨w1.heap.size, 0, none⟩) 0 0) 0 [] rfl ⟨rfl, .inr ⟨_, 0, #[], rfl, alloc_at w1 _, Nat.le_refl _, by unfold maxLen; omega, by simp, by simp⟩⟩ _ x.2.2.2.length (bcs x.2.2.2) rfl (HSRC.out.alloc _) ?k2 ?k3 ?_)
  case k2 => unfold maxLen; have := HBL.out; have : reachBytes ≤ 140737488355328 := (by decide); omega
  case k3 => have := HBL.out; have : reachBytes ≤ 140737488355328 := (by decide); omega
  intro v2 w2 r1 r2 r3 _
  have f12 : Fr Non w1 w2 := ((Fr.refl Non w1).alloc _).trans2 r2 (fun b hb e => by simp [Value.ownBlock] at e; omega)
  have own2 : ∀ b, v2.ownBlock = some b → w1.heap.size ≤ b := by
    intro b hb
    rcases r3 with r3 | ⟨r3, _⟩
    · rw [r3] at hb; simp [Value.ownBlock] at hb; omega
    · rw [r3] at hb; cases hb; simp
  have HV2 : Hid (Sl kByte (fun b => w1.heap.size ≤ b) w2 v2 x.2.2.2) := Lib.hid (grow_sl (by simpa using r1) own2)
  have HG2 := Lib.hid (f12.heap HG1.out id)
  have HB2 := Lib.hid (f12.heap HB1.out id)
  obtain ⟨a2, n2, rfl⟩ : ∃ a n, v2 = .slice a x.2.2.2.length n := by simpa using r1.form
  have HF02 := Lib.hid (f0.trans (f1.trans f12))
  clear r1 r2 r3 own2 e1 d30 f1 f12 f0
  go_wp2_with (refine wpList_store_block rfl 37 _ _ rfl C 3 rfl (.slice a2 x.2.2.2.length n2) rfl #[.int .i64 x.1, .int .u64 x.2.1, .int .u64 x.2.2.1, .slice va x.2.2.2.length vc] 39 HB2.out ?hfit ?hinf ?hone ?_)
  case hfit => simp [Value.cells]
  case hinf => kernel_rfl
  case hone => intro u hu; simp [Value.cells] at hu; subst hu; rfl
  intro w3 hbx f3
  replace hbx : w3.heap[C]? = some (.cells #[.int .i64 x.1, .int .u64 x.2.1, .int .u64 x.2.2.1, .slice a2 x.2.2.2.length n2] 39 (0, 0)) := by simpa [putAt, Value.cells] using hbx
  have HG3 := Lib.hid (f3.heap HG2.out (by omega))
  have HB : Hid (w3.drew.heap[rb]? = some (.cells #[.int .i64 s.1, lv] 86 (0, 0))) := Lib.hid HG3.out
  have BX : Hid (w3.drew.heap[C]? = some (.cells #[.int .i64 x.1, .int .u64 x.2.1, .int .u64 x.2.2.1, .slice a2 x.2.2.2.length n2] 39 (0, 0))) := Lib.hid hbx
  have fd : Fr Non w w3.drew := (HF02.out.trans2 f3 (fun b hb e => by have := HSZ.out; omega)).drew
  have fd2 : Fr (fun b => b = C) w2 w3.drew := f3.drew
  have HLd : Hid (GRow w3.drew 132 25 lv s.2.length cs) := Lib.hid (HL.out.keep fun b hb => fd.block b (HL.out.lt b hb) id)
  clear hbx f3 HG3
  go_wp2_with fail
  refine wp_draw [((fun y => y.heap[rb]? = some (.cells #[.int .i64 s.1, lv] 86 (0, 0)) ∧ y.heap[C]? = some (.cells #[.int .i64 x.1, .int .u64 x.2.1, .int .u64 x.2.2.1, .slice a2 x.2.2.2.length n2] 39 (0, 0))), [(.free, 0), (.free, 1), (.free, 2), (.free, 3), (.held, 4), (.free, 5), (.held, 6), (.free, 7), (.free, 8), (.free, 9), (.held, 10), (.free, 11), (.free, 12), (.kept, 13), (.kept, 14), (.free, 15), (.free, 16)])] 17 (by kernel_rfl) (by kernel_rfl) (fun _ _ _ _ _ h => h) ⟨⟨HB.out, BX.out⟩, ?_⟩
  generalize w3.drew = wd at HB BX HLd fd fd2 ⊢
  repeat (first
    | (refine' wpPlan_free (v := _) rfl (by rfl) ?_ ?_
       rotate_left
       · (intro w'; skip; go_simp; try rfl)
       simp only [List.getElem_toArray, List.getElem_cons_zero, List.getElem_cons_succ, Act.put, List.setIfInBounds_toArray, List.set_cons_zero, List.set_cons_succ])
    | (refine' wpPlan_held (v := _) rfl (by rfl) ?_ ?_
       rotate_left
       · (intro w' hS; skip; (obtain ⟨x0, _⟩ := box_facts hS.1; obtain ⟨y0, _⟩ := box_facts hS.2; have e0 : w'.cell? ⟨rb, 0, none⟩ = some (.int .i64 s.1) := (by rw [x0]; rfl); have e1 : w'.cell? ⟨rb, 1, none⟩ = some lv := (by rw [x0]; rfl); have d0 : w'.cell? ⟨C, 0, none⟩ = some (.int .i64 x.1) := (by rw [y0]; rfl); have d1 : w'.cell? ⟨C, 1, none⟩ = some (.int .u64 x.2.1) := (by rw [y0]; rfl); have d2 : w'.cell? ⟨C, 2, none⟩ = some (.int .u64 x.2.2.1) := (by rw [y0]; rfl); have d3 : w'.cell? ⟨C, 3, none⟩ = some (.slice a2 x.2.2.2.length n2) := (by rw [y0]; rfl); clear x0 y0 hS); go_simp; try rfl)
       simp only [List.getElem_toArray, List.getElem_cons_zero, List.getElem_cons_succ, Act.put, List.setIfInBounds_toArray, List.set_cons_zero, List.set_cons_succ])
    | (refine' wpPlan_skip rfl (by rfl) ?_
       simp only [List.getElem_toArray, List.getElem_cons_zero, List.getElem_cons_succ, Act.put, List.setIfInBounds_toArray, List.set_cons_zero, List.set_cons_succ])
    | (refine' wpPlan_skipHeld rfl (by rfl) ?_
       simp only [List.getElem_toArray, List.getElem_cons_zero, List.getElem_cons_succ, Act.put, List.setIfInBounds_toArray, List.set_cons_zero, List.set_cons_succ]))
  refine' wpPlan_kept rfl ?_
  intro K hK
  go_simp
  refine hK _ _ ⟨⟨by rw [Below.heap_alloc _ _ _ (lt_of_block HB.out)]; exact HB.out, by rw [Below.heap_alloc _ _ _ (lt_of_block BX.out)]; exact BX.out⟩, ?_⟩
  clear hK K
  refine' wpPlan_kept rfl ?_
  intro K hK
  refine step_append_g rfl _ _ eI132 rfl lv s.2.length cs rfl (HLd.out.keep fun b hb => ?k4) _ 1 [.int .i64 q, .bool false, .int .i64 x.1, .int .u64 x.2.1, .int .u64 x.2.2.1, .slice a2 x.2.2.2.length n2, .int .i64 0, .int .u64 0, .slice none 0 0, .slice none 0 0, .int .i64 0, .int .i64 0, .int .u64 0, .int .i64 0, .int .u64 0, .int .i64 0, .int .i64 0, .int .u64 0, .int .i64 0, .int .u64 0, .bool false, .int .i64 s.1, .int .i64 0, .bool true, .bool false] rfl (Src.block (m := 1) (alloc_at wd _) rfl ?k5) ?k6 ?k7 ?_
  case k4 => exact Below.heap_alloc _ _ _ (HLd.out.lt b hb)
  case k5 => simp [Value.oneCell']
  case k6 => unfold maxLen; omega
  case k7 => omega
  intro lv' w4 t1 t2 t3 _
  have f34 : Fr (fun b => lv.ownBlock = some b) wd w4 := ((Fr.refl (fun b => lv.ownBlock = some b) wd).alloc _).trans2 t2 (fun _ _ h => h)
  have HB4 := Lib.hid (f34.heap HB.out (fun h => HLd.out.ne HB.out (by decide) h))
  have BX4 := Lib.hid (f34.heap BX.out (fun h => HLd.out.ne BX.out (by decide) h))
  refine hK _ _ ⟨⟨HB4.out, BX4.out⟩, ?_⟩
  clear hK K
  have T1 := Lib.hid t1
  have T3 := Lib.hid t3
  have F34 := Lib.hid f34
  have FD := Lib.hid fd
  have FD2 := Lib.hid fd2
  obtain ⟨la, lc, rfl⟩ := t1.form
  clear t1 t2 t3 f34 fd fd2
  repeat (first
    | (refine' wpPlan_free (v := _) rfl (by rfl) ?_ ?_
       rotate_left
       · (intro w'; skip; go_simp; try rfl)
       simp only [List.getElem_toArray, List.getElem_cons_zero, List.getElem_cons_succ, Act.put, List.setIfInBounds_toArray, List.set_cons_zero, List.set_cons_succ])
    | (refine' wpPlan_held (v := _) rfl (by rfl) ?_ ?_
       rotate_left
       · (intro w' hS; skip; skip; go_simp; try rfl)
       simp only [List.getElem_toArray, List.getElem_cons_zero, List.getElem_cons_succ, Act.put, List.setIfInBounds_toArray, List.set_cons_zero, List.set_cons_succ])
    | (refine' wpPlan_skip rfl (by rfl) ?_
       simp only [List.getElem_toArray, List.getElem_cons_zero, List.getElem_cons_succ, Act.put, List.setIfInBounds_toArray, List.set_cons_zero, List.set_cons_succ])
    | (refine' wpPlan_skipHeld rfl (by rfl) ?_
       simp only [List.getElem_toArray, List.getElem_cons_zero, List.getElem_cons_succ, Act.put, List.setIfInBounds_toArray, List.set_cons_zero, List.set_cons_succ]))
  refine wpPlan_end ?_
  simp only [wpSegs, List.drop_succ_cons, List.drop_zero]
  go_wp2_with (refine wpList_store_block rfl 84 _ _ rfl rb 1 rfl (.slice la (s.2.length + 1) lc) rfl #[.int .i64 s.1, lv] 86 HB4.out ?hfit ?hinf ?hone ?_)
  case hfit => simp [Value.cells]
  case hinf => kernel_rfl
  case hone => intro u hu; simp [Value.cells] at hu; subst hu; rfl
  intro w5 hbx f5
  replace hbx : w5.heap[rb]? = some (.cells #[.int .i64 s.1, .slice la (s.2.length + 1) lc] 86 (0, 0)) := by simpa [putAt, Value.cells] using hbx
  obtain ⟨lv', hlv'⟩ : ∃ v, Value.slice la (s.2.length + 1) lc = v := ⟨_, rfl⟩
  rw [hlv'] at T1 T3 hbx
  clear hlv'
  have HBX := Lib.hid hbx
  have F5 := Lib.hid f5
  obtain ⟨x0, z0⟩ := box_facts hbx
  have e0 : w5.cell? ⟨rb, 0, none⟩ = some (.int .i64 s.1) := by rw [x0]; rfl
  have z1 := z0 0
  have s63 : (s.1 : Int) + 1 ≤ 65536 := by have := HROOM.out; omega
  clear hbx f5 x0 z0
  go_wp2_with fail
  go_ret
  have hsz := HSZ.out
  have T9 := (T1.out.keep (w' := w5) fun b hb1 => F5.out.block b (T1.out.lt b hb1) (fun e => by subst e; exact T1.out.ne HB4.out (by decide) hb1))
  have T10 := T9.keep (w' := w5.setCell ⟨rb, 0, none⟩ (.int .i64 ((s.1 : Int) + 1))) fun b hb1 => heap_setCell_other _ _ _ _ (fun e => by subst e; exact T9.ne HBX.out (by decide) hb1)
  have fz : Fr (fun b => b = rb ∨ lv.ownBlock = some b) wd (w5.setCell ⟨rb, 0, none⟩ (.int .i64 ((s.1 : Int) + 1))) := ((F34.out.mono fun b _ h => .inr h).trans (F5.out.mono fun b _ h => .inl h)).setCell (p := ⟨rb, 0, none⟩) (.inl (.inl rfl)) _
  have own : ∀ b, lv'.ownBlock = some b → lv.ownBlock = some b ∨ w2.heap.size ≤ b := by
    intro b hb1
    rcases T3.out with h | ⟨h, _⟩
    · exact .inl (h ▸ hb1)
    · rw [h] at hb1; cases hb1; right; have := FD2.out.size; (try simp); omega
  have sz2 : w.heap.size ≤ w2.heap.size := HF02.out.size
  have hxn : kCall.rd (fun b => (b < w.heap.size ∧ c b = 0) ∨ (w.heap.size ≤ b ∧ lv'.ownBlock ≠ some b)) (w5.setCell ⟨rb, 0, none⟩ (.int .i64 ((s.1 : Int) + 1))) [.int .i64 x.1, .int .u64 x.2.1, .int .u64 x.2.2.1, .slice a2 x.2.2.2.length n2] x :=
    kCall.fr (call_put HX.out HV2.out : kCall.rd (fun b => w1.heap.size ≤ b) w2 _ x) (fun b hb1 hs => (fz.block b (Nat.lt_of_lt_of_le hb1 FD2.out.size) (by
      rintro (h | h)
      · omega
      · have := HL.out.lt b h; omega)).trans (FD2.out.block b hb1 (by omega))) (fun b hb1 hs => .inr ⟨by omega, fun h => by
        rcases own b h with h | h
        · have := HL.out.lt b h; omega
        · omega⟩)
  refine RefEnd.push (x := hNote q x s.1) hk0 HL.out HR.out h4 H5.out HH.out.lt (by simpa using heap_setCell_same w5 rb 0 _ 86 (.int .i64 ((s.1 : Int) + 1)) HBX.out) T10 (not_of (x := hNote q x s.1) (hap_note (n := (s.1 : Int)) hxn (wf_i64n (by have := HROOM.out; omega))) HQ.out) ?_ ?_
  · intro b hb1
    rcases own b hb1 with h | h
    · exact .inl h
    · right; omega
  · exact (FD.out.mono fun _ _ h => h.elim).trans fz

theorem rcall_at {c : Nat → Nat} {k : Nat} (hk0 : k ≠ 0) {w : World} {rb : Nat} {s : MHist} (h : RefAt c k w rb s) (hok : HistOk s) (q : Int) (hid : (Lit.int .i64 q).wf = true) (x : MCall) (va : Option Addr) (vc : Nat)
    (hx : kCall.rd (fun b => c b = 0) w [.int .i64 x.1, .int .u64 x.2.1, .int .u64 x.2.2.1, .slice va x.2.2.2.length vc] x) :
    Calls Try.prog 52 #[.pointer (some ⟨rb, 0, none⟩), .int .i64 q, .agg #[.int .i64 x.1, .int .u64 x.2.1, .int .u64 x.2.2.1, .slice va x.2.2.2.length vc]] w (RefEnd c k w rb (hCall s q x)) := by
  by_cases hno : ((hOpenAt q s.2).isSome || (!mCallOk x || decide (65536 ≤ s.1))) = true
  · exact rcall_no h hok q x va vc hno
  · simp only [Bool.or_eq_true, Bool.not_eq_true', decide_eq_true_eq, not_or, Bool.not_eq_true, Bool.not_eq_false] at hno
    obtain ⟨h1, h2, h3⟩ := hno
    exact rcall_yes hk0 h hok q hid x va vc hx (by simpa using h1) h2 (by omega)
end Go.Proofs.Ytplhcfaonhkegaa

namespace Go.Proofs.Ytplhcfaonhkegaa
open Go.RowKit Go.Maps

set_option maxRecDepth 100000 in
set_option maxHeartbeats 4000000 in
theorem rreply_no {c : Nat → Nat} {k : Nat} {w : World} {rb : Nat} {s : MHist} (h : RefAt c k w rb s) (hok : HistOk s) (q : Int) (r : MRes) (rcs : List Value)
    (hno : ((hOpenAt q s.2).isNone || decide (65536 ≤ s.1)) = true) :
    Calls Try.prog 53 #[.pointer (some ⟨rb, 0, none⟩), .int .i64 q, .agg rcs.toArray] w (RefEnd c k w rb (hReply s q r)) := by
  have HH := Lib.hid h
  obtain ⟨a, n, h1, hsl⟩ := h.sl
  obtain ⟨w0, hw0⟩ : ∃ w0, w.alloc (.cells rcs.toArray 52) = w0 := ⟨_, rfl⟩
  have f0 : Fr Non w w0 := by rw [← hw0]; exact (Fr.refl _ _).alloc _
  have g1 := f0.heap h1 id
  have hop := Lib.hid (ropen_any g1 (hsl.stay f0) (by have := hok.len; have := hok.most; omega) rfl q)
  obtain ⟨x0, _⟩ := box_facts g1
  have e1 : w0.cell? ⟨rb, 0, none⟩ = some (.int .i64 s.1) := by rw [x0]; rfl
  have HN := Lib.hid hno
  clear g1 h h1 hsl hok hno x0
  cases ho : hOpenAt q s.2 with
  | none =>
    have hr : rIdx q s.2 = -1 := by unfold rIdx; rw [ho]
    rw [hr] at hop
    have HO := Lib.hid ho
    clear ho hr
    go_enter Try.func53, Try.ntmps53
    go_wp2_with fail
    (try rw [hw0])
    refine hop.out.mono ?_
    rintro e w' ⟨rfl, rfl⟩
    go_wp2_with fail
    go_ret
    rw [show hReply s q r = (220, s) by unfold hReply; rw [HO.out]]
    exact RefEnd.same HH.out 220 f0
  | some i =>
    have hr : rIdx q s.2 = (i : Int) := by unfold rIdx; rw [ho]
    rw [hr] at hop
    have hge : 65536 ≤ s.1 := by
      have := HN.out
      rw [ho] at this
      simpa using this
    have HO := Lib.hid ho
    have hI : (65536 : Int) ≤ (s.1 : Int) := by omega
    have HGE := Lib.hid hge
    have i0 : (0 : Int) ≤ (i : Int) := by omega
    clear ho hr hge
    go_enter Try.func53, Try.ntmps53
    go_wp2_with fail
    (try rw [hw0])
    refine hop.out.mono ?_
    rintro e w' ⟨rfl, rfl⟩
    go_wp2_with fail
    go_ret
    rw [show hReply s q r = (3, s) by unfold hReply; rw [HO.out]; simp only [HGE.out, if_true]]
    exact RefEnd.same HH.out 3 f0

section
variable {P : Program} {w : World} {ops : Array Oper} {o : Oper} {a : Act} {K Q0 : Act → World → Prop} {Q : Exit → Act → World → Prop} {F : Prop}
theorem step_store_block (hgd : o.guard = none) (ty : TypeId) (x y : Operand) (ho : o.op = .store ty x y)
    (g off : Nat) (hx : a.eval x = .pointer (some ⟨g, off, none⟩)) (v : Value) (hy : a.eval y = v) (cur : Array Value) (e : TypeId) (hg : w.heap[g]? = some (.cells cur e (0, 0))) (hfit : off + v.cells.size ≤ cur.size)
    (hi : (P.info? ty).map (·.size) = some v.cells.size) (h1 : ∀ u ∈ v.cells.toList, u.oneCell' = true)
    (h : ∀ w', w'.heap[g]? = some (.cells (putAt cur.toList off v.cells.toList).toArray e (0, 0)) → Fr (fun i => i = g) w w' → K (a.put o.dst undef) w') :
    if Region.wanted o (yielded ops a.tmps) = true then Oper.wp P o a w K Q else F := by
  rw [if_pos (by simp [Region.wanted, hgd])]
  exact wp_store_block ty x y ho g off hx v hy cur e hg hfit hi h1 h
end
theorem HapLoad {D : Nat} {cs : List Value} (hl : cs.length = 23) {y : World} (h : y.heap[D]? = some (.cells cs.toArray 76 (0, 0))) :
    (do pure (Next.value (← Instr.loadAt 76 (.pointer (some ⟨D, 0, none⟩)))) : Sem Next).run Try.prog y = .ok (.value (.agg cs.toArray)) y := by
  have := run_loadAt_list (P := Try.prog) (w := y) (t := 76) (b := D) (o := 0) cs _ Try.underlying76 rfl (by rw [hl]; exact size76) (fun j v hv => by rw [cell_of_row y D _ _ _ _ h, Nat.zero_add]; simpa using hv)
  simp only [Sem.run_bind, this, Result.andThen_ok]
  rfl

set_option maxRecDepth 100000 in
set_option maxHeartbeats 4000000 in
theorem rreply_yes {c : Nat → Nat} {k : Nat} (hk0 : k ≠ 0) {w : World} {rb : Nat} {s : MHist} (h : RefAt c k w rb s) (hok : HistOk s) (q : Int) (r : MRes) (rcs : List Value)
    (hr : kRes.rd (fun b => c b = 0) w rcs r) {i : Nat} (hi : hOpenAt q s.2 = some i) (hroom : s.1 < 65536) :
    Calls Try.prog 53 #[.pointer (some ⟨rb, 0, none⟩), .int .i64 q, .agg rcs.toArray] w (RefEnd c k w rb (hReply s q r)) := by
  have hcall : hReply s q r = (0, s.1 + 1, s.2.modify i fun x => hReplied x r s.1) := by unfold hReply; rw [hi]; simp only; rw [if_neg (by omega)]
  rw [hcall]
  clear hcall
  have HH := Lib.hid h
  have hil : i < s.2.length := by
    obtain ⟨A0, x0, B0, hs2, hAi, _⟩ := hReply_parts hok hi r s.1
    rw [hs2]; simp; omega
  obtain ⟨a0, n0, k1, hsl⟩ := h.sl
  obtain ⟨lv, cs, h1, h2, h3, h4, h5⟩ := h
  obtain ⟨A, NE, B1, hcs, hA, hNE⟩ := h3.at i hil
  obtain ⟨X, hX⟩ : ∃ X, s.2[i] = X := ⟨_, rfl⟩
  rw [hX] at hNE
  obtain ⟨E0, rfl, hE, hidw⟩ := not_cells hNE
  obtain ⟨cc, rs, rfl, hcc, hrs, hc0, hcr, hfr⟩ := hap_parts hE
  rcases id h2.2 with ⟨rfl, h0⟩ | ⟨g, cap, cur, rfl, hg, g1, g2, g3, g4⟩
  · omega
  obtain ⟨rest, hrest⟩ : ∃ rest, cur.toList = cs ++ rest := ⟨_, by rw [← g4]; exact (List.take_append_drop _ _).symm⟩
  obtain ⟨B, hB⟩ : ∃ B, B1 ++ rest = B := ⟨_, rfl⟩
  obtain ⟨E0, hE0⟩ : ∃ E0, hapE cc rs X.2.2.2.2.1 X.2.2.2.2.2.1 X.2.2.2.2.2.2.1 X.2.2.2.2.2.2.2 = E0 := ⟨_, rfl⟩
  rw [hE0] at hcs
  have hcur : cur = (A ++ ((.int .i64 X.1 :: .bool X.2.1 :: E0) ++ B)).toArray := by
    have : cur.toList = A ++ ((.int .i64 X.1 :: .bool X.2.1 :: E0) ++ B) := by rw [hrest, hcs, ← hB]; simp
    rw [← this]
  have E0len : E0.length = 23 := by rw [← hE0]; exact hapE_len hcc hrs
  obtain ⟨w0, hw0⟩ : ∃ w0, w.alloc (.cells rcs.toArray 52) = w0 := ⟨_, rfl⟩
  have f0 : Fr Non w w0 := by rw [← hw0]; exact (Fr.refl _ _).alloc _
  have hop := ropen_any (f0.heap k1 id) (hsl.stay f0) (by have := hok.len; omega) rfl q
  rw [show rIdx q s.2 = (i : Int) by unfold rIdx; rw [hi]] at hop
  have HOP := Lib.hid hop
  obtain ⟨C, hC⟩ : ∃ C, w.heap.size = C := ⟨_, rfl⟩
  have b1 : w0.heap[C]? = some (.cells rcs.toArray 52 (0, 0)) := by rw [← hw0, ← hC]; exact alloc_at w _
  obtain ⟨D, hD⟩ : ∃ D, w0.heap.size = D := ⟨_, rfl⟩
  have gd := f0.heap hg id
  rw [hcur] at gd
  have q1 := f0.heap h1 id
  have HG := Lib.hid q1
  have HGC := Lib.hid gd
  have HB := Lib.hid b1
  obtain ⟨x0, _⟩ := box_facts q1
  have e0 : w0.cell? ⟨rb, 0, none⟩ = some (.int .i64 s.1) := by rw [x0]; rfl
  have e1 : w0.cell? ⟨rb, 1, none⟩ = some (.slice (some ⟨g, 0, none⟩) s.2.length cap) := by rw [x0]; rfl
  have hE0at : ∀ j v, E0[j]? = some v → w0.cell? ⟨g, i * 25 + 2 + j, none⟩ = some v := fun j v hv => by
    rw [cell_of_row w0 g _ _ _ _ gd, Nat.add_assoc]
    exact mid_at hA (by rw [show 2 + j = j + 1 + 1 by omega]; simpa using hv)
  have LD0 := Lib.hid (run_loadAt_list (P := Try.prog) (w := w0) (t := 76) (b := g) (o := i * 25 + 2) E0 _ Try.underlying76 rfl (by rw [E0len]; exact size76) hE0at)
  have ONE0 := Lib.hid (show ∀ u ∈ E0, u.oneCell' = true by rw [← hE0]; exact kHap.one hE)
  have rlen : rcs.length = 15 := kRes.len hr
  have rone := kRes.one hr
  have re : rcs[0]? = some (.int .i64 r.1) := by obtain ⟨_, _, rfl, _⟩ := res_cells hr; rfl
  have hI : decide ((65536 : Int) ≤ (s.1 : Int)) = false := by simp; omega
  have i0 : (0 : Int) ≤ (i : Int) := by omega
  have i1 : (i : Int) < (s.2.length : Int) := by omega
  have hrw : rb < w0.heap.size := lt_of_block q1
  have HROOM := Lib.hid hroom
  have HL := Lib.hid h2
  have HR := Lib.hid h3
  have H5 := Lib.hid h5
  have HCS := Lib.hid hcs
  have HA : Hid (A.length = i * 25) := Lib.hid hA
  have HE0 := Lib.hid hE0
  have HCC := Lib.hid hcc
  have HRS := Lib.hid hrs
  have HC0 := Lib.hid hc0
  have HCR := Lib.hid hcr
  have HFR := Lib.hid hfr
  have HIDW := Lib.hid hidw
  have HRD := Lib.hid hr
  have HRL := Lib.hid rlen
  have HRO := Lib.hid rone
  have HRE := Lib.hid re
  have HX := Lib.hid hX
  have HI := Lib.hid hi
  have HSZ := Lib.hid hC
  have HDZ := Lib.hid hD
  have HG3 := Lib.hid g3
  have HB1 := Lib.hid hB
  have HCU := Lib.hid hcur
  have HG0 := Lib.hid hg
  unfold maxLen at g2
  clear gd q1 x0 hE0at rlen rone re hroom h1 h2 h3 h5 hcs hA hE0 hcc hrs hc0 hcr hfr hidw hr hX hi hD g3 hB hcur hg hrest hop k1 hsl hok b1 hE hNE g4
  go_enter Try.func53, Try.ntmps53
  go_wp2_with fail
  (try rw [hw0])
  refine HOP.out.mono ?_
  rintro e w' ⟨rfl, rfl⟩
  clear HOP
  go_wp2_with (first | refine wpList_load_v rfl 76 _ rfl (.pointer (some ⟨g, i * 25 + 2, none⟩)) rfl _ LD0.out ?_ | refine wpList_store_block rfl 76 _ _ rfl w0.heap.size 0 rfl (.agg E0.toArray) rfl _ 76 (alloc_at w0 _) ?hfit ?hinf ?hone ?_)
  case hinf => rw [show (Value.agg E0.toArray).cells.size = 23 by simp [Value.cells, E0len]]; kernel_rfl
  case hfit => simp [Value.cells, E0len]
  case hone => intro u hu; exact ONE0.out u (by simpa [Value.cells] using hu)
  intro w2 hbx f2
  rw [putAt_whole _ _ (by simp [Value.cells, E0len])] at hbx
  replace hbx : w2.heap[w0.heap.size]? = some (.cells E0.toArray 76 (0, 0)) := by simpa [Value.cells] using hbx
  have f02 : Fr Non w0 w2 := ((Fr.refl Non w0).alloc _).trans2 f2 (fun b hb he => by omega)
  rw [HDZ.out] at hbx ⊢
  have hDC : D ≠ C := by have := lt_of_block HB.out; have := HDZ.out; omega
  have hDr : D ≠ rb := by have := lt_of_block HG.out; have := HDZ.out; omega
  have hDg : D ≠ g := by have := lt_of_block HGC.out; have := HDZ.out; omega
  have hgr : g ≠ rb := by
    obtain ⟨_, _, hh, _⟩ := HH.out
    exact fun e => HL.out.ne hh (by decide) (by rw [e]; rfl)
  have hgC : g ≠ C := by have := lt_of_block HG0.out; have := HSZ.out; omega
  have hCr : C ≠ rb := by have := HH.out.lt; have := HSZ.out; omega
  have HD2 : Hid (w2.drew.heap[D]? = some (.cells (hapE cc rs X.2.2.2.2.1 X.2.2.2.2.2.1 X.2.2.2.2.2.2.1 X.2.2.2.2.2.2.2).toArray 76 (0, 0))) := Lib.hid (by rw [HE0.out]; exact hbx)
  have HG2 : Hid (w2.drew.heap[rb]? = some (.cells #[.int .i64 s.1, .slice (some ⟨g, 0, none⟩) s.2.length cap] 86 (0, 0))) := Lib.hid (f02.heap HG.out id)
  have HC2 : Hid (w2.drew.heap[C]? = some (.cells rcs.toArray 52 (0, 0))) := Lib.hid (f02.heap HB.out id)
  have HGC2 : Hid (w2.drew.heap[g]? = some (.cells (A ++ ((.int .i64 X.1 :: .bool X.2.1 :: E0) ++ B)).toArray 132 (0, 0))) := Lib.hid (f02.heap HGC.out id)
  have fd : Fr Non w w2.drew := (f0.trans f02).drew
  have LDR : Hid (∀ y : World, y.heap[C]? = some (.cells rcs.toArray 52 (0, 0)) → (do pure (Next.value (← Instr.loadAt 52 (.pointer (some ⟨C, 0, none⟩)))) : Sem Next).run Try.prog y = .ok (.value (.agg rcs.toArray)) y) := Lib.hid (fun y hy => RepLoad HRL.out hy)
  clear hbx f2 f02 e0 e1 LD0 f0
  go_wp2_with fail
  refine wp_draw [((fun y => y.heap[C]? = some (.cells rcs.toArray 52 (0, 0)) ∧ y.heap[rb]? = some (.cells #[.int .i64 s.1, .slice (some ⟨g, 0, none⟩) s.2.length cap] 86 (0, 0))), [(.held, 0), (.free, 1), (.free, 2), (.free, 3), (.held, 4), (.free, 5), (.kept, 6), (.free, 7), (.kept, 8), (.free, 9), (.kept, 10)])] 11 (by kernel_rfl) (by kernel_rfl) (fun _ _ _ _ _ h => h) ⟨⟨HC2.out, HG2.out⟩, ?_⟩
  generalize w2.drew = wd at HD2 HG2 HC2 HGC2 fd ⊢
  repeat (first
    | (refine' wpPlan_free (v := _) rfl (by rfl) ?_ ?_
       rotate_left
       · (intro w'; skip; go_simp; try rfl)
       simp only [List.getElem_toArray, List.getElem_cons_zero, List.getElem_cons_succ, Act.put, List.setIfInBounds_toArray, List.set_cons_zero, List.set_cons_succ])
    | (refine' wpPlan_held (v := _) rfl (by rfl) (fun w' hS => LDR.out w' hS.1) ?_
       simp only [List.getElem_toArray, List.getElem_cons_zero, List.getElem_cons_succ, Act.put, List.setIfInBounds_toArray, List.set_cons_zero, List.set_cons_succ])
    | (refine' wpPlan_held (v := _) rfl (by rfl) ?_ ?_
       rotate_left
       · (intro w' hS; skip; (obtain ⟨x0, _⟩ := box_facts hS.2; have e0 : w'.cell? ⟨rb, 0, none⟩ = some (.int .i64 s.1) := (by rw [x0]; rfl); clear x0 hS); go_simp; try rfl)
       simp only [List.getElem_toArray, List.getElem_cons_zero, List.getElem_cons_succ, Act.put, List.setIfInBounds_toArray, List.set_cons_zero, List.set_cons_succ])
    | (refine' wpPlan_skip rfl (by rfl) ?_
       simp only [List.getElem_toArray, List.getElem_cons_zero, List.getElem_cons_succ, Act.put, List.setIfInBounds_toArray, List.set_cons_zero, List.set_cons_succ])
    | (refine' wpPlan_skipHeld rfl (by rfl) ?_
       simp only [List.getElem_toArray, List.getElem_cons_zero, List.getElem_cons_succ, Act.put, List.setIfInBounds_toArray, List.set_cons_zero, List.set_cons_succ]))
  have HF4 : Hid (4 + (Value.agg rcs.toArray).cells.size ≤ (hapE cc rs X.2.2.2.2.1 X.2.2.2.2.2.1 X.2.2.2.2.2.2.1 X.2.2.2.2.2.2.2).toArray.size) := Lib.hid (by simp [Value.cells, hapE_len HCC.out HRS.out, HRL.out])
  have HS4 : Hid ((Try.prog.info? 52).map (·.size) = some (Value.agg rcs.toArray).cells.size) := Lib.hid (by rw [show (Value.agg rcs.toArray).cells.size = 15 by simp [Value.cells, HRL.out]]; exact size52)
  have HO4 : Hid (∀ u ∈ (Value.agg rcs.toArray).cells.toList, u.oneCell' = true) := Lib.hid (fun u hu => HRO.out u (by simpa [Value.cells] using hu))
  refine' wpPlan_kept rfl ?_
  intro K hK
  refine step_store_block rfl 52 _ _ rfl D 4 rfl (.agg rcs.toArray) rfl _ 76 HD2.out HF4.out HS4.out HO4.out ?_
  intro w3 hb3 f3
  replace hb3 : w3.heap[D]? = some (.cells (putAt (hapE cc rs X.2.2.2.2.1 X.2.2.2.2.2.1 X.2.2.2.2.2.2.1 X.2.2.2.2.2.2.2) 4 rcs).toArray 76 (0, 0)) := by simpa [Value.cells] using hb3
  rw [hapE_res HCC.out HRS.out HRL.out] at hb3
  have HD3 := Lib.hid hb3
  have HC3 := Lib.hid (f3.heap HC2.out hDC.symm)
  have HG3' := Lib.hid (f3.heap HG2.out hDr.symm)
  refine hK _ _ ⟨⟨HC3.out, HG3'.out⟩, ?_⟩
  clear hK K hb3
  repeat (first
    | (refine' wpPlan_free (v := _) rfl (by rfl) ?_ ?_
       rotate_left
       · (intro w'; skip; go_simp; try rfl)
       simp only [List.getElem_toArray, List.getElem_cons_zero, List.getElem_cons_succ, Act.put, List.setIfInBounds_toArray, List.set_cons_zero, List.set_cons_succ])
    | (refine' wpPlan_held (v := _) rfl (by rfl) ?_ ?_
       rotate_left
       · (intro w' hS; skip; skip; go_simp; try rfl)
       simp only [List.getElem_toArray, List.getElem_cons_zero, List.getElem_cons_succ, Act.put, List.setIfInBounds_toArray, List.set_cons_zero, List.set_cons_succ])
    | (refine' wpPlan_skip rfl (by rfl) ?_
       simp only [List.getElem_toArray, List.getElem_cons_zero, List.getElem_cons_succ, Act.put, List.setIfInBounds_toArray, List.set_cons_zero, List.set_cons_succ])
    | (refine' wpPlan_skipHeld rfl (by rfl) ?_
       simp only [List.getElem_toArray, List.getElem_cons_zero, List.getElem_cons_succ, Act.put, List.setIfInBounds_toArray, List.set_cons_zero, List.set_cons_succ]))
  refine' wpPlan_kept rfl ?_
  intro K hK
  refine step_store_block rfl 3 _ _ rfl D 20 rfl (.int .i64 s.1) rfl _ 76 HD3.out ?f1 ?f2 ?f3 ?_
  case f1 => simp [Value.cells, hapE_len HCC.out HRL.out]
  case f2 => exact size3
  case f3 => intro u hu; simp [Value.cells] at hu; subst hu; rfl
  intro w4 hb4 f4
  replace hb4 : w4.heap[D]? = some (.cells (putAt (hapE cc rcs X.2.2.2.2.1 X.2.2.2.2.2.1 X.2.2.2.2.2.2.1 X.2.2.2.2.2.2.2) 20 [.int .i64 s.1]).toArray 76 (0, 0)) := by simpa [Value.cells] using hb4
  rw [hapE_to HCC.out HRL.out] at hb4
  have HD4 := Lib.hid hb4
  have HC4 := Lib.hid (f4.heap HC3.out hDC.symm)
  have HG4 := Lib.hid (f4.heap HG3'.out hDr.symm)
  refine hK _ _ ⟨⟨HC4.out, HG4.out⟩, ?_⟩
  clear hK K hb4
  repeat (first
    | (refine' wpPlan_free (v := _) rfl (by rfl) ?_ ?_
       rotate_left
       · (intro w'; skip; go_simp; try rfl)
       simp only [List.getElem_toArray, List.getElem_cons_zero, List.getElem_cons_succ, Act.put, List.setIfInBounds_toArray, List.set_cons_zero, List.set_cons_succ])
    | (refine' wpPlan_held (v := _) rfl (by rfl) ?_ ?_
       rotate_left
       · (intro w' hS; skip; skip; go_simp; try rfl)
       simp only [List.getElem_toArray, List.getElem_cons_zero, List.getElem_cons_succ, Act.put, List.setIfInBounds_toArray, List.set_cons_zero, List.set_cons_succ])
    | (refine' wpPlan_skip rfl (by rfl) ?_
       simp only [List.getElem_toArray, List.getElem_cons_zero, List.getElem_cons_succ, Act.put, List.setIfInBounds_toArray, List.set_cons_zero, List.set_cons_succ])
    | (refine' wpPlan_skipHeld rfl (by rfl) ?_
       simp only [List.getElem_toArray, List.getElem_cons_zero, List.getElem_cons_succ, Act.put, List.setIfInBounds_toArray, List.set_cons_zero, List.set_cons_succ]))
  refine' wpPlan_kept rfl ?_
  intro K hK
  refine step_store_block rfl 4 _ _ rfl D 21 rfl (.bool false) rfl _ 76 HD4.out ?f4 ?f5 ?f6 ?_
  case f4 => simp [Value.cells, hapE_len HCC.out HRL.out]
  case f5 => exact size4
  case f6 => intro u hu; simp [Value.cells] at hu; subst hu; rfl
  intro w5 hb5 f5
  replace hb5 : w5.heap[D]? = some (.cells (putAt (hapE cc rcs X.2.2.2.2.1 s.1 X.2.2.2.2.2.2.1 X.2.2.2.2.2.2.2) 21 [.bool false]).toArray 76 (0, 0)) := by simpa [Value.cells] using hb5
  rw [hapE_open HCC.out HRL.out] at hb5
  have HD5 := Lib.hid hb5
  have HC5 := Lib.hid (f5.heap HC4.out hDC.symm)
  have HG5 := Lib.hid (f5.heap HG4.out hDr.symm)
  refine hK _ _ ⟨⟨HC5.out, HG5.out⟩, ?_⟩
  clear hK K
  have f25 := (f3.trans f4).trans f5
  have HGC5 := Lib.hid (f25.heap HGC2.out hDg.symm)
  have F25 : Hid (Fr (fun b => b = D) wd w5) := Lib.hid f25
  have FD := Lib.hid fd
  obtain ⟨kd, hkd⟩ : ∃ kd, X.2.2.1.1 = kd := ⟨_, rfl⟩
  obtain ⟨e, he⟩ : ∃ e, r.1 = e := ⟨_, rfl⟩
  have HKD := Lib.hid hkd
  have HE1 := Lib.hid he
  obtain ⟨x0, _⟩ := box_facts HC5.out
  have c0 : w5.cell? ⟨C, 0, none⟩ = some (.int .i64 e) := by rw [x0, ← he]; simpa using HRE.out
  obtain ⟨y0, _⟩ := box_facts hb5
  have d0 : w5.cell? ⟨D, 0, none⟩ = some (.int .i64 kd) := by
    rw [y0, ← hkd]
    unfold hapE
    have := HC0.out
    simp only [List.getElem?_toArray]
    rw [List.getElem?_append_left (by rw [HCC.out]; omega)]; exact this
  clear x0 y0 hb5 f3 f4 f5 f25 fd hkd he
  refine wpPlan_end ?_
  simp only [wpSegs, List.drop_succ_cons, List.drop_zero]
  go_wp2_with fail
  refine (rfree_any w5 kd e).mono ?_
  rintro en w' ⟨rfl, rfl⟩
  go_wp2_with (refine wpList_store_block rfl 4 _ _ rfl D 22 rfl (.bool (hFree kd e)) rfl _ 76 HD5.out ?f7 size4 ?f9 ?_)
  case f7 => simp [Value.cells, hapE_len HCC.out HRL.out]
  case f9 => intro u hu; simp [Value.cells] at hu; subst hu; rfl
  intro w6 hb6 f6
  replace hb6 : w6.heap[D]? = some (.cells (putAt (hapE cc rcs X.2.2.2.2.1 s.1 false X.2.2.2.2.2.2.2) 22 [.bool (hFree kd e)]).toArray 76 (0, 0)) := by simpa [Value.cells] using hb6
  rw [hapE_free HCC.out HRL.out] at hb6
  obtain ⟨E1, hE1⟩ : ∃ E1, hapE cc rcs X.2.2.2.2.1 s.1 false (hFree kd e) = E1 := ⟨_, rfl⟩
  rw [hE1] at hb6
  have E1len : E1.length = 23 := by rw [← hE1]; exact hapE_len HCC.out HRL.out
  have E1one : ∀ u ∈ E1, u.oneCell' = true := by
    rw [← hE1]; intro u hu
    unfold hapE at hu
    rcases List.mem_append.1 hu with hu | hu
    · exact kCall.one HCR.out u hu
    · rcases List.mem_append.1 hu with hu | hu
      · exact HRO.out u hu
      · simp at hu; rcases hu with rfl | rfl | rfl | rfl <;> rfl
  have HEE := Lib.hid hE1
  have HD6 : Hid (w6.drew.heap[D]? = some (.cells E1.toArray 76 (0, 0))) := Lib.hid hb6
  have HG6 : Hid (w6.drew.heap[rb]? = some (.cells #[.int .i64 s.1, .slice (some ⟨g, 0, none⟩) s.2.length cap] 86 (0, 0))) := Lib.hid (f6.heap HG5.out hDr.symm)
  have HGC6 : Hid (w6.drew.heap[g]? = some (.cells (A ++ ((.int .i64 X.1 :: .bool X.2.1 :: E0) ++ B)).toArray 132 (0, 0))) := Lib.hid (f6.heap HGC5.out hDg.symm)
  have F26 : Fr (fun b => b = D) wd w6.drew := (F25.out.trans f6).drew
  have LDE : Hid (∀ y : World, y.heap[D]? = some (.cells E1.toArray 76 (0, 0)) → (do pure (Next.value (← Instr.loadAt 76 (.pointer (some ⟨D, 0, none⟩)))) : Sem Next).run Try.prog y = .ok (.value (.agg E1.toArray)) y) := Lib.hid (fun y hy => HapLoad E1len hy)
  have HLN := Lib.hid E1len
  have HON := Lib.hid E1one
  clear hb6 f6 hE1 E1len E1one c0 d0
  go_wp2_with fail
  refine wp_draw [((fun y => y.heap[D]? = some (.cells E1.toArray 76 (0, 0)) ∧ y.heap[rb]? = some (.cells #[.int .i64 s.1, .slice (some ⟨g, 0, none⟩) s.2.length cap] 86 (0, 0))), [(.free, 0), (.free, 1), (.free, 2), (.held, 3), (.free, 4), (.held, 5), (.free, 6), (.free, 7)])] 8 (by kernel_rfl) (by kernel_rfl) (fun _ _ _ _ _ h => h) ⟨⟨HD6.out, HG6.out⟩, ?_⟩
  generalize w6.drew = we at HD6 HG6 HGC6 F26 ⊢
  repeat (first
    | (refine' wpPlan_free (v := _) rfl (by rfl) ?_ ?_
       rotate_left
       · (intro w'; skip; go_simp; try rfl)
       simp only [List.getElem_toArray, List.getElem_cons_zero, List.getElem_cons_succ, Act.put, List.setIfInBounds_toArray, List.set_cons_zero, List.set_cons_succ])
    | (refine' wpPlan_held (v := _) rfl (by rfl) (fun w' hS => LDE.out w' hS.1) ?_
       simp only [List.getElem_toArray, List.getElem_cons_zero, List.getElem_cons_succ, Act.put, List.setIfInBounds_toArray, List.set_cons_zero, List.set_cons_succ])
    | (refine' wpPlan_held (v := _) rfl (by rfl) ?_ ?_
       rotate_left
       · (intro w' hS; skip; (obtain ⟨x0, _⟩ := box_facts hS.2; have e0 : w'.cell? ⟨rb, 1, none⟩ = some (.slice (some ⟨g, 0, none⟩) s.2.length cap) := (by rw [x0]; rfl); clear x0 hS); go_simp; try rfl)
       simp only [List.getElem_toArray, List.getElem_cons_zero, List.getElem_cons_succ, Act.put, List.setIfInBounds_toArray, List.set_cons_zero, List.set_cons_succ])
    | (refine' wpPlan_skip rfl (by rfl) ?_
       simp only [List.getElem_toArray, List.getElem_cons_zero, List.getElem_cons_succ, Act.put, List.setIfInBounds_toArray, List.set_cons_zero, List.set_cons_succ])
    | (refine' wpPlan_skipHeld rfl (by rfl) ?_
       simp only [List.getElem_toArray, List.getElem_cons_zero, List.getElem_cons_succ, Act.put, List.setIfInBounds_toArray, List.set_cons_zero, List.set_cons_succ]))
  refine wpPlan_end ?_
  simp only [wpSegs, List.drop_succ_cons, List.drop_zero]
  have HFT : Hid (2 + E1.length ≤ (Value.int .i64 X.1 :: .bool X.2.1 :: E0).length) := Lib.hid (by rw [HLN.out]; simp [E0len])
  have HIN : Hid ((Try.prog.info? 76).map (·.size) = some E1.length) := Lib.hid (by rw [HLN.out]; exact size76)
  have HPT : Hid (putAt (Value.int .i64 X.1 :: .bool X.2.1 :: E0) 2 E1 = Value.int .i64 X.1 :: .bool X.2.1 :: E1) := Lib.hid (by
    have := putAt_right (A := [Value.int .i64 X.1, .bool X.2.1]) (B := E0) (vs := E1) (o := 2) (by simp)
    simp only [List.cons_append, List.nil_append, List.length_cons, List.length_nil, Nat.sub_self] at this
    rw [this, putAt_whole _ _ (by rw [E0len, HLN.out])])
  go_wp2_with (refine wpList_store_mid rfl 76 _ _ rfl g (i * 25) 2 rfl (.agg E1.toArray) rfl A _ B 132 HGC6.out HA.out E1 rfl HFT.out HIN.out HON.out _ HPT.out ?_)
  intro w7 hb7 f7
  have HGC7 := Lib.hid hb7
  have HG7 := Lib.hid (f7.heap HG6.out hgr.symm)
  have F7 := Lib.hid f7
  have FE := Lib.hid F26
  obtain ⟨x0, z0⟩ := box_facts HG7.out
  have e0 : w7.cell? ⟨rb, 0, none⟩ = some (.int .i64 s.1) := by rw [x0]; rfl
  have z1 := z0 0
  have s63 : (s.1 : Int) + 1 ≤ 65536 := by have := HROOM.out; omega
  clear hb7 f7 x0 z0 F26
  go_wp2_with fail
  go_ret
  have hsz := HSZ.out
  have hdz := HDZ.out
  have sz0 : w.heap.size ≤ w0.heap.size := by have := lt_of_block HB.out; omega
  have hgw := lt_of_block HG0.out
  have hrw' := HH.out.lt
  have FZ : Fr (fun b => b = D ∨ b = g ∨ b = rb) wd (w7.setCell ⟨rb, 0, none⟩ (.int .i64 ((s.1 : Int) + 1))) := ((FE.out.mono fun b _ h => .inl h).trans (F7.out.mono fun b _ h => .inr (.inl h))).setCell (p := ⟨rb, 0, none⟩) (.inl (.inr (.inr rfl))) _
  have FW : Fr (fun b => b = g ∨ b = rb) w (w7.setCell ⟨rb, 0, none⟩ (.int .i64 ((s.1 : Int) + 1))) := (FD.out.mono fun _ _ h => h.elim).trans2 FZ (fun b hb1 h => by
    rcases h with h | h
    · omega
    · exact h)
  have cg : c g = k := H5.out g rfl
  have FT : Fr (fun b => c b = k) w (w7.setCell ⟨rb, 0, none⟩ (.int .i64 ((s.1 : Int) + 1))) := FW.mono fun b _ h => by
    rcases h with rfl | rfl
    · exact cg
    · exact h4
  have keep1 : ∀ b, b < w.heap.size → c b = 0 → (w7.setCell ⟨rb, 0, none⟩ (.int .i64 ((s.1 : Int) + 1))).heap[b]? = w.heap[b]? := fun b hb1 hs => FT.block b hb1 (fun h => hk0 (h ▸ hs))
  have zold : Row kNot (fun b => c b = 0) (w7.setCell ⟨rb, 0, none⟩ (.int .i64 ((s.1 : Int) + 1))) cs s.2 := HR.out.fr keep1 (fun _ _ h => h)
  rw [HCS.out, List.append_assoc] at zold
  have hy : kNot.rd (fun b => c b = 0) (w7.setCell ⟨rb, 0, none⟩ (.int .i64 ((s.1 : Int) + 1))) (.int .i64 X.1 :: .bool X.2.1 :: E1) ((fun x : MNot => hReplied x r s.1) s.2[i]) := by
    rw [HX.out, ← HEE.out, ← HKD.out, ← HE1.out]
    exact not_of (x := hReplied X r s.1) (hap_of (kCall.fr HCR.out keep1 (fun _ _ h => h)) (kRes.fr HRD.out keep1 (fun _ _ h => h)) HFR.out (wf_i64n (by have := HROOM.out; omega))) HIDW.out
  have hrow := Row.put (f := fun x : MNot => hReplied x r s.1) zold hil HA.out (by show (Value.int .i64 X.1 :: .bool X.2.1 :: E0).length = 25; simp [E0len]) hy
  have hcl : (A ++ ((Value.int .i64 X.1 :: .bool X.2.1 :: E1) ++ B1)).length = s.2.length * 25 := by
    have h := HL.out.1
    rw [HCS.out] at h
    simp only [List.length_append, List.length_cons] at h ⊢
    have := HLN.out
    omega
  have G7 : (w7.setCell ⟨rb, 0, none⟩ (.int .i64 ((s.1 : Int) + 1))).heap[g]? = some (.cells (A ++ ((Value.int .i64 X.1 :: .bool X.2.1 :: E1) ++ B)).toArray 132 (0, 0)) := by
    rw [heap_setCell_other _ _ _ _ hgr]; exact HGC7.out
  have hG : GRow (w7.setCell ⟨rb, 0, none⟩ (.int .i64 ((s.1 : Int) + 1))) 132 25 (.slice (some ⟨g, 0, none⟩) s.2.length cap) (s.2.modify i fun x => hReplied x r s.1).length (A ++ ((Value.int .i64 X.1 :: .bool X.2.1 :: E1) ++ B1)) := by
    rw [List.length_modify]
    refine ⟨hcl, .inr ⟨g, cap, _, rfl, G7, g1, by unfold maxLen; omega, ?_, ?_⟩⟩
    · have h := HG3.out
      rw [HCU.out] at h
      have := HLN.out
      simp only [List.size_toArray, List.length_append, List.length_cons] at h ⊢
      omega
    · simp only
      rw [← HB1.out, ← hcl]
      have : A ++ ((Value.int .i64 X.1 :: .bool X.2.1 :: E1) ++ (B1 ++ rest)) = (A ++ ((Value.int .i64 X.1 :: .bool X.2.1 :: E1) ++ B1)) ++ rest := by simp
      rw [this]
      exact List.take_left
  exact ⟨rfl, FT, c, ⟨_, _, by simpa using heap_setCell_same w7 rb 0 _ 86 (.int .i64 ((s.1 : Int) + 1)) HG7.out, hG, hrow, h4, fun b h => H5.out b (by simpa [Value.ownBlock] using h)⟩, fun _ _ => rfl⟩

theorem rreply_at {c : Nat → Nat} {k : Nat} (hk0 : k ≠ 0) {w : World} {rb : Nat} {s : MHist} (h : RefAt c k w rb s) (hok : HistOk s) (q : Int) (r : MRes) (rcs : List Value)
    (hr : kRes.rd (fun b => c b = 0) w rcs r) :
    Calls Try.prog 53 #[.pointer (some ⟨rb, 0, none⟩), .int .i64 q, .agg rcs.toArray] w (RefEnd c k w rb (hReply s q r)) := by
  by_cases hno : ((hOpenAt q s.2).isNone || decide (65536 ≤ s.1)) = true
  · exact rreply_no h hok q r rcs hno
  · simp only [Bool.or_eq_true, decide_eq_true_eq, not_or, Bool.not_eq_true] at hno
    obtain ⟨h1, h2⟩ := hno
    obtain ⟨i, hi⟩ : ∃ i, hOpenAt q s.2 = some i := by
      cases ho : hOpenAt q s.2 with
      | none => rw [ho] at h1; cases h1
      | some i => exact ⟨i, rfl⟩
    exact rreply_yes hk0 h hok q r rcs hr hi (by omega)
end Go.Proofs.Ytplhcfaonhkegaa
