/-
  HistOrder: the places of a history, the walk, the row.
-/
import Derived.Test.YtplhcfaonhkegaaH12
import Derived.Test.YtplhcfaonhkegaaH33b
import Derived.Test.YtplhcfaonhkegaaH33c
import Derived.Test.YtplhcfaonhkegaaH33d
import Derived.Deep.CutBlock
import Derived.Test.YtplhcfaonhkegaaP0x
import Derived.Carry
namespace Go.Proofs.Ytplhcfaonhkegaa

/-- The places of one that happened. -/
def hPos (x : MHap) : List Int := if x.2.2.2.2.1 || decide (x.2.2.1 = x.2.2.2.1) then [x.2.2.1] else [x.2.2.1, x.2.2.2.1]
def hPoss (l : List MHap) : List Int := l.flatMap hPos
theorem hPoss_append (a b : List MHap) : hPoss (a ++ b) = hPoss a ++ hPoss b := by simp [hPoss]
theorem hPoss_next {l : List MHap} {j : Nat} (h : j < l.length) : hPoss (l.take (j + 1)) = hPoss (l.take j) ++ hPos l[j] := by
  rw [List.take_succ_eq_append_getElem h, hPoss_append]; simp [hPoss]
structure OrdOk (s : MHist) : Prop where
  rise : (hAll s.2).Pairwise fun a b => a.2.2.1 < b.2.2.1
  closed : ∀ x ∈ hAll s.2, x.2.2.2.2.1 = false → x.2.2.1 ≤ x.2.2.2.1
  low : ∀ x ∈ hAll s.2, 0 ≤ x.2.2.1 ∧ 0 ≤ x.2.2.2.1
  high : ∀ x ∈ hAll s.2, x.2.2.1 < s.1 ∧ x.2.2.2.1 < s.1
  once : (hPoss (hAll s.2)).Nodup
  every : ∀ p : Int, 0 ≤ p → p < s.1 → p ∈ hPoss (hAll s.2)

theorem mem_hPos {x : MHap} {p : Int} (h : p ∈ hPos x) : p = x.2.2.1 ∨ p = x.2.2.2.1 := by
  unfold hPos at h
  split at h <;> simp at h
  · exact .inl h
  · exact h
theorem OrdOk.lt {s : MHist} (h : OrdOk s) {p : Int} (hp : p ∈ hPoss (hAll s.2)) : p < s.1 := by
  unfold hPoss at hp
  rw [List.mem_flatMap] at hp
  obtain ⟨x, hx, hp⟩ := hp
  rcases mem_hPos hp with rfl | rfl
  · exact (h.high x hx).1
  · exact (h.high x hx).2
theorem OrdOk.nil : OrdOk (0, []) := ⟨by simp [hAll], by simp [hAll], by simp [hAll], by simp [hAll], by simp [hAll, hPoss], fun p h0 h1 => by simp at h1; omega⟩
/-- One more at the end, at the next place. -/
theorem OrdOk.push {s : MHist} (h : OrdOk s) (x : MNot) (h1 : x.2.2.2.2.1 = s.1) (h2 : x.2.2.2.2.2.2.1 = false → x.2.2.2.2.2.1 = s.1) (h3 : 0 ≤ x.2.2.2.2.2.1 ∧ x.2.2.2.2.2.1 ≤ s.1) : OrdOk (s.1 + 1, s.2 ++ [x]) := by
  have hp : hPos x.2.2 = [(s.1 : Int)] := by
    unfold hPos
    cases ho : x.2.2.2.2.2.2.1 with
    | true => simp [h1]
    | false => simp [h1, h2 ho]
  have e : hAll (s.2 ++ [x]) = hAll s.2 ++ [x.2.2] := by simp [hAll]
  refine ⟨?_, ?_, ?_, ?_, ?_, ?_⟩
  · rw [e, List.pairwise_append]
    refine ⟨h.rise, by simp, fun a ha b hb => ?_⟩
    simp at hb; subst hb
    have := (h.high a ha).1
    show a.2.2.1 < x.2.2.2.2.1
    rw [h1]; exact this
  · rw [e]; intro y hy hc
    rcases List.mem_append.1 hy with hy | hy
    · exact h.closed y hy hc
    · simp at hy; subst hy
      show x.2.2.2.2.1 ≤ x.2.2.2.2.2.1
      rw [h1, h2 hc]; omega
  · rw [e]; intro y hy
    rcases List.mem_append.1 hy with hy | hy
    · exact h.low y hy
    · simp at hy; subst hy
      refine ⟨?_, h3.1⟩
      show 0 ≤ x.2.2.2.2.1
      rw [h1]; omega
  · rw [e]; intro y hy
    rcases List.mem_append.1 hy with hy | hy
    · have := h.high y hy
      exact ⟨by show y.2.2.1 < ((s.1 + 1 : Nat) : Int); omega, by show y.2.2.2.1 < ((s.1 + 1 : Nat) : Int); omega⟩
    · simp at hy; subst hy
      refine ⟨?_, ?_⟩
      · show x.2.2.2.2.1 < ((s.1 + 1 : Nat) : Int)
        rw [h1]; omega
      · show x.2.2.2.2.2.1 < ((s.1 + 1 : Nat) : Int)
        omega
  · rw [e, hPoss_append]
    have : hPoss [x.2.2] = [(s.1 : Int)] := by simp [hPoss, hp]
    rw [this, List.nodup_append]
    refine ⟨h.once, by simp, fun a ha b hb => ?_⟩
    simp at hb; subst hb
    have := h.lt ha
    omega
  · rw [e, hPoss_append]
    have : hPoss [x.2.2] = [(s.1 : Int)] := by simp [hPoss, hp]
    rw [this]
    intro p h0 h4
    by_cases hq : p < s.1
    · exact List.mem_append_left _ (h.every p h0 hq)
    · refine List.mem_append_right _ ?_
      have h4' : p < ((s.1 + 1 : Nat) : Int) := h4
      simp; omega
theorem OrdOk.call {s : MHist} (h : OrdOk s) (q : Int) (c : MCall) : OrdOk (hCall s q c).2 := by
  unfold hCall
  split
  · exact h
  · split
    · split
      · exact h
      · exact h.push _ rfl (by simp [hNote]) (by simp [hNote])
    · exact h
theorem OrdOk.kill {s : MHist} (h : OrdOk s) (key : Int) (sure : Bool) : OrdOk (hKill s key sure).2 := by
  unfold hKill
  split
  · exact h
  · exact h.push _ rfl (by simp [hKillNote]) (by simp [hKillNote])
theorem OrdOk.reply {s : MHist} (h : OrdOk s) (hok : HistOk s) (q : Int) (r : MRes) : OrdOk (hReply s q r).2 := by
  unfold hReply
  split
  · exact h
  · rename_i i hi
    split
    · exact h
    · obtain ⟨A, x, B, e, hA, hx, e2, _⟩ := hReply_parts hok hi r s.1
      obtain ⟨_, _, ho⟩ := nOpen_iff.1 hx
      have ea : hAll s.2 = hAll A ++ x.2.2 :: hAll B := by rw [e]; simp [hAll]
      have eb : hAll (s.2.modify i fun x => hReplied x r s.1) = hAll A ++ (hReplied x r s.1).2.2 :: hAll B := by rw [e2]; simp [hAll]
      obtain ⟨y, hy⟩ : ∃ y, (hReplied x r s.1).2.2 = y := ⟨_, rfl⟩
      have y1 : y.2.2.1 = x.2.2.2.2.1 := by rw [← hy]; rfl
      have y2 : y.2.2.2.1 = s.1 := by rw [← hy]; rfl
      have y3 : y.2.2.2.2.1 = false := by rw [← hy]; rfl
      rw [hy] at eb
      have hxm : x.2.2 ∈ hAll s.2 := by rw [ea]; simp
      have hxh := h.high _ hxm
      have px : hPos x.2.2 = [x.2.2.2.2.1] := by unfold hPos; rw [ho]; rfl
      have py : hPos y = [x.2.2.2.2.1, (s.1 : Int)] := by
        unfold hPos
        rw [y3, y1, y2]
        rw [if_neg (by simp; omega)]
      have pa : hPoss (hAll s.2) = hPoss (hAll A) ++ (x.2.2.2.2.1 :: hPoss (hAll B)) := by rw [ea, hPoss_append]; simp [hPoss, px]
      have pb : hPoss (hAll A ++ y :: hAll B) = hPoss (hAll A) ++ (x.2.2.2.2.1 :: (s.1 : Int) :: hPoss (hAll B)) := by rw [hPoss_append]; simp [hPoss, py]
      have hperm : (hPoss (hAll A ++ y :: hAll B)).Perm ((s.1 : Int) :: hPoss (hAll s.2)) := by
        rw [pa, pb]
        have : (x.2.2.2.2.1 :: (s.1 : Int) :: hPoss (hAll B)).Perm ((s.1 : Int) :: x.2.2.2.2.1 :: hPoss (hAll B)) := List.Perm.swap _ _ _
        exact (List.Perm.append_left _ this).trans List.perm_middle
      have mem : ∀ z, z ∈ hAll A ++ y :: hAll B → z = y ∨ z ∈ hAll s.2 := by
        intro z hz
        rw [ea]
        simp only [List.mem_append, List.mem_cons] at hz ⊢
        rcases hz with hz | rfl | hz
        · exact .inr (.inl hz)
        · exact .inl rfl
        · exact .inr (.inr (.inr hz))
      refine ⟨?_, ?_, ?_, ?_, ?_, ?_⟩ <;> simp only [eb]
      · have hr := h.rise
        rw [ea, List.pairwise_append, List.pairwise_cons] at hr
        rw [List.pairwise_append, List.pairwise_cons]
        obtain ⟨r1, ⟨r2, r3⟩, r4⟩ := hr
        refine ⟨r1, ⟨fun b hb => by rw [y1]; exact r2 b hb, r3⟩, fun a ha b hb => ?_⟩
        simp only [List.mem_cons] at hb
        rcases hb with rfl | hb
        · rw [y1]; exact r4 a ha _ (by simp)
        · exact r4 a ha b (by simp [hb])
      · intro z hz hc
        rcases mem z hz with rfl | hz
        · rw [y1, y2]; omega
        · exact h.closed z hz hc
      · intro z hz
        rcases mem z hz with rfl | hz
        · rw [y1, y2]; exact ⟨(h.low _ hxm).1, by omega⟩
        · exact h.low z hz
      · intro z hz
        rcases mem z hz with rfl | hz
        · rw [y1, y2]; exact ⟨by omega, by omega⟩
        · have := h.high z hz
          exact ⟨by omega, by omega⟩
      · rw [hperm.nodup_iff, List.nodup_cons]
        exact ⟨fun hm => by have := h.lt hm; omega, h.once⟩
      · intro p h0 h1
        rw [hperm.mem_iff, List.mem_cons]
        by_cases hq : p < s.1
        · exact .inr (h.every p h0 hq)
        · left; omega
end Go.Proofs.Ytplhcfaonhkegaa

namespace Go.Proofs.Ytplhcfaonhkegaa
open Go.RowKit Go.Maps

theorem hCall_at (s : MHist) (q : Int) (c : MCall) : ((hCall s q c).1 = 0 ∧ (hCall s q c).2.1 = s.1 + 1) ∨ ((hCall s q c).1 ≠ 0 ∧ (hCall s q c).2.1 = s.1) := by
  unfold hCall
  split
  · exact .inr ⟨by simp, rfl⟩
  · split
    · split
      · exact .inr ⟨by simp, rfl⟩
      · exact .inl ⟨rfl, rfl⟩
    · exact .inr ⟨by simp, rfl⟩
theorem hReply_at (s : MHist) (q : Int) (r : MRes) : ((hReply s q r).1 = 0 ∧ (hReply s q r).2.1 = s.1 + 1) ∨ ((hReply s q r).1 ≠ 0 ∧ (hReply s q r).2.1 = s.1) := by
  unfold hReply
  split
  · exact .inr ⟨by simp, rfl⟩
  · split
    · exact .inr ⟨by simp, rfl⟩
    · exact .inl ⟨rfl, rfl⟩
theorem hKill_at (s : MHist) (key : Int) (b : Bool) : ((hKill s key b).1 = 0 ∧ (hKill s key b).2.1 = s.1 + 1) ∨ ((hKill s key b).1 ≠ 0 ∧ (hKill s key b).2.1 = s.1) := by
  unfold hKill
  split
  · exact .inr ⟨by simp, rfl⟩
  · exact .inl ⟨rfl, rfl⟩
def posF (l : List MHap) (j : Nat) : Int → Bool := fun p => decide (p ∈ hPoss (l.take j))
theorem Sl.block {α : Type} {k : Kd α} {S : Nat → Prop} {w : World} {a : Addr} {n c : Nat} {l : List α} (h : Sl k S w (.slice (some a) n c) l) (hn : l ≠ []) : S a.block := by
  rcases h with ⟨h0, _⟩ | ⟨a', c', e, _, _, h3, _⟩
  · cases h0
  · cases e
    exact (h3 hn).2
theorem posF_zero (l : List MHap) : posF l 0 = fun _ => false := by funext p; simp [posF, hPoss]
theorem posF_one {l : List MHap} {j : Nat} (h : j < l.length) {F : Int} (hp : hPos l[j] = [F]) : updB (posF l j) F true = posF l (j + 1) := by
  funext p
  unfold updB posF
  rw [hPoss_next h, hp]
  by_cases e : p = F
  · simp [e]
  · simp [e]
theorem posF_two {l : List MHap} {j : Nat} (h : j < l.length) {F T : Int} (hp : hPos l[j] = [F, T]) : updB (updB (posF l j) F true) T true = posF l (j + 1) := by
  funext p
  unfold updB posF
  rw [hPoss_next h, hp]
  by_cases e : p = T
  · simp [e]
  · by_cases e2 : p = F
    · simp [e2]
    · simp [e, e2]
/-- No place of one is among those ahead of it, and it has no place twice. -/
theorem pos_fresh {l : List MHap} (h : (hPoss l).Nodup) {j : Nat} (hj : j < l.length) : (∀ p ∈ hPos l[j], p ∉ hPoss (l.take j)) ∧ (hPos l[j]).Nodup := by
  have e : l = l.take j ++ (l[j] :: l.drop (j + 1)) := by rw [List.getElem_cons_drop, List.take_append_drop]
  rw [e, hPoss_append] at h
  rw [List.nodup_append] at h
  obtain ⟨h1, h2, h3⟩ := h
  have e2 : hPoss (l[j] :: l.drop (j + 1)) = hPos l[j] ++ hPoss (l.drop (j + 1)) := by unfold hPoss; rw [List.flatMap_cons]
  rw [e2] at h2 h3
  rw [List.nodup_append] at h2
  exact ⟨fun p hp hm => h3 p hm p (List.mem_append_left _ hp) rfl, h2.1⟩
def OrdCut (w : World) (hb : Nat) (n : Nat) (v : Value) (wx : World) : Prop := ∃ e : Int, v = .int .i64 e ∧ ∃ s, HistOk s ∧ OrdOk s ∧ AtW w wx hb s ∧ ((e = 0 ∧ s.1 = n + 1) ∨ (e ≠ 0 ∧ s.1 = n))
def OrdEnd (w : World) (e : Ending) (w' : World) : Prop := e = .returned (.bool true) ∧ Fr Non w w'

set_option maxRecDepth 100000 in
set_option maxHeartbeats 4000000 in
theorem horder_law {w : World} {u : Value} {L : List MOp} (h : Sl kOp All w u L) : Calls Try.prog 10 #[u] w (OrdEnd w) := by
  obtain ⟨a, n, rfl, _, hcap, _⟩ := h.frm
  unfold maxLen at hcap
  have HL := Lib.hid h.there
  clear h
  go_enter Try.func10, Try.ntmps10
  go_wp2_with fail
  refine (AtW.new w).mono ?_
  rintro e w1 ⟨hb, rfl, h1⟩
  have H1 := Lib.hid h1
  clear h1
  go_upto_block 0 with (fail)
  go_cut [4] (fun m wx => ∃ (p : Nat), p ≤ 65536 ∧ m = .int .i64 p ∧ Hid (∃ s, HistOk s ∧ OrdOk s ∧ AtW w wx hb s ∧ s.1 = p))
  case first =>
    go_wp2_with fail
    go_loopw [4, 5] (fun m i wr => ∃ (j : Nat), j ≤ L.length ∧ i = .int .i64 j ∧ ∃ (p : Nat), p ≤ 65536 ∧ m = .int .i64 p ∧ Hid (∃ s, HistOk s ∧ OrdOk s ∧ AtW w wr hb s ∧ s.1 = p)) (fun _ i _ => L.length - (intOf i).toNat)
    case atStart => exact ⟨0, by omega, rfl, 0, by omega, rfl, _, HistOk.nil, OrdOk.nil, H1.out, rfl⟩
    case round =>
      obtain ⟨j, hj, rfl, p, hp, rfl, HI⟩ := hrel
      have j0 : (0 : Int) ≤ (j : Int) := by omega
      obtain ⟨s, hok, hord, hB, hsp⟩ := HI.out
      have OK := Lib.hid hok
      have OR := Lib.hid hord
      have HB := Lib.hid hB
      have HP := Lib.hid hsp
      by_cases hlt : j < L.length ∧ j < 60
      · obtain ⟨hl1, hl2⟩ := hlt
        obtain ⟨B, O, ocs, rfl, hr, hl, ld⟩ := op_rd (HL.out.stay hB.frame) j hl1
        have j1 : (j : Int) < (L.length : Int) := by omega
        have j2 : (j : Int) < 60 := by omega
        have LD := Lib.hid ld
        have HC := Lib.hid (cut_any hr)
        clear hok hord hB hsp hr hl ld
        go_wp2_with (refine wpList_load_v rfl 67 _ rfl (.pointer (some ⟨B, O + j * 22, none⟩)) rfl _ LD.out ?_)
        refine HC.out.mono ?_
        rintro e w3 ⟨cs, rfl, hr3, f3⟩
        obtain ⟨X, hX⟩ : ∃ X, oCut L[j] = X := ⟨_, rfl⟩
        rw [hX] at hr3
        clear hX HC LD
        have hl3 : cs.length = 22 := kOp.len hr3
        have ON := Lib.hid (kOp.one hr3)
        have HR3 := Lib.hid hr3
        clear hr3
        go_wp2_with (refine wpList_store_block rfl 67 _ _ rfl w3.heap.size 0 rfl (.agg cs.toArray) rfl _ 67 (alloc_at w3 _) ?hfit ?hinf ?hone ?_)
        case hfit => simp [Value.cells, hl3]
        case hinf => rw [show (Value.agg cs.toArray).cells.size = 22 by simp [Value.cells, hl3]]; exact size67
        case hone => intro u hu; exact ON.out u (by simpa [Value.cells] using hu)
        intro w4 hbx f4
        rw [putAt_whole _ _ (by simp [hl3])] at hbx
        replace hbx : w4.heap[w3.heap.size]? = some (.cells cs.toArray 67 (0, 0)) := by simpa [Value.cells] using hbx
        have f34 : Fr Non w3 w4 := ((Fr.refl Non w3).alloc _).trans2 f4 (fun b hb e => by omega)
        obtain ⟨D, hD⟩ : ∃ D, w3.heap.size = D := ⟨_, rfl⟩
        rw [hD] at hbx ⊢
        have FR := Lib.hid (f3.trans f34)
        obtain ⟨cc, rc, ecs, h5, h6, h7, h8, _, hid⟩ := op_cells (kOp.stay (kOp.mono HR3.out (S' := fun b => b < w.heap.size) (fun b _ h => h.1)) f34)
        subst ecs
        obtain ⟨vv, hcc, hvv, _, hkey, _⟩ := call_cells h5
        obtain ⟨va, vc, rfl, _⟩ := hvv.frm
        have d3 : w4.cell? ⟨D, 3, none⟩ = some (.int .u64 X.2.2.1.2.1) := by rw [cell_of_row w4 D _ _ _ _ hbx, hcc]; rfl
        obtain ⟨d0, d1, l39, l52, d21⟩ := op_box hbx h7 h8
        rw [hcc] at h5 l39
        have L39 := Lib.hid l39
        have L52 := Lib.hid l52
        have H5 := Lib.hid (kCall.mono h5 (S' := fun b => b < w.heap.size ∨ wr.heap.size ≤ b) fun b _ h => .inl h)
        have H6 := Lib.hid (kRes.mono h6 (S' := fun b => b < w.heap.size ∨ wr.heap.size ≤ b) fun b _ h => .inl h)
        have HID := Lib.hid hid
        have HKEY := Lib.hid hkey
        clear f3 f4 f34 hbx hD h5 h6 h7 h8 hid hvv hcc hkey hl3 ON HR3 l39 l52
        go_upto_block 2 with (fail)
        go_cut [7] (fun v wx => OrdCut w hb p v wx)
        case first =>
          by_cases k1 : X.1 = 1
          · have z1 : (X.1 == 1) = true := by simpa using k1
            clear k1
            go_wp2_with (refine wpList_load_w 39 (.pointer (some ⟨D, 2, none⟩)) _ L39.out _ rfl rfl (by rfl) ?_)
            refine (HB.out.call FR.out OK.out X.2.1 HID.out X.2.2.1 va vc H5.out).mono ?_
            rintro e w5 ⟨rfl, b5⟩
            have B5 := Lib.hid b5
            clear b5
            go_wp2_with fail
            go_meet
            exact ⟨_, rfl, _, OK.out.call _ _, OR.out.call _ _, B5.out, by have := hCall_at s X.2.1 X.2.2.1; rw [HP.out] at this; exact this⟩
          have z1 : (X.1 == 1) = false := by simpa using k1
          by_cases k2 : X.1 = 2
          · have z2 : (X.1 == 2) = true := by simpa using k2
            clear k1 k2
            go_wp2_with (refine wpList_load_w 52 (.pointer (some ⟨D, 6, none⟩)) _ L52.out _ rfl rfl (by rfl) ?_)
            refine (HB.out.reply FR.out OK.out X.2.1 HID.out X.2.2.2.1 rc H6.out).mono ?_
            rintro e w5 ⟨rfl, b5⟩
            have B5 := Lib.hid b5
            clear b5
            go_wp2_with fail
            go_meet
            exact ⟨_, rfl, _, OK.out.reply _ _, OR.out.reply OK.out _ _, B5.out, by have := hReply_at s X.2.1 X.2.2.2.1; rw [HP.out] at this; exact this⟩
          have z2 : (X.1 == 2) = false := by simpa using k2
          by_cases k3 : X.1 = 3
          · have z3 : (X.1 == 3) = true := by simpa using k3
            clear k1 k2 k3
            go_wp2_with fail
            refine (HB.out.kill FR.out OK.out X.2.2.1.2.1 HKEY.out X.2.2.2.2).mono ?_
            rintro e w5 ⟨rfl, b5⟩
            have B5 := Lib.hid b5
            clear b5
            go_wp2_with fail
            go_meet
            exact ⟨_, rfl, _, OK.out.kill _ _, OR.out.kill _ _, B5.out, by have := hKill_at s X.2.2.1.2.1 X.2.2.2.2; rw [HP.out] at this; exact this⟩
          have z3 : (X.1 == 3) = false := by simpa using k3
          clear k1 k2 k3
          go_wp2_with fail
          go_roundw
          case rel => exact ⟨j + 1, by omega, by go_num, p, hp, rfl, _, OK.out, OR.out, HB.out.fr FR.out, HP.out⟩
          case measure => simp [intOf]; omega
        case rest =>
        obtain ⟨e, rfl, s2, ok2, or2, b2, hes⟩ := hcut
        have OK2 := Lib.hid ok2
        have OR2 := Lib.hid or2
        have HB2 := Lib.hid b2
        have hm := ok2.most
        clear ok2 or2 b2 L39 L52 H5 H6 HID HKEY OK OR HB HP FR
        rcases hes with ⟨rfl, h2⟩ | ⟨he, h2⟩
        · have HP2 := Lib.hid h2
          have p1 : (p : Int) + 1 ≤ 65536 := by omega
          clear h2 hm
          go_wp2_with fail
          go_roundw
          case rel => exact ⟨j + 1, by omega, by go_num, p + 1, by omega, by go_num, _, OK2.out, OR2.out, HB2.out, HP2.out⟩
          case measure => simp [intOf]; omega
        · have HP2 := Lib.hid h2
          have z1 : (e == 0) = false := by simpa using he
          clear h2 he hm
          go_wp2_with fail
          go_roundw
          case rel => exact ⟨j + 1, by omega, by go_num, p, hp, rfl, _, OK2.out, OR2.out, HB2.out, HP2.out⟩
          case measure => simp [intOf]; omega
      · clear hok hord hB hsp
        by_cases h1 : j < L.length
        · have n1 : (j : Int) < (L.length : Int) := by omega
          have n2 : decide ((j : Int) < 60) = false := by simp; omega
          clear hlt
          go_wp2_with fail
          go_meet
          exact ⟨p, hp, rfl, HI⟩
        · obtain rfl : j = L.length := by omega
          clear hlt
          go_wp2_with fail
          go_meet
          exact ⟨p, hp, rfl, HI⟩
  case rest =>
  obtain ⟨p, hp, rfl, HC⟩ := hcut
  clear H1
  obtain ⟨s, hok, hord, hB, hsp⟩ := HC.out
  have FW := Lib.hid hB.frame
  have OR := Lib.hid hord
  have HP := Lib.hid hsp
  have HALL := Lib.hid (hB.all hok)
  have hlen : (hAll s.2).length ≤ 65536 := by have := hok.len; have := hok.most; simp [hAll]; omega
  clear HC hB hok hord hsp
  obtain ⟨l, hl⟩ : ∃ l, hAll s.2 = l := ⟨_, rfl⟩
  rw [hl] at HALL hlen
  have HLL := Lib.hid hl
  clear hl
  have hmm := @run_makeMap Try.prog
  go_wp2_with fail
  refine HALL.out.mono ?_
  rintro e w6 ⟨v6, rfl, hv6, f6, _⟩
  obtain ⟨va, vn, rfl⟩ := hv6.form
  have HS := Lib.hid hv6.sl.there
  have F6 := Lib.hid (FW.out.trans f6)
  clear hv6 f6 HALL FW
  obtain ⟨M, hM⟩ : ∃ M, w6.heap.size = M := ⟨_, rfl⟩
  have HM7 : Hid (MapB Try.prog .i64 3 4 (w6.alloc (.map #[] 0)) M 0 (posF l 0)) := Lib.hid (by rw [posF_zero, ← hM]; exact MapB.made w6 _ _ _ _)
  have F7 : Hid (Fr Non w6 (w6.alloc (.map #[] 0))) := Lib.hid ((Fr.refl _ _).alloc _)
  have HMM := Lib.hid hM
  go_wp2_with fail
  (try rw [hM])
  clear hM hmm
  generalize w6.alloc (.map #[] 0) = w7 at HM7 F7 ⊢
  go_loopw [10] (fun i wr => ∃ (j : Nat), j ≤ l.length ∧ i = .int .i64 j ∧ Hid (Fr (fun b => b = M) w7 wr ∧ ∃ k, k ≤ 2 * j ∧ MapB Try.prog .i64 3 4 wr M k (posF l j))) (fun i _ => l.length - (intOf i).toNat)
  case atStart => exact ⟨0, by omega, rfl, Fr.refl _ _, 0, by omega, HM7.out⟩
  case round =>
    obtain ⟨j, hj, rfl, HI⟩ := hrel
    have j0 : (0 : Int) ≤ (j : Int) := by omega
    by_cases hlt : j < l.length
    · have j1 : (j : Int) < (l.length : Int) := by omega
      have sl : Sl kHap (fun b => b < w6.heap.size) wr (.slice va l.length vn) l := (HS.out.stay F7.out).frame HI.out.1 (fun b hb hs e => by have := HMM.out; omega)
      have HSL := Lib.hid sl
      obtain ⟨B, O, a0, n0, a1, n1, a2, n2, rfl, hc, _⟩ := hap_at sl j hlt
      have hBM := Lib.hid (show B < w6.heap.size from sl.block (by intro e; rw [e] at hlt; simp at hlt))
      have q19 : wr.cell? ⟨B, O + j * 23 + 19, none⟩ = some (.int .i64 l[j].2.2.1) := hc 19 _ rfl
      have q20 : wr.cell? ⟨B, O + j * 23 + 20, none⟩ = some (.int .i64 l[j].2.2.2.1) := hc 20 _ rfl
      have q21 : wr.cell? ⟨B, O + j * 23 + 21, none⟩ = some (.bool l[j].2.2.2.2.1) := hc 21 _ rfl
      have hfr := pos_fresh (l := l) (by rw [← HLL.out]; exact OR.out.once) hlt
      have hmem : l[j] ∈ hAll s.2 := by rw [HLL.out]; exact List.getElem_mem hlt
      have hlow := OR.out.low _ hmem
      have hhigh := OR.out.high _ hmem
      have hcl := OR.out.closed _ hmem
      have hprev : ∀ m, j = m + 1 → ∃ q, q < l[j].2.2.1 ∧ wr.cell? ⟨B, O + m * 23 + 19, none⟩ = some (.int .i64 q) := by
        intro m hm
        obtain ⟨B', O', _, _, _, _, _, _, hBO, hc', _⟩ := hap_at HSL.out m (by omega)
        cases hBO
        refine ⟨_, ?_, hc' 19 _ rfl⟩
        have := OR.out.rise
        rw [HLL.out] at this
        rw [List.pairwise_iff_getElem] at this
        exact this m j (by omega) hlt (by omega)
      have HPV := Lib.hid hprev
      have P1 := Lib.hid (fun F => posF_one (l := l) (j := j) hlt (F := F))
      have P2 := Lib.hid (fun F T => posF_two (l := l) (j := j) hlt (F := F) (T := T))
      rw [HP.out] at hhigh
      obtain ⟨x, hx⟩ : ∃ x, l[j] = x := ⟨_, rfl⟩
      rw [hx] at q19 q20 q21 hfr hlow hhigh hcl HPV P1 P2
      have HFR := Lib.hid hfr
      have HLO := Lib.hid hlow
      have HHI := Lib.hid hhigh
      have HCLS := Lib.hid hcl
      have Q := Lib.hid (And.intro q19 (And.intro q20 q21))
      clear hx hc sl hfr hmem hlow hhigh hcl hprev q19 q20 q21
      obtain ⟨F, hF⟩ : ∃ F, x.2.2.1 = F := ⟨_, rfl⟩
      obtain ⟨T, hT⟩ : ∃ T, x.2.2.2.1 = T := ⟨_, rfl⟩
      obtain ⟨op, hop⟩ : ∃ op, x.2.2.2.2.1 = op := ⟨_, rfl⟩
      have HPOS := Lib.hid (show hPos x = if op || decide (F = T) then [F] else [F, T] by unfold hPos; rw [hF, hT, hop])
      rw [hF, hT, hop] at Q
      rw [hF, hT] at HLO HHI
      rw [hF] at HPV
      rw [hF, hT, hop] at HCLS
      clear hF hT hop
      obtain ⟨f1, kc, hkc, m1⟩ := HI.out
      have FM := Lib.hid f1
      have HKC := Lib.hid hkc
      clear hkc
      have MB := Lib.hid m1
      clear f1 m1
      go_upto_region 24 with (fail)
      go_cut [11] (fun v wx => v = .bool (!op && (F == T)) ∧ Hid (Fr Non wr wx))
      case first =>
        go_wp2_with fail
        have fd : Fr Non wr wr.drew := (Fr.refl _ _).drew
        refine wp_draw [((fun y => Fr Non wr y), [(.free, 0), (.free, 1), (.free, 2), (.free, 3), (.held, 4), (.free, 5), (.free, 6), (.free, 7), (.free, 8), (.free, 9), (.free, 10), (.held, 11), (.free, 12), (.free, 13), (.free, 14), (.free, 15), (.held, 16), (.free, 17), (.free, 18), (.free, 19)])] 20 (by kernel_rfl) (by kernel_rfl) (fun _ _ _ _ _ h => h) ⟨fd, ?_⟩
        generalize wr.drew = wd at fd ⊢
        cases op with
        | true =>
          repeat (first
            | (refine' wpPlan_free (v := _) rfl (by rfl) ?_ ?_
               rotate_left
               · (intro w'; skip; go_simp; try rfl)
               simp only [List.getElem_toArray, List.getElem_cons_zero, List.getElem_cons_succ, Act.put, List.setIfInBounds_toArray, List.set_cons_zero, List.set_cons_succ])
            | (refine' wpPlan_held (v := _) rfl (by rfl) ?_ ?_
               rotate_left
               · (intro w' hS; skip; (have q19 := hS.cell Q.out.1 id; have q20 := hS.cell Q.out.2.1 id; have q21 := hS.cell Q.out.2.2 id; clear hS); go_simp; try rfl)
               simp only [List.getElem_toArray, List.getElem_cons_zero, List.getElem_cons_succ, Act.put, List.setIfInBounds_toArray, List.set_cons_zero, List.set_cons_succ])
            | (refine' wpPlan_skip rfl (by rfl) ?_
               simp only [List.getElem_toArray, List.getElem_cons_zero, List.getElem_cons_succ, Act.put, List.setIfInBounds_toArray, List.set_cons_zero, List.set_cons_succ])
            | (refine' wpPlan_skipHeld rfl (by rfl) ?_
               simp only [List.getElem_toArray, List.getElem_cons_zero, List.getElem_cons_succ, Act.put, List.setIfInBounds_toArray, List.set_cons_zero, List.set_cons_succ]))
          refine wpPlan_end ?_
          simp only [wpSegs, List.drop_succ_cons, List.drop_zero]
          go_wp2_with fail
          go_meet
          exact ⟨by simp, Lib.hid fd⟩
        | false =>
          repeat (first
            | (refine' wpPlan_free (v := _) rfl (by rfl) ?_ ?_
               rotate_left
               · (intro w'; skip; go_simp; try rfl)
               simp only [List.getElem_toArray, List.getElem_cons_zero, List.getElem_cons_succ, Act.put, List.setIfInBounds_toArray, List.set_cons_zero, List.set_cons_succ])
            | (refine' wpPlan_held (v := _) rfl (by rfl) ?_ ?_
               rotate_left
               · (intro w' hS; skip; (have q19 := hS.cell Q.out.1 id; have q20 := hS.cell Q.out.2.1 id; have q21 := hS.cell Q.out.2.2 id; clear hS); go_simp; try rfl)
               simp only [List.getElem_toArray, List.getElem_cons_zero, List.getElem_cons_succ, Act.put, List.setIfInBounds_toArray, List.set_cons_zero, List.set_cons_succ])
            | (refine' wpPlan_skip rfl (by rfl) ?_
               simp only [List.getElem_toArray, List.getElem_cons_zero, List.getElem_cons_succ, Act.put, List.setIfInBounds_toArray, List.set_cons_zero, List.set_cons_succ])
            | (refine' wpPlan_skipHeld rfl (by rfl) ?_
               simp only [List.getElem_toArray, List.getElem_cons_zero, List.getElem_cons_succ, Act.put, List.setIfInBounds_toArray, List.set_cons_zero, List.set_cons_succ]))
          refine wpPlan_end ?_
          simp only [wpSegs, List.drop_succ_cons, List.drop_zero]
          go_wp2_with fail
          go_meet
          exact ⟨by simp, Lib.hid fd⟩
      case rest =>
      obtain ⟨rfl, HF1⟩ := hcut
      have HLK : Hid (∀ y, Fr Non wr y → (Instr.lookup 81 (.map (some M)) (.int .i64 F) false).run Try.prog y = .ok (.bool false) y) := Lib.hid (fun y f => by
        have h := (MB.out.fr f).look (t := 81) Try.underlying81 Try.underlying3 Try.underlying4 (by intro w; rfl) F (wf_i64.2 (by have := HLO.out; have := HHI.out; omega))
        have e : posF l j F = false := by
          unfold posF
          have := HFR.out.1 F (by rw [HPOS.out]; split <;> simp)
          simpa using this
        rw [e] at h
        exact h)
      go_upto_region 25 with (fail)
      go_cut [157] (fun v wx => v = .bool false ∧ Hid (Fr Non wr wx))
      case first =>
        have fd : Fr Non wr wc.drew := HF1.out.drew
        have g1 : decide ((p : Int) ≤ F) = false := by have := HHI.out; simp; omega
        have g2 : decide ((p : Int) ≤ T) = false := by have := HHI.out; simp; omega
        rcases Nat.eq_zero_or_pos j with hpos | hpos
        · have gd : decide (0 < j) = false := by simp; omega
          clear hpos
          cases op with
          | true =>
            refine r25_zt j0 j1 Q HLK fd g1 g2 gd _ _ _ _ _ _ _ _ _ _ _ _ _ _ _ _ _ _ _ _ _ _ _ _ _ _ _ _ _ _ _ _ _ _ _ _ _ _ _ _ _ _ _ _ _ _ _ _ _ _ _ _ _ _ _ _ _ _ _ _ _ _ _ _ _ _ _ _ _ _ _ _ _ _ _ _ _ _ _ _ _ _ _ _ _ _ _ _ _ _ _ _ _ _ _ _ _ _ _ _ _ _ _ _ _ _ _ _ _ _ _ _ _ _ _ _ _ _ _ _ _ _ _ _ _ _ _ _ _ _ _ _ _ _ _ _ _ _ _ _ _ _ _ _ _ _ _ _ _ _ _ _ _ _ _ _ _ _ _ _ _ _ _ _ _ _ _ _ _ _ _ _ _ _ _ _ _ _ _ _ _ _ _ _ _ _ _ _ _ _ _ _ _ (fun _ _ _ _ _ h => h) ?_
            intro u90 u91 u92 u93 u94 u95 u96 u97 u98 u99 u100 u101 u102 u103 u104 u105 u106 u107 u108 u109 u110 u111 u112 u113 u114 u115 u116 u117 u118 u119 u120 u121 u122 u123 u124 u125 u126 u127 u128 u129 u130 u131 u132 u133 u134 u135 u136 u137 u138 u139 u140 u141 u142 u143 u144 u145 u146 u147 u148 u149 u150 u151 u152 u153 u154 u155 u156 wx f
            go_wp2_with fail
            go_meet
            exact ⟨rfl, Lib.hid f⟩
          | false =>
            have g4 : decide (T < F) = false := by have := HCLS.out rfl; simp; omega
            refine r25_zf j0 j1 Q HLK fd g1 g2 gd g4 _ _ _ _ _ _ _ _ _ _ _ _ _ _ _ _ _ _ _ _ _ _ _ _ _ _ _ _ _ _ _ _ _ _ _ _ _ _ _ _ _ _ _ _ _ _ _ _ _ _ _ _ _ _ _ _ _ _ _ _ _ _ _ _ _ _ _ _ _ _ _ _ _ _ _ _ _ _ _ _ _ _ _ _ _ _ _ _ _ _ _ _ _ _ _ _ _ _ _ _ _ _ _ _ _ _ _ _ _ _ _ _ _ _ _ _ _ _ _ _ _ _ _ _ _ _ _ _ _ _ _ _ _ _ _ _ _ _ _ _ _ _ _ _ _ _ _ _ _ _ _ _ _ _ _ _ _ _ _ _ _ _ _ _ _ _ _ _ _ _ _ _ _ _ _ _ _ _ _ _ _ _ _ _ _ _ _ _ _ _ _ _ _ (fun _ _ _ _ _ h => h) ?_
            intro u90 u91 u92 u93 u94 u95 u96 u97 u98 u99 u100 u101 u102 u103 u104 u105 u106 u107 u108 u109 u110 u111 u112 u113 u114 u115 u116 u117 u118 u119 u120 u121 u122 u123 u124 u125 u126 u127 u128 u129 u130 u131 u132 u133 u134 u135 u136 u137 u138 u139 u140 u141 u142 u143 u144 u145 u146 u147 u148 u149 u150 u151 u152 u153 u154 u155 u156 wx f
            go_wp2_with fail
            go_meet
            exact ⟨rfl, Lib.hid f⟩
        · obtain ⟨m, hm0⟩ : ∃ m, j = m + 1 := ⟨j - 1, by omega⟩
          obtain ⟨y, hy, d0⟩ := HPV.out m hm0
          have QP := Lib.hid d0
          have g0 : decide (F ≤ y) = false := by simp; omega
          have g3 : (0 : Int) < (j : Int) := by omega
          have W1 : IntKind.i64.wrap ((j : Int) - 1) = (m : Int) := by rw [IntWalk.i64_in _ (by omega)]; omega
          have m0 : (0 : Int) ≤ (m : Int) := by omega
          have m1 : (m : Int) < (l.length : Int) := by omega
          have gd : decide (0 < j) = true := decide_eq_true hpos
          clear hm0 hy d0 hpos
          cases op with
          | true =>
            refine r25_pt j0 j1 Q HLK fd g1 g2 QP g0 g3 W1 m0 m1 gd _ _ _ _ _ _ _ _ _ _ _ _ _ _ _ _ _ _ _ _ _ _ _ _ _ _ _ _ _ _ _ _ _ _ _ _ _ _ _ _ _ _ _ _ _ _ _ _ _ _ _ _ _ _ _ _ _ _ _ _ _ _ _ _ _ _ _ _ _ _ _ _ _ _ _ _ _ _ _ _ _ _ _ _ _ _ _ _ _ _ _ _ _ _ _ _ _ _ _ _ _ _ _ _ _ _ _ _ _ _ _ _ _ _ _ _ _ _ _ _ _ _ _ _ _ _ _ _ _ _ _ _ _ _ _ _ _ _ _ _ _ _ _ _ _ _ _ _ _ _ _ _ _ _ _ _ _ _ _ _ _ _ _ _ _ _ _ _ _ _ _ _ _ _ _ _ _ _ _ _ _ _ _ _ _ _ _ _ _ _ _ _ _ (fun _ _ _ _ _ h => h) ?_
            intro u90 u91 u92 u93 u94 u95 u96 u97 u98 u99 u100 u101 u102 u103 u104 u105 u106 u107 u108 u109 u110 u111 u112 u113 u114 u115 u116 u117 u118 u119 u120 u121 u122 u123 u124 u125 u126 u127 u128 u129 u130 u131 u132 u133 u134 u135 u136 u137 u138 u139 u140 u141 u142 u143 u144 u145 u146 u147 u148 u149 u150 u151 u152 u153 u154 u155 u156 wx f
            go_wp2_with fail
            go_meet
            exact ⟨rfl, Lib.hid f⟩
          | false =>
            have g4 : decide (T < F) = false := by have := HCLS.out rfl; simp; omega
            refine r25_pf j0 j1 Q HLK fd g1 g2 QP g0 g3 W1 m0 m1 gd g4 _ _ _ _ _ _ _ _ _ _ _ _ _ _ _ _ _ _ _ _ _ _ _ _ _ _ _ _ _ _ _ _ _ _ _ _ _ _ _ _ _ _ _ _ _ _ _ _ _ _ _ _ _ _ _ _ _ _ _ _ _ _ _ _ _ _ _ _ _ _ _ _ _ _ _ _ _ _ _ _ _ _ _ _ _ _ _ _ _ _ _ _ _ _ _ _ _ _ _ _ _ _ _ _ _ _ _ _ _ _ _ _ _ _ _ _ _ _ _ _ _ _ _ _ _ _ _ _ _ _ _ _ _ _ _ _ _ _ _ _ _ _ _ _ _ _ _ _ _ _ _ _ _ _ _ _ _ _ _ _ _ _ _ _ _ _ _ _ _ _ _ _ _ _ _ _ _ _ _ _ _ _ _ _ _ _ _ _ _ _ _ _ _ (fun _ _ _ _ _ h => h) ?_
            intro u90 u91 u92 u93 u94 u95 u96 u97 u98 u99 u100 u101 u102 u103 u104 u105 u106 u107 u108 u109 u110 u111 u112 u113 u114 u115 u116 u117 u118 u119 u120 u121 u122 u123 u124 u125 u126 u127 u128 u129 u130 u131 u132 u133 u134 u135 u136 u137 u138 u139 u140 u141 u142 u143 u144 u145 u146 u147 u148 u149 u150 u151 u152 u153 u154 u155 u156 wx f
            go_wp2_with fail
            go_meet
            exact ⟨rfl, Lib.hid f⟩
      case rest =>
      obtain ⟨rfl, HF2⟩ := hcut
      have MC := Lib.hid (MB.out.fr HF2.out)
      have q19 := HF2.out.cell Q.out.1 id
      have wF := Lib.hid (show (Lit.int .i64 F).wf = true from wf_i64.2 (by have := HLO.out; have := HHI.out; omega))
      have wT := Lib.hid (show (Lit.int .i64 T).wf = true from wf_i64.2 (by have := HLO.out; have := HHI.out; omega))
      have hkm : kc < maxLen := by have := HKC.out; unfold maxLen; omega
      have hkm2 : kc + 1 < maxLen := by have := HKC.out; unfold maxLen; omega
      have HK1 := Lib.hid hkm
      have HK2 := Lib.hid hkm2
      clear hkm hkm2 HF1 HLK HPV
      go_wp2_with (at_mapUpdate; refine wpList_updateB 81 rfl _ _ _ rfl Try.underlying81 Try.underlying3 Try.underlying4 rfl MC.out HK1.out F rfl wF.out true rfl ?_)
      intro w8 m8 f8
      have M8 := Lib.hid m8
      have F8 := Lib.hid f8
      have hBne : B ≠ M := by have := hBM.out; have := HMM.out; omega
      have e20 := f8.cell (HF2.out.cell Q.out.2.1 id) hBne
      have e21 := f8.cell (HF2.out.cell Q.out.2.2 id) hBne
      have F18 := Lib.hid ((FM.out.trans (HF2.out.mono fun _ _ h => h.elim)).trans f8)
      clear m8 f8 q19
      cases op with
      | true =>
        have E := Lib.hid (P1.out F (by rw [HPOS.out]; rfl))
        go_wp2_with fail
        go_roundw
        case rel => exact ⟨j + 1, by omega, by go_num, F18.out, kc + 1, by have := HKC.out; omega, by rw [← E.out]; exact M8.out⟩
        case measure => simp [intOf]; omega
      | false =>
        by_cases hFT : F = T
        · have z1 : (F == T) = true := by simpa using hFT
          have E := Lib.hid (P1.out F (by rw [HPOS.out]; simp [hFT]))
          clear hFT
          go_wp2_with fail
          go_roundw
          case rel => exact ⟨j + 1, by omega, by go_num, F18.out, kc + 1, by have := HKC.out; omega, by rw [← E.out]; exact M8.out⟩
          case measure => simp [intOf]; omega
        · have z1 : (F == T) = false := by simpa using hFT
          have hpos2 : hPos x = [F, T] := by rw [HPOS.out]; simp [hFT]
          have E := Lib.hid (P2.out F T hpos2)
          have hlk2 : (Instr.lookup 81 (.map (some M)) (.int .i64 T) false).run Try.prog w8 = .ok (.bool false) w8 := by
            have h := M8.out.look (t := 81) Try.underlying81 Try.underlying3 Try.underlying4 (by intro w; rfl) T wT.out
            have e : updB (posF l j) F true T = false := by
              unfold updB
              rw [if_neg (Ne.symm hFT)]
              unfold posF
              have := HFR.out.1 T (by rw [hpos2]; simp)
              simpa using this
            rw [e] at h
            exact h
          clear hFT hpos2
          go_wp2_with (at_mapUpdate; refine wpList_updateB 81 rfl _ _ _ rfl Try.underlying81 Try.underlying3 Try.underlying4 rfl M8.out HK2.out T rfl wT.out true rfl ?_)
          intro w9 m9 f9
          have M9 := Lib.hid m9
          have F9 := Lib.hid f9
          clear m9 f9
          go_wp2_with fail
          go_roundw
          case rel => exact ⟨j + 1, by omega, by go_num, F18.out.trans F9.out, kc + 1 + 1, by have := HKC.out; omega, by rw [← E.out]; exact M9.out⟩
          case measure => simp [intOf]; omega
    · obtain rfl : j = l.length := by omega
      obtain ⟨f1, kc, hkc, m1⟩ := HI.out
      have MB := Lib.hid m1
      have HE : Hid (∀ i : Nat, i < p → (Instr.lookup 81 (.map (some M)) (.int .i64 i) false).run Try.prog wr = .ok (.bool true) wr) := Lib.hid (fun i hi => by
        have h := m1.look (t := 81) Try.underlying81 Try.underlying3 Try.underlying4 (by intro w; rfl) (i : Int) (wf_i64.2 (by omega))
        have e : posF l l.length (i : Int) = true := by
          unfold posF
          rw [List.take_length, ← HLL.out]
          exact decide_eq_true (OR.out.every (i : Int) (by omega) (by rw [HP.out]; omega))
        rw [e] at h
        exact h)
      have FE : Hid (Fr Non w wr) := Lib.hid ((F6.out.trans F7.out).trans2 f1 (fun b hb e => by have := F6.out.size; have := HMM.out; omega))
      clear f1 hkc m1 MB HI
      go_wp2_with fail
      go_loop [12] (fun i => ∃ (q : Nat), q ≤ p ∧ i = .int .i64 q) (fun i => p - (intOf i).toNat)
      case atStart => exact ⟨0, by omega, rfl⟩
      case round =>
        obtain ⟨q, hq, rfl⟩ := hrel
        by_cases hqp : q < p
        · have hl := HE.out q hqp
          have q1 : (q : Int) < (p : Int) := by omega
          clear hqp
          go_wp2_with fail
          go_round
          case rel => exact ⟨q + 1, by omega, by go_num⟩
          case measure => simp [intOf]; omega
        · obtain rfl : q = p := by omega
          go_wp2_with fail
          refine (alive_any wr).mono ?_
          rintro e w9 ⟨rfl, f9⟩
          go_wp2_with fail
          go_ret
          exact ⟨by trivial, FE.out.trans f9⟩
theorem horder_any {w : World} {u : Value} {L : List MOp} (h : Sl kOp All w u L) : Calls Try.prog 10 #[u] w fun e w' => e = .returned (.bool true) ∧ Fr Non w w' :=
  (horder_law h).mono fun _ _ h => h
end Go.Proofs.Ytplhcfaonhkegaa

namespace Go.Proofs.Ytplhcfaonhkegaa
open Go.ChangeShapes Go.WideShapes Go.ChangeAt Go.RowKit

set_option maxRecDepth 100000 in
theorem histOrder_lifted (os : Os) (started : os.Started) (H : Type) (enc : TypeId × Value → H) :
    ReturnsInHanded {} Try.checked os 10 .any (Rows.histOrderSpec.pre6 enc Try.prog Try.f10 Rows.histOrderRow.domain false) (Rows.histOrderSpec.post enc Try.prog Try.f10 false true false false) := by
  refine returnsInHanded_of_change_sized (C := Try.checked) Try.own started (by kernel_rfl) Try.func10
    (ChangeSpec.witness6 (enc := enc) (C := Try.checked) false ⟨#[], #[.slice none 0 0], []⟩ 8 (by kernel_rfl) (by kernel_rfl) (by kernel_rfl) (by kernel_rfl)) ?_
  intro W base args ds gs before hval0 hW hcnd hsz0 _
  have hval : ∀ (j : Nat) t v, Try.f10.params[j]? = some t → args[j]? = some v → Value.okWide Try.prog W .any base t v := hval0
  have hW' := hW
  obtain ⟨p, q, hA0, hV, rfl, hfz, hnd⟩ := hW
  have hA : DataW.TrodAll enc Try.prog W 0 (fun _ => true) true Try.f10.params.toList args.toList ds p := hA0
  rw [Try.params10] at hA hval
  obtain ⟨v0, d0, rfl, rfl, h0⟩ := trodAll_one hA
  obtain ⟨rfl, rfl⟩ := trodVars_none hV
  have hlt := hW'.lt
  obtain ⟨x0, hx0, hB0⟩ := slice_arg Try.underlying79 (hval 0 79 v0 rfl rfl) from79 h0 (Fit.of hsz0 (i := 0) rfl rfl)
  clear hA0 hval0
  refine (horder_any hx0).mono fun e W' ⟨he, hf⟩ => ?_
  subst he
  have hb : Below W.heap.size W W' := hf.below (Nat.le_refl _) (fun _ h => h.elim)
  exact ⟨_, rfl, _, _, _, [], _, [], hW', trodAll_mk1 (shut_bool Try.underlying4 true), trodAll_mk1 (Below.trod Try.laidOut (by kernel_rfl) (of_decide_eq_true (by kernel_rfl)) h0 hb (fun x hx => hlt x (by simp [hx]))), rfl, hb.frame _, fun h => by cases h⟩

theorem histOrder_facts : joinedFacts Try.prog 10 Try.f10 Rows.histOrderSpec Rows.histOrderRow = true := by
  unfold joinedFacts
  rw [Try.mayEnterL, Try.liftsFinalL, Try.makeL]
  kernel_rfl
theorem histOrder_holds : Rows.HistOrderSaid :=
  OpenClaim.holds_of_wide 10 Try.f10 rfl rfl rfl rfl rfl rfl rfl ⟨rfl, rfl, rfl, rfl, rfl⟩ rfl rfl rfl rfl rfl (by kernel_rfl) Try.func10 histOrder_facts
    (of_decide_eq_true (by kernel_rfl)) (by unfold Func.isWrapper; rw [if_neg (of_decide_eq_false (by kernel_rfl))]; exact ⟨rfl, rfl⟩)
    (fun os started H enc _ => histOrder_lifted os started H enc)
end Go.Proofs.Ytplhcfaonhkegaa
