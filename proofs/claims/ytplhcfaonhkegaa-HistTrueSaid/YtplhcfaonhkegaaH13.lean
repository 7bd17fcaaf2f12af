/-
  Rows of numbers: slices.IndexFunc, slices.DeleteFunc and slices.Clone over them; slices.Clone over what happened.
-/
import Derived.Test.YtplhcfaonhkegaaH10a
import Derived.Lib.SliceRun
namespace Go.Proofs.Ytplhcfaonhkegaa
open Go.RowKit Go.Maps

/-- What a slice holds, as cells that can be appended. -/
theorem sl_src_k {α : Type} {k : Kd α} {S : Nat → Prop} {w : World} {v : Value} {l : List α} (h : Sl k S w v l) : ∃ cs, Row k S w cs l ∧ Src w k.sz v l.length cs := by
  rcases h with ⟨rfl, rfl⟩ | ⟨a, c, rfl, h1, h2, h3, h4⟩
  · exact ⟨[], rfl, by simp, by simp, .inl ⟨rfl, rfl⟩⟩
  · obtain ⟨cs, hr, hc⟩ := h4.row
    refine ⟨cs, hr, hr.len, hr.one, .inr ⟨a, c, rfl, fun j u hu => ?_⟩⟩
    by_cases hn : l = []
    · subst hn
      rw [show cs = [] from hr] at hu
      simp at hu
    · obtain ⟨b, o, s⟩ := a
      have : s = none := (h3 hn).1
      subst this
      rw [addr_add']
      exact hc j u hu
theorem row_ints {S : Nat → Prop} {w : World} : ∀ {cs : List Value} {l : List Int}, Row (kInt .i64) S w cs l → cs = ints l
  | _, [], h => h
  | _, x :: l, h => by
    obtain ⟨c1, c2, rfl, ⟨rfl, _⟩, h2⟩ := h
    rw [row_ints h2]; rfl

set_option maxRecDepth 100000 in
set_option maxHeartbeats 4000000 in
/-- slices.Clone of what happened. -/
theorem cloneHap_any {w : World} {u : Value} {l : List MHap} (hl : Sl kHap All w u l) (hn : l.length ≤ 200000) :
    Calls Try.prog 85 #[u] w fun e w' => ∃ v, e = .returned v ∧ Build kHap 76 w' v l ∧ Fr Non w w' ∧ ∀ b, v.ownBlock = some b → w.heap.size ≤ b := by
  have hN := fun (w : World) (a : Option Addr) n c => Lib.run_eql_slice_nil (P := Try.prog) w 71 76 a n c 0 0 Try.underlying71
  rcases id hl with ⟨rfl, rfl⟩ | ⟨a, c, rfl, h1, h2, h3, h4⟩
  · clear hl
    go_enter Try.func85, Try.ntmps85
    go_wp2_with fail
    go_ret
    exact ⟨_, rfl, Build.nil _ _ _, Fr.refl _ _, by simp [Value.ownBlock]⟩
  · obtain ⟨cs, hrow, hsrc⟩ := sl_src_k hl.there
    have HS := Lib.hid hsrc
    have HR := Lib.hid hrow
    clear hl h3 h4 hsrc hrow
    unfold maxLen at h2
    go_enter Try.func85, Try.ntmps85
    go_wp2_with (at_builtin; refine wpList_append_g rfl _ _ eI76 rfl (.slice (some ⟨w.heap.size, 0, none⟩) 0 0) 0 [] rfl ⟨rfl, .inr ⟨_, 0, #[], rfl, alloc_at w _, Nat.le_refl _, by unfold maxLen; omega, by simp, by simp⟩⟩ _ l.length cs rfl (HS.out.alloc _) ?k2 ?k3 ?_)
    case k2 => unfold maxLen; omega
    case k3 => omega
    intro v' w1 r1 r2 r3 _
    have f1 : Fr Non w w1 := ((Fr.refl Non w).alloc _).trans2 r2 (fun b hb e => by simp [Value.ownBlock] at e; omega)
    have hown : ∀ b, v'.ownBlock = some b → w.heap.size ≤ b := by
      intro b hb
      rcases r3 with r3 | ⟨r3, _⟩
      · rw [r3] at hb; simp [Value.ownBlock] at hb; omega
      · rw [r3] at hb; cases hb; simp
    have R1 : GRow w1 76 23 v' l.length cs := by simpa using r1
    go_wp2_with fail
    refine bodyPost_ret (v := v') (by simp [results, Try.results85, go_sem]) rfl ⟨_, rfl, ⟨cs, R1, ?_⟩, f1, hown⟩
    exact HR.out.fr (fun b hb _ => f1.block b hb id) (fun b hb _ e => by have := hown b e; omega)

set_option maxRecDepth 100000 in
set_option maxHeartbeats 4000000 in
/-- slices.Clone of numbers. -/
theorem cloneInts_any {w : World} {u : Value} {l : List Int} (hl : GRow w 3 1 u l.length (ints l)) (hn : l.length ≤ 200000) :
    Calls Try.prog 83 #[u] w fun e w' => ∃ v, e = .returned v ∧ GRow w' 3 1 v l.length (ints l) ∧ Fr Non w w' ∧ (∀ b, v.ownBlock = some b → w.heap.size ≤ b) ∧ (l ≠ [] → v ≠ .slice none 0 0) := by
  have hsrc := hl.src (by simp [ints, Value.oneCell'])
  have hN := fun (w : World) (a : Option Addr) n c => Lib.run_eql_slice_nil (P := Try.prog) w 73 3 a n c 0 0 Try.underlying73
  rcases hl.2 with ⟨rfl, h0⟩ | ⟨g, cap, cur, rfl, h1, h2, h3, h4, h5⟩
  · have : l = [] := List.eq_nil_of_length_eq_zero h0
    subst this
    clear hl hsrc h0
    go_enter Try.func83, Try.ntmps83
    go_wp2_with fail
    go_ret
    exact ⟨_, rfl, GRow.nil _ _ _, Fr.refl _ _, by simp [Value.ownBlock], fun h => absurd rfl h⟩
  · have HS := Lib.hid hsrc
    clear hl h1 h4 h5 hsrc
    unfold maxLen at h3
    go_enter Try.func83, Try.ntmps83
    go_wp2_with (at_builtin; refine wpList_append_g rfl _ _ eI3 rfl (.slice (some ⟨w.heap.size, 0, none⟩) 0 0) 0 [] rfl ⟨rfl, .inr ⟨_, 0, #[], rfl, alloc_at w _, Nat.le_refl _, by unfold maxLen; omega, by simp, by simp⟩⟩ _ l.length (ints l) rfl (HS.out.alloc _) ?k2 ?k3 ?_)
    case k2 => unfold maxLen; omega
    case k3 => omega
    intro v' w1 r1 r2 r3 _
    have f1 : Fr Non w w1 := ((Fr.refl Non w).alloc _).trans2 r2 (fun b hb e => by simp [Value.ownBlock] at e; omega)
    have hown : ∀ b, v'.ownBlock = some b → w.heap.size ≤ b := by
      intro b hb
      rcases r3 with r3 | ⟨r3, _⟩
      · rw [r3] at hb; simp [Value.ownBlock] at hb; omega
      · rw [r3] at hb; cases hb; simp
    have hne : v' ≠ .slice none 0 0 := by
      rintro rfl
      rcases r3 with r3 | ⟨r3, _⟩ <;> simp [Value.ownBlock] at r3
    go_wp2_with fail
    refine bodyPost_ret (v := v') (by simp [results, Try.results83, go_sem]) rfl ⟨_, rfl, by simpa using r1, f1, hown, fun _ => hne⟩

set_option maxRecDepth 100000 in
set_option maxHeartbeats 1000000 in
/-- The closure of Reply: is it this number? -/
theorem isId_any {w : World} (x id : Int) {B : Nat} (h : w.cell? ⟨B, 0, none⟩ = some (.int .i64 id)) :
    Calls Try.prog 84 #[.int .i64 x, .pointer (some ⟨B, 0, none⟩)] w fun e w' => e = .returned (.bool (x == id)) ∧ w = w' := by
  go_enter Try.func84, Try.ntmps84
  go_wp2_with fail
  go_ret
  exact ⟨by trivial, rfl⟩

theorem enters84 : ∀ args w, (callFunc 84 args).run Try.prog w = .ok (.enter 84 args) w := enters_of Try.func84 (by kernel_rfl) rfl

set_option maxRecDepth 100000 in
set_option maxHeartbeats 4000000 in
/-- slices.IndexFunc: the place of the one that is this number. -/
theorem indexInts_any {w : World} {g cap n : Nat} {l : List Int} (hcell : ∀ q (h : q < l.length), w.cell? ⟨g, q, none⟩ = some (.int .i64 l[q])) (_ : l.length ≤ cap) (hn : l.length ≤ 200000) (hn' : n = l.length) (id : Int) {B : Nat} (hB : w.cell? ⟨B, 0, none⟩ = some (.int .i64 id))
    {k : Nat} (hk : k < l.length) (hid : l[k] = id) (hne : ∀ q (h : q < l.length), q < k → l[q] ≠ id) :
    Calls Try.prog 110 #[.slice (some ⟨g, 0, none⟩) n cap, .func (.func 84) #[] #[.pointer (some ⟨B, 0, none⟩)]] w fun e w' => e = .returned (.int .i64 k) ∧ w = w' := by
  subst hn'
  have HC := Lib.hid hcell
  have HI := Lib.hid hid
  have HN := Lib.hid hne
  have HB := Lib.hid hB
  clear hcell hid hne hB
  have eg := enters84
  go_enter Try.func110, Try.ntmps110
  go_wp2_with fail
  go_loop [8] (fun i => ∃ (j : Nat), j ≤ k ∧ i = .int .i64 j) (fun i => k + 1 - (intOf i).toNat)
  case atStart => exact ⟨0, by omega, rfl⟩
  case round =>
    obtain ⟨j, hj, rfl⟩ := hrel
    have j0 : (0 : Int) ≤ (j : Int) := by omega
    have j1 : (j : Int) < (l.length : Int) := by omega
    have jl : j < l.length := by omega
    have c0 := HC.out j jl
    obtain ⟨x, hx⟩ : ∃ x, l[j] = x := ⟨_, rfl⟩
    rw [hx] at c0
    have HX := Lib.hid hx
    clear hx
    go_wp2_with fail
    refine (isId_any x id HB.out).mono ?_
    rintro e w' ⟨rfl, rfl⟩
    by_cases he : j = k
    · subst he
      have t : (x == id) = true := by rw [← HX.out, HI.out]; simp
      go_wp2_with fail
      go_ret
      exact ⟨by trivial, rfl⟩
    · have t : (x == id) = false := by
        have := HN.out j jl (by omega)
        rw [HX.out] at this
        simpa using this
      go_wp2_with fail
      go_round
      case rel => exact ⟨j + 1, by omega, by go_num⟩
      case measure => simp [intOf]; omega

/-- Behind one step of DeleteFunc: what stood at j stands at j - 1. -/
def moved (l : List Int) (k i q : Nat) : Int := if q < i ∧ k ≤ q then l.getD (q + 1) 0 else l.getD q 0
theorem moved_last (l : List Int) (k : Nat) (hk : k < l.length) (q : Nat) (hq : q < (l.eraseIdx k).length) : moved l k (l.length - 1) q = (l.eraseIdx k)[q] := by
  have hlen : (l.eraseIdx k).length = l.length - 1 := List.length_eraseIdx_of_lt hk
  unfold moved
  rw [List.getElem_eraseIdx]
  by_cases h : q < k
  · rw [dif_pos h, if_neg (by omega)]
    simp [List.getD_eq_getElem?_getD, List.getElem?_eq_getElem (show q < l.length by omega)]
  · rw [dif_neg h, if_pos (by omega)]
    simp [List.getD_eq_getElem?_getD, List.getElem?_eq_getElem (show q + 1 < l.length by omega)]
def DelRow (w wr : World) (g _cap K : Nat) (l : List Int) (k i : Nat) : Prop :=
  Fr (fun b => b = g) w wr ∧ ∃ cur : Array Value, wr.heap[g]? = some (.cells cur 3 (0, 0)) ∧ cur.size = K ∧ ∀ q, q < l.length → cur[q]? = some (.int .i64 (moved l k i q))

set_option maxRecDepth 100000 in
set_option maxHeartbeats 4000000 in
/-- slices.DeleteFunc, where just one is this number. -/
theorem deleteInts_any {w : World} {g cap : Nat} {l : List Int} (hg : GRow w 3 1 (.slice (some ⟨g, 0, none⟩) l.length cap) l.length (ints l)) (hn : l.length ≤ 200000) (id : Int) {B : Nat} (hB : w.cell? ⟨B, 0, none⟩ = some (.int .i64 id)) (hBg : B ≠ g)
    {k : Nat} (hk : k < l.length) (hid : l[k] = id) (hne : ∀ q (h : q < l.length), q ≠ k → l[q] ≠ id) :
    Calls Try.prog 82 #[.slice (some ⟨g, 0, none⟩) l.length cap, .func (.func 84) #[] #[.pointer (some ⟨B, 0, none⟩)]] w fun e w' => ∃ v, e = .returned v ∧ GRow w' 3 1 v (l.eraseIdx k).length (ints (l.eraseIdx k)) ∧ Fr (fun b => b = g) w w' ∧ v.ownBlock = some g := by
  have hcells := hg.cells (g := g) rfl
  have hlen : (l.eraseIdx k).length = l.length - 1 := List.length_eraseIdx_of_lt hk
  rcases hg.2 with ⟨h0, _⟩ | ⟨g', cap', cur, e, h1, h2, h3, h4, h5⟩
  · cases h0
  cases e
  have hcell : ∀ q (h : q < l.length), w.cell? ⟨g, q, none⟩ = some (.int .i64 l[q]) := fun q h => hcells q _ (by simp [ints, h])
  have HI := Lib.hid (indexInts_any hcell h2 hn rfl id hB hk hid (fun q h hq => hne q h (by omega)))
  have HST : Hid (DelRow w w g cap cur.size l k k) := Lib.hid ⟨Fr.refl _ _, cur, h1, rfl, fun q hq => by
    have e : moved l k k q = l[q] := by unfold moved; rw [if_neg (by omega)]; simp [List.getD_eq_getElem?_getD, List.getElem?_eq_getElem hq]
    rw [e]
    have := hcell q hq
    rw [cell_of_row w g q cur 3 (0, 0) h1] at this
    exact this⟩
  have HNE := Lib.hid hne
  have HB := Lib.hid hB
  have HL := Lib.hid hlen
  have cs : l.length ≤ cur.size := by omega
  obtain ⟨K, hK0⟩ : ∃ K, cur.size = K := ⟨_, rfl⟩
  rw [hK0] at HST cs
  have HCAP := Lib.hid (show cap * 1 ≤ K by rw [← hK0]; exact h4)
  unfold maxLen at h3
  have HZ := @Lib.run_clear_slice Try.prog
  clear hg hcells h1 h4 h5 hcell hid hne hB hlen hK0
  have HZZ := Lib.hid HZ
  clear HZ
  go_enter Try.func82, Try.ntmps82
  go_wp2_with fail
  refine HI.out.mono ?_
  rintro e w' ⟨rfl, rfl⟩
  clear HI
  have kk : (k : Int) + 1 ≤ 200000 := by omega
  have m1 : ((k : Int) == -1) = false := by simp
  go_wp2_with fail
  go_loopw [5, 6] (fun i j wr => ∃ (q : Nat), k ≤ q ∧ q + 1 ≤ l.length ∧ i = .int .i64 q ∧ j = .int .i64 (q + 1) ∧ Hid (DelRow w wr g cap K l k q)) (fun _ j _ => l.length - (intOf j).toNat)
  case atStart => exact ⟨k, by omega, by omega, rfl, rfl, HST.out⟩
  case round =>
    obtain ⟨q, hq1, hq2, rfl, rfl, HR⟩ := hrel
    obtain ⟨f1, cur', g1, g2, g3⟩ := HR.out
    obtain ⟨c0, z0⟩ := box_facts g1
    have q0 : (0 : Int) ≤ (q : Int) := by omega
    by_cases hlt : q + 1 < l.length
    · have d1 : wr.cell? ⟨g, q + 1, none⟩ = some (.int .i64 l[q + 1]) := by
        rw [c0, g3 (q + 1) hlt]
        unfold moved
        rw [if_neg (by omega)]
        simp [List.getD_eq_getElem?_getD, List.getElem?_eq_getElem hlt]
      have d2 : wr.cell? ⟨g, q, none⟩ = some (.int .i64 (moved l k q q)) := by rw [c0, g3 q (by omega)]
      have z1 := z0 q
      have hne1 := HNE.out (q + 1) hlt (by omega)
      have q1 : (q : Int) + 1 < (l.length : Int) := by omega
      have W1 : ((q : Int) + 1).toNat = q + 1 := by omega
      obtain ⟨x, hx⟩ : ∃ x, l[q + 1] = x := ⟨_, rfl⟩
      rw [hx] at d1 hne1
      have HX := Lib.hid hx
      have t : (x == id) = false := by simpa using hne1
      have HB1 := Lib.hid (f1.cell HB.out hBg)
      have hlb : g < wr.heap.size := lt_of_block g1
      have G1 := Lib.hid g1
      have G3 := Lib.hid g3
      have C0 := Lib.hid c0
      clear hx hne1 g1 g3 z0 c0
      go_wp2_with fail
      refine (isId_any x id HB1.out).mono ?_
      rintro e w' ⟨rfl, rfl⟩
      go_wp2_with fail
      go_roundw
      case rel =>
        refine ⟨q + 1, by omega, by omega, by go_num, by go_num, f1.setCell (.inl rfl) _, _, heap_setCell_same _ g q cur' 3 _ G1.out, by simp [g2], fun r hr => ?_⟩
        rw [Array.getElem?_setIfInBounds]
        by_cases hr1 : q = r
        · subst hr1
          rw [if_pos rfl, if_pos (by omega)]
          unfold moved
          rw [if_pos (by omega), ← HX.out]
          simp [List.getD_eq_getElem?_getD, List.getElem?_eq_getElem hlt]
        · rw [if_neg hr1, G3.out r hr]
          unfold moved
          by_cases h1 : r < q ∧ k ≤ r
          · rw [if_pos h1, if_pos (by omega)]
          · rw [if_neg h1, if_neg (by omega)]
      case measure => simp [intOf]; omega
    · obtain ⟨m, hm⟩ : ∃ m, l.length = m + 1 := ⟨l.length - 1, by omega⟩
      obtain rfl : q = m := by omega
      have d2 : wr.cell? ⟨g, q, none⟩ = some (.int .i64 (moved l k q q)) := by rw [c0, g3 q (by omega)]
      have z1 := z0 q
      have hclr : ∀ ty, (Builtin.clear_ #[73] ty #[.slice (some ⟨g, q, none⟩) (l.length - q) (cap - q)]).run Try.prog wr = .ok (.tuple #[]) (wr.setCell ⟨g, q, none⟩ (.int .i64 0)) := fun ty => by
        rw [show l.length - q = 1 by omega]
        exact HZZ.out wr 73 3 ty (.int .i64 0) Try.underlying73 (by intro w; rfl) rfl rfl g q 1 (cap - q) (by omega) (fun j hj => by rw [show q + j = q by omega, d2]; rfl) (fun j hj => by rw [show q + j = q by omega, z1])
      have G1 := Lib.hid g1
      have G3 := Lib.hid g3
      have HM := Lib.hid hm
      have q1 : (q : Int) + 1 = (l.length : Int) := by omega
      have n1 : ¬ ((q : Int) + 1 < (l.length : Int)) := by omega
      have HQ := Lib.hid q1
      clear g1 g3 z0 c0 hm q1 hlt
      go_wp2_with fail
      go_ret
      have hL := HL.out
      have hm := HM.out
      refine ⟨.slice (some ⟨g, 0, none⟩) q cap, rfl, ⟨by simp [ints], .inr ⟨g, cap, _, by rw [hL, hm, Nat.add_sub_cancel], heap_setCell_same _ g q cur' 3 _ G1.out, by omega, by unfold maxLen; omega, by simp [g2]; have := HCAP.out; omega, ?_⟩⟩, f1.setCell (.inl rfl) _, rfl⟩
      refine List.ext_getElem? fun r => ?_
      rw [hL, hm, Nat.add_sub_cancel, Nat.mul_one, List.getElem?_take]
      by_cases hr : r < q
      · have hr2 : r < (l.eraseIdx k).length := by omega
        rw [if_pos hr, Array.getElem?_toList, Array.getElem?_setIfInBounds_ne (by omega), G3.out r (by omega)]
        have := moved_last l k hk r hr2
        rw [hm, Nat.add_sub_cancel] at this
        rw [this]
        simp [ints, hr2]
      · rw [if_neg hr]
        simp only [ints, List.getElem?_map]
        rw [List.getElem?_eq_none (by omega)]
        rfl
end Go.Proofs.Ytplhcfaonhkegaa
