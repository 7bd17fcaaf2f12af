/-
  Net: Take, Twin, At, Drop of a parcel that is there.
-/
import Derived.Test.YtkmpmibjenodlaaN8
namespace Go.Proofs.Ytkmpmibjenodlaa
open Go.RowKit Go.Maps

theorem gone_any {w : World} {bn bm : Nat} {lv : Value} {vs : List Value} {k : Nat} {st : NetSt} (h : NetAt w bn bm lv vs k st) (i : Nat) (hi : i < st.l.length) :
    Calls Try.prog 28 #[.pointer (some ⟨bn, 0, none⟩), .int .i64 i] w fun e w' =>
      e = .returned (.agg (pcs st.l[i] (vs[i]'(h.bytes.len ▸ hi))).toArray) ∧ GonePost w bn bm lv vs i k { st with l := st.l.eraseIdx i } w' := by
  by_cases hl : st.l.length = i + 1
  · exact gone_last h i hi hl
  · exact gone_mid h i (by omega)

theorem GonePost.post {w w' : World} {bn bm : Nat} {lv : Value} {vs : List Value} {i k : Nat} {st : NetSt} (h : GonePost w bn bm lv vs i k st w') : NetPost w bn bm lv vs k st w' := by
  obtain ⟨f, lv', n, hl⟩ := h
  exact ⟨f.mono (fun b _ hb => by subst hb; simp [netFp]), lv', _, n, GonePost.sub (w' := w') hl⟩

/-- What was taken out is nobody's. -/
theorem own_apart {w : World} {bn bm : Nat} {lv lv' : Value} {vs : List Value} {k : Nat} {st : NetSt} (h : NetAt w bn bm lv vs k st) (i : Nat) (hi : i < vs.length) {N : Nat} (hN : w.heap.size ≤ N)
    (hl : ∀ b, lv'.ownBlock = some b → lv.ownBlock = some b ∨ N ≤ b) : ∀ b, vs[i].ownBlock = some b → b ∉ netFp bn bm lv' (vs.eraseIdx i) := by
  intro b hb hm
  have hmem : b ∈ vs.filterMap Value.ownBlock := List.mem_filterMap.2 ⟨_, List.getElem_mem hi, hb⟩
  have hlt : b < w.heap.size := h.bytes.lt b hmem
  obtain ⟨n1, n2, n3, n4, n5, n6, n7⟩ := nodup_fp.1 h.nd
  have hno : b ∉ (vs.eraseIdx i).filterMap Value.ownBlock := by
    intro hx
    have hsp : vs = vs.take i ++ vs[i] :: vs.drop (i + 1) := by simp
    rw [List.eraseIdx_eq_take_drop_succ, List.filterMap_append, List.mem_append] at hx
    rw [hsp, List.filterMap_append, List.filterMap_cons_some hb, List.nodup_append] at n7
    rcases hx with hx | hx
    · exact n7.2.2 b hx b (List.mem_cons_self ..) rfl
    · exact (List.nodup_cons.1 n7.2.1).1 hx
  simp only [netFp, List.mem_cons, List.filterMap_cons] at hm
  rcases hm with h1 | h1 | h1
  · exact n4 (h1 ▸ hmem)
  · exact n5 (h1 ▸ hmem)
  · cases ho : lv'.ownBlock with
    | none => rw [ho] at h1; exact hno h1
    | some c =>
      rw [ho] at h1
      rcases List.mem_cons.1 h1 with h2 | h2
      · subst h2
        rcases hl b ho with h3 | h3
        · exact n6 b h3 hmem
        · omega
      · exact hno h2

theorem bytes_get {w : World} {bn bm : Nat} {lv : Value} {vs : List Value} {k : Nat} {st : NetSt} (h : NetAt w bn bm lv vs k st) (i : Nat) (hi : i < st.l.length) :
    GRow w 5 1 (vs[i]'(h.bytes.len ▸ hi)) st.l[i].b.length (bcs st.l[i].b) := h.bytes.form i hi (h.bytes.len ▸ hi)

theorem NetPost.trans {w w1 w2 : World} {bn bm : Nat} {lv lv1 : Value} {vs vs1 : List Value} {k1 k2 : Nat} {st1 st2 : NetSt} (_h : NetAt w1 bn bm lv1 vs1 k1 st1)
    (f : Fr (fun b => b ∈ netFp bn bm lv vs) w w1) (hs : ∀ b ∈ netFp bn bm lv1 vs1, b ∈ netFp bn bm lv vs ∨ w.heap.size ≤ b) (h2 : NetPost w1 bn bm lv1 vs1 k2 st2 w2) : NetPost w bn bm lv vs k2 st2 w2 := by
  obtain ⟨f2, lv2, vs2, n2, s2⟩ := h2
  refine ⟨f.trans2 f2 (fun b hb hm => (hs b hm).resolve_right (by omega)), lv2, vs2, n2, fun b hb => ?_⟩
  rcases s2 b hb with h1 | h1
  · exact hs b h1
  · exact .inr (Nat.le_trans f.size h1)

/-- The five cells of a result's own block are written. -/
def set5 (w : World) (b : Nat) (p : Parcel) (v : Value) : World :=
  ((((w.setCell ⟨b, 0, none⟩ (.bool p.fa)).setCell ⟨b, 1, none⟩ (.int .i64 p.fn)).setCell ⟨b, 2, none⟩ (.bool p.ta)).setCell ⟨b, 3, none⟩ (.int .i64 p.tn)).setCell ⟨b, 4, none⟩ v
theorem set5_fr (w : World) (b : Nat) (p : Parcel) (v : Value) : Fr (fun i => i = b) w (set5 w b p v) := by
  unfold set5
  iterate 5 refine Fr.setCell (T := fun i => i = b) ?_ (.inl rfl) _
  exact Fr.refl _ _

set_option maxRecDepth 100000 in
set_option maxHeartbeats 1000000 in
theorem take_ok {w : World} {bn bm : Nat} {lv : Value} {vs : List Value} {k : Nat} {st : NetSt} (h : NetAt w bn bm lv vs k st) (hk : k < 1000000) (i : Nat) (hi : i < st.l.length) :
    Calls Try.prog 12 #[.pointer (some ⟨bn, 0, none⟩), .int .i64 i] w fun e w' =>
      e = .returned (.tuple #[.agg (pcs st.l[i] (vs[i]'(h.bytes.len ▸ hi))).toArray, .int .i64 0]) ∧ Fr (fun b => b ∈ netFp bn bm lv vs) w w' ∧ (∃ lv' vs', NetAt w' bn bm lv' vs' (k + 1) { l := st.l.eraseIdx i, c := upd st.c 1 (st.c 1 + 1) } ∧
        (∀ b ∈ netFp bn bm lv' vs', b ∈ netFp bn bm lv vs ∨ w.heap.size ≤ b) ∧ ∀ b, (vs[i]'(h.bytes.len ▸ hi)).ownBlock = some b → b ∉ netFp bn bm lv' vs') ∧
       GRow w' 5 1 (vs[i]'(h.bytes.len ▸ hi)) st.l[i].b.length (bcs st.l[i].b) := by
  obtain ⟨va, vc, hv⟩ : ∃ a c, vs[i]'(h.bytes.len ▸ hi) = .slice a st.l[i].b.length c := (h.bytes.form i hi (h.bytes.len ▸ hi)).form
  have HV := Lib.hid hv
  clear hv
  have hbn := lt_of_block h.cell
  go_enter Try.func12, Try.ntmps12
  go_wp2_with fail
  have h1 := h.fr (((Fr.refl Non w).alloc (.cells #[.bool false, .int .i64 0, .bool false, .int .i64 0, .slice none 0 0] 30)).alloc (.cells #[.int .i64 i] 3)) (fun _ _ => id)
  refine (place_ok h1 [(i : Int)] _ 1 (fun j hj => by simpa using one_int (w := w.alloc (.cells #[.bool false, .int .i64 0, .bool false, .int .i64 0, .slice none 0 0] 30)) i 3 j hj) (by simp) (by simpa using hi)).mono ?_
  rintro e w' ⟨rfl, rfl⟩
  have hlk := h1.look 1 (by decide)
  obtain ⟨q1, q2⟩ := h1.box
  obtain ⟨hc0, hc1⟩ := h1.cb 1
  have hs := h1.small
  go_wp2_with (at_mapUpdate; refine wpList_updateI 56 rfl _ _ _ rfl Try.underlying56 Try.underlying64 Try.underlying3 rfl h1.map ?hn 1 rfl (by decide) (st.c 1 + 1) rfl (WalkArith.wf_i64 (by omega)) ?_)
  case hn => unfold maxLen; omega
  intro w3 g1 g2
  have h3 := h1.count hk 1 1 (by omega) g1 g2
  go_wp2_with fail
  refine (gone_any h3 i hi).mono ?_
  rintro e w4 ⟨rfl, f4, lv4, n4, s4⟩
  have f4' : Fr (fun b => b ∈ netFp bn bm lv vs) w3 w4 := f4.mono (fun b _ hb => by subst hb; simp [netFp])
  have s4' := GonePost.sub (w := w3) (w' := w4) (bn := bn) (bm := bm) (vs := vs) (i := i) s4
  have hap := own_apart h i (h.bytes.len ▸ hi) (N := w3.heap.size) (by have := g2.size; simp at this; omega) s4
  have g3 := g2.heap (alloc_at2 w _ _) (by have := h.map.lt; simp; omega)
  have hm4 : w.heap.size ∉ netFp bn bm lv vs := fun hm => absurd (h.lt _ hm) (by omega)
  obtain ⟨b4, z4⟩ := f4'.box g3 hm4
  have hb0 := bytes_get h i hi
  have hb4 : GRow w4 5 1 (vs[i]'(h.bytes.len ▸ hi)) st.l[i].b.length (bcs st.l[i].b) := hb0.keep fun b hb => by
    have hlt := hb0.lt b hb
    have hmem : b ∈ vs.filterMap Value.ownBlock := List.mem_filterMap.2 ⟨_, List.getElem_mem _, hb⟩
    have hn := nodup_fp.1 h.nd
    rw [f4.block b (by have := g2.size; simp at this; omega) (fun e => hn.2.2.2.1 (e ▸ hmem)), g2.block b (by simp; omega) (fun e => hn.2.2.2.2.1 (e ▸ hmem))]
    rw [Below.heap_alloc _ _ _ (by simp; omega), Below.heap_alloc _ _ _ hlt]
  have HAP := Lib.hid hap
  have HB4 := Lib.hid hb4
  clear hap hb4 hb0
  rw [HV.out]
  simp only [pcs]
  go_wp2_with fail
  have f0 : Fr Non w ((w.alloc (.cells #[.bool false, .int .i64 0, .bool false, .int .i64 0, .slice none 0 0] 30)).alloc (.cells #[.int .i64 i] 3)) := ((Fr.refl Non w).alloc _).alloc _
  have f5 : Fr (fun b => b ∈ netFp bn bm lv vs) w w4 := ((f0.mono (fun _ _ => False.elim)).trans2 g2 (fun b _ hb => mem_bm b hb)).trans f4'
  have n5 : NetAt (set5 w4 w.heap.size st.l[i] (.slice va st.l[i].b.length vc)) bn bm lv4 (vs.eraseIdx i) (k + 1) { l := st.l.eraseIdx i, c := upd st.c 1 (st.c 1 + 1) } :=
    n4.fr (set5_fr _ _ _ _) (fun b hb e => by
      subst e
      rcases s4' _ hb with h1 | h1
      · exact hm4 h1
      · have := g2.size; simp at this; omega)
  have hb4 := HB4.out
  refine bodyPost_ret (v := .tuple #[.agg (pcs st.l[i] (.slice va st.l[i].b.length vc)).toArray, .int .i64 0]) (by simp [results, Try.results12, go_sem, b4, pcs]) rfl ⟨by rw [HV.out], ?_, ⟨lv4, _, n5, fun b hb => (s4' b hb).imp id (fun hx => by have := g2.size; simp at this; omega), ?_⟩, ?_⟩
  · exact f5.trans2 (set5_fr _ _ _ _) (fun b hb e => by omega)
  · have := HAP.out
    rwa [HV.out] at this
  · have e4 := HV.out
    rw [HV.out] at hb4 ⊢
    refine hb4.keep fun b hb => (set5_fr _ _ _ _).block b (hb4.lt b hb) (fun e => ?_)
    subst e
    have := (bytes_get h i hi).lt w.heap.size (by rw [HV.out]; exact hb)
    omega

set_option maxRecDepth 100000 in
set_option maxHeartbeats 1000000 in
theorem drop_ok {w : World} {bn bm : Nat} {lv : Value} {vs : List Value} {k : Nat} {st : NetSt} (h : NetAt w bn bm lv vs k st) (hk : k < 1000000) (i : Nat) (hi : i < st.l.length) :
    Calls Try.prog 16 #[.pointer (some ⟨bn, 0, none⟩), .int .i64 i] w fun e w' =>
      e = .returned (.int .i64 0) ∧ NetPost w bn bm lv vs (k + 1) { l := st.l.eraseIdx i, c := upd st.c 2 (st.c 2 + 1) } w' := by
  go_enter Try.func16, Try.ntmps16
  go_wp2_with fail
  have f0 : Fr Non w (w.alloc (.cells #[.int .i64 i] 3)) := (Fr.refl Non w).alloc _
  have h1 := h.fr f0 (fun _ _ => id)
  refine (place_ok h1 [(i : Int)] _ 1 (fun j hj => by simpa using one_int (w := w) i 3 j hj) (by simp) (by simpa using hi)).mono ?_
  rintro e w' ⟨rfl, rfl⟩
  go_wp2_with fail
  refine (gone_any h1 i hi).mono ?_
  rintro e w4 ⟨rfl, hgp⟩
  obtain ⟨f4, lv4, vs4, n4, s4⟩ := hgp.post
  have hlk := n4.look 2 (by decide)
  obtain ⟨q1, q2⟩ := n4.box
  obtain ⟨hc0, hc1⟩ := n4.cb 2
  have hs := n4.small
  simp only at hlk hc0 hc1
  go_wp2_with (at_mapUpdate; refine wpList_updateI 56 rfl _ _ _ rfl Try.underlying56 Try.underlying64 Try.underlying3 rfl n4.map ?hn 2 rfl (by decide) (st.c 2 + 1) rfl (WalkArith.wf_i64 (by omega)) ?_)
  case hn => unfold maxLen; omega
  intro w5 g1 g2
  have n5 := n4.count hk 2 1 (by omega) g1 g2
  go_wp2_with fail
  go_ret
  refine ⟨rfl, ?_, lv4, vs4, n5, fun b hb => (s4 b hb).imp id (fun hx => by simp at hx; omega)⟩
  exact ((f0.mono (fun _ _ => False.elim)).trans f4).trans2 g2 (fun b hbl hb => by
    subst hb
    exact (s4 b (by simp [netFp])).resolve_right (by simp; omega))

set_option maxRecDepth 100000 in
set_option maxHeartbeats 1000000 in
theorem twin_ok {w : World} {bn bm : Nat} {lv : Value} {vs : List Value} {k : Nat} {st : NetSt} (h : NetAt w bn bm lv vs k st) (hk : k < 1000000) (i : Nat) (hi : i < st.l.length) (hb : st.l[i].b.length ≤ 262144) :
    Calls Try.prog 11 #[.pointer (some ⟨bn, 0, none⟩), .int .i64 i] w fun e w' =>
      ∃ a c, e = .returned (.tuple #[.agg (pcs st.l[i] (.slice a st.l[i].b.length c)).toArray, .int .i64 0]) ∧ GRow w' 5 1 (.slice a st.l[i].b.length c) st.l[i].b.length (bcs st.l[i].b) ∧ (∀ b, a = some b → w.heap.size ≤ b.block) ∧
       NetAt w' bn bm lv vs (k + 1) { st with c := upd st.c 1 (st.c 1 + 1) } ∧ Fr (fun b => b = bm) w w' := by
  obtain ⟨a, c, rfl⟩ := h.row.form
  obtain ⟨p, hp⟩ : ∃ p, st.l[i] = p := ⟨_, rfl⟩
  have HP := Lib.hid hp
  rw [hp] at hb ⊢
  clear hp
  go_enter Try.func11, Try.ntmps11
  go_wp2_with fail
  have f0 : Fr Non w ((w.alloc (.cells #[.bool false, .int .i64 0, .bool false, .int .i64 0, .slice none 0 0] 30)).alloc (.cells #[.int .i64 i] 3)) := ((Fr.refl Non w).alloc _).alloc _
  have h1 := h.fr f0 (fun _ _ => id)
  refine (place_ok h1 [(i : Int)] _ 1 (fun j hj => by simpa using one_int (w := w.alloc (.cells #[.bool false, .int .i64 0, .bool false, .int .i64 0, .slice none 0 0] 30)) i 3 j hj) (by simp) (by simpa using hi)).mono ?_
  rintro e w' ⟨rfl, rfl⟩
  have hlk := h1.look 1 (by decide)
  obtain ⟨q1, q2⟩ := h1.box
  obtain ⟨hc0, hc1⟩ := h1.cb 1
  have hs := h1.small
  go_wp2_with (at_mapUpdate; refine wpList_updateI 56 rfl _ _ _ rfl Try.underlying56 Try.underlying64 Try.underlying3 rfl h1.map ?hn 1 rfl (by decide) (st.c 1 + 1) rfl (WalkArith.wf_i64 (by omega)) ?_)
  case hn => unfold maxLen; omega
  intro w3 g1 g2
  have h3 := h1.count hk 1 1 (by omega) g1 g2
  clear q1 q2
  obtain ⟨q1, q2⟩ := h3.box
  obtain ⟨g, rfl, hl, hm, e0, e1, e2, e3, e4⟩ := NetAt.parcel (st := { l := st.l, c := upd st.c 1 (st.c 1 + 1) }) h3 i hi
  have hfull := h.full
  unfold maxLen at hm
  have i0 : (0 : Int) ≤ (i : Int) := by omega
  have i1 : (i : Int) < (st.l.length : Int) := by omega
  obtain ⟨va, vc, hv⟩ : ∃ a c, vs[i]'(h.bytes.len ▸ hi) = .slice a st.l[i].b.length c := (h.bytes.form i hi (h.bytes.len ▸ hi)).form
  have hby := h3.bytes.form i hi (h.bytes.len ▸ hi)
  simp only [hv] at e4 hby
  have HV := Lib.hid hv
  clear hv
  simp only [HP.out] at e0 e1 e2 e3 e4 hby
  go_wp2_with fail
  refine (own_any _ _ _ _ _ p.b _ (hby.src (bcs_one _)) (by omega)).mono ?_
  rintro e w4 ⟨a4, c4, rfl, r1, r2, r3⟩
  have g3 := r2.heap (g2.heap (alloc_at2 w _ _) (by have := h.map.lt; simp; omega)) id
  obtain ⟨b4, z4⟩ := box_facts g3
  clear e0 e1 e2 e3 e4 q1 q2
  go_wp2_with fail
  have n4 := h3.fr r2 (fun _ _ => id)
  have hm4 : w.heap.size ∉ netFp bn bm (.slice (some ⟨g, 0, none⟩) st.l.length c) vs := fun hm => absurd (h.lt _ hm) (by omega)
  refine bodyPost_ret (v := .tuple #[.agg (pcs p (.slice a4 p.b.length c4)).toArray, .int .i64 0]) (by simp [results, Try.results11, go_sem, b4, pcs]) rfl ⟨a4, c4, rfl, ?_, ?_, (n4.fr (set5_fr _ w.heap.size p (.slice a4 p.b.length c4)) (fun b hb e => hm4 (e ▸ hb))), ?_⟩
  · refine r1.keep fun b hb => (set5_fr w4 w.heap.size p (.slice a4 p.b.length c4)).block b (r1.lt b hb) ?_
    cases a4 with
    | none => simp [Value.ownBlock] at hb
    | some ad =>
      simp [Value.ownBlock] at hb; subst hb
      have := r3 ad rfl; have := g2.size; simp at this; omega
  · intro b hb
    have := r3 b hb; have := g2.size; simp at this; omega
  · exact (((f0.mono (fun _ _ => False.elim)).trans2 g2 (fun _ _ hx => hx)).trans (r2.mono (fun _ _ => False.elim))).trans2 (set5_fr w4 w.heap.size p (.slice a4 p.b.length c4)) (fun b hb e => by omega)
end Go.Proofs.Ytkmpmibjenodlaa
