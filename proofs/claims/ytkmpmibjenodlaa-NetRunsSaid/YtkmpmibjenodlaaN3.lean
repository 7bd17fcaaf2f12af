/-
  Net: Put.
-/
import Derived.Test.YtkmpmibjenodlaaN2
namespace Go.Proofs.Ytkmpmibjenodlaa
open Go.RowKit Go.Maps

theorem NetAt.box {w : World} {bn bm : Nat} {lv : Value} {vs : List Value} {k : Nat} {st : NetSt} (h : NetAt w bn bm lv vs k st) :
   (∀ j, w.cell? ⟨bn, j, none⟩ = (#[lv, .map (some bm)] : Array Value)[j]?) ∧ (∀ j, w.frozen? ⟨bn, j, none⟩ = false) := box_facts h.cell

theorem zeroE3 (w : World) : (zeroValue 3).run Try.prog w = .ok (.int .i64 0) w := by kernel_rfl

theorem NetAt.look {w : World} {bn bm : Nat} {lv : Value} {vs : List Value} {k : Nat} {st : NetSt} (h : NetAt w bn bm lv vs k st) (j : Int) (hj : (Lit.int .i64 j).wf = true) :
    (Instr.lookup 56 (.map (some bm)) (.int .i64 j) false).run Try.prog w = .ok (.int .i64 (st.c j)) w :=
  h.map.look Try.underlying56 Try.underlying64 Try.underlying3 zeroE3 j hj

/-- Something more was counted. -/
theorem NetAt.count {w w' : World} {bn bm : Nat} {lv : Value} {vs : List Value} {k : Nat} {st : NetSt} (h : NetAt w bn bm lv vs k st) (hk : k < 1000000) (j d : Int) (hd : 0 ≤ d ∧ d ≤ 5000)
    (hm : MapI Try.prog 64 3 w' bm (k + 1) (upd st.c j (st.c j + d))) (hf : Fr (fun i => i = bm) w w') : NetAt w' bn bm lv vs (k + 1) { st with c := upd st.c j (st.c j + d) } := by
  have hnd := h.nd
  simp only [netFp, List.nodup_cons, List.mem_cons, not_or] at hnd
  obtain ⟨⟨n1, n2⟩, n3, n4⟩ := hnd
  refine ⟨hf.heap h.cell n1, hm, h.row.keep fun b hb => hf.block b (h.row.lt b hb) ?_, h.bytes.keep fun b hb => hf.block b (h.bytes.lt b hb) ?_, h.nd, by omega, h.full, fun i => ?_⟩
  · rintro rfl
    exact n3 (List.mem_filterMap.2 ⟨lv, by simp, hb⟩)
  · rintro rfl
    obtain ⟨a, h1, h2⟩ := List.mem_filterMap.1 hb
    exact n3 (List.mem_filterMap.2 ⟨a, by simp [h1], h2⟩)
  · have h1 := h.cb i
    have h2 := h.cb j
    show 0 ≤ upd st.c j (st.c j + d) i ∧ upd st.c j (st.c j + d) i ≤ 5000 * ((k + 1 : Nat) : Int)
    unfold upd
    split <;> omega

theorem mem_bm {bn bm : Nat} {lv : Value} {vs : List Value} : ∀ b, b = bm → b ∈ netFp bn bm lv vs := by rintro b rfl; simp [netFp]

/-- Too many parcels. -/
theorem put_many {w : World} {bn bm : Nat} {lv : Value} {vs : List Value} {k : Nat} {st : NetSt} (h : NetAt w bn bm lv vs k st) (hk : k < 1000000) (p : Parcel) (v : Value) (hp : Src w 1 v p.b.length (bcs p.b))
    (h1 : 0 ≤ p.fn ∧ p.fn < 1024) (h2 : 0 ≤ p.tn ∧ p.tn < 1024) (h3 : p.b.length ≤ 262144) (hf : st.l.length = 4096) :
    Calls Try.prog 10 #[.pointer (some ⟨bn, 0, none⟩), .agg #[.bool p.fa, .int .i64 p.fn, .bool p.ta, .int .i64 p.tn, v]] w fun e w' =>
      e = .returned (.int .i64 3) ∧ NetPost w bn bm lv vs (k + 1) { st with c := upd st.c 3 (st.c 3 + 1) } w' := by
  obtain ⟨a, c, rfl⟩ := h.row.form
  obtain ⟨va, vc, rfl⟩ : ∃ a c, v = .slice a p.b.length c := by
    rcases hp.2.2 with ⟨rfl, h0⟩ | ⟨ad, c, rfl, _⟩
    · exact ⟨_, _, by rw [h0]⟩
    · exact ⟨_, _, rfl⟩
  obtain ⟨h1a, h1b⟩ := h1
  obtain ⟨h2a, h2b⟩ := h2
  have hbn := lt_of_block h.cell
  go_enter Try.func10, Try.ntmps10
  go_wp2_with fail
  refine (made_yes _ bm _ ?_).mono ?_
  · rw [World.cell?_alloc_past _ _ _ hbn]; exact h.box.1 1
  rintro e w' ⟨rfl, rfl⟩
  go_wp2_with fail
  refine (check_ok _ _ _ h1a h1b).mono ?_
  rintro e w1 ⟨rfl, f1⟩
  obtain ⟨b1, z1⟩ := f1.box (alloc_at _ _) id
  go_wp2_with fail
  refine (check_ok _ _ _ h2a h2b).mono ?_
  rintro e w2 ⟨rfl, f2⟩
  have f3 := f1.trans f2
  obtain ⟨b2, z2⟩ := f3.box (alloc_at _ _) id
  have h4 := (h.fr ((Fr.refl Non w).alloc _) (fun _ _ => id)).fr f3 (fun _ _ => id)
  obtain ⟨b3, z3⟩ := h4.box
  clear b1 z1 f1 f2
  have hlk := h4.look 3 (by decide)
  obtain ⟨hc0, hc1⟩ := h4.cb 3
  have hs := h4.small
  go_wp2_with (at_mapUpdate; refine wpList_updateI 56 rfl _ _ _ rfl Try.underlying56 Try.underlying64 Try.underlying3 rfl h4.map ?hn 3 rfl (by decide) (st.c 3 + 1) rfl (WalkArith.wf_i64 (by omega)) ?_)
  case hn => unfold maxLen; omega
  intro w3 g1 g2
  go_wp2
  go_ret
  exact ⟨rfl, ((((Fr.refl Non w).alloc _).trans f3).mono (fun _ _ => False.elim)).trans2 g2 (fun _ _ => mem_bm _), _, _, h4.count hk 3 1 (by omega) g1 g2, fun b hb => .inl hb⟩
end Go.Proofs.Ytkmpmibjenodlaa
