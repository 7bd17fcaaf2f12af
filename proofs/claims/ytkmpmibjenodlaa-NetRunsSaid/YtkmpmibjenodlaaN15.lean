/-
  Net: Cut.
-/
import Derived.Test.YtkmpmibjenodlaaN13
namespace Go.Proofs.Ytkmpmibjenodlaa
open Go.RowKit Go.Maps

def stays (a : Bool) (n : Int) (p : Parcel) : Bool := !(p.fa == a && p.fn == n) && !(p.ta == a && p.tn == n)

def cz (a : Bool) (n : Int) (l : List Parcel) (vs : List Value) (j : Nat) : List (Parcel × Value) := ((l.zip vs).take j).filter fun x => stays a n x.1
theorem cz_len (a : Bool) (n : Int) (l : List Parcel) (vs : List Value) (j : Nat) : (cz a n l vs j).length ≤ j :=
  Nat.le_trans (List.length_filter_le _ _) (by simp; omega)
theorem cz_succ (a : Bool) (n : Int) {l : List Parcel} {vs : List Value} (h : l.length = vs.length) (j : Nat) (hj : j < l.length) :
    cz a n l vs (j + 1) = cz a n l vs j ++ (if stays a n l[j] then [(l[j], vs[j]'(h ▸ hj))] else []) := by
  unfold cz
  have hz : j < (l.zip vs).length := by simp; omega
  rw [List.take_succ_eq_append_getElem hz, List.filter_append]
  congr 1
  simp only [List.getElem_zip, List.filter_cons, List.filter_nil]
theorem cz_fst (a : Bool) (n : Int) : ∀ {l : List Parcel} {vs : List Value}, l.length = vs.length → (cz a n l vs l.length).map Prod.fst = l.filter (stays a n)
  | [], [], _ => rfl
  | p :: l, v :: vs, h => by
    have ih := cz_fst a n (l := l) (vs := vs) (by simpa using h)
    unfold cz at ih ⊢
    simp only [List.zip_cons_cons, List.length_cons, List.take_succ_cons, List.filter_cons]
    split <;> simp_all
theorem cz_sub (a : Bool) (n : Int) {l : List Parcel} {vs : List Value} (j : Nat) (h : l.length = vs.length) : ((cz a n l vs j).map Prod.snd).Sublist vs := by
  have h1 : (cz a n l vs j).Sublist (l.zip vs) := (List.filter_sublist).trans (List.take_sublist ..)
  have h2 := h1.map Prod.snd
  rwa [List.map_snd_zip (by omega)] at h2

theorem Bytes.zip {w : World} : ∀ {l : List Parcel} {vs : List Value}, Bytes w l vs → ∀ x ∈ l.zip vs, GRow w 5 1 x.2 x.1.b.length (bcs x.1.b)
  | [], [], _, x, hx => by simp at hx
  | p :: l, v :: vs, h, x, hx => by
    rw [List.zip_cons_cons, List.mem_cons] at hx
    rcases hx with rfl | hx
    · exact h.1
    · exact Bytes.zip h.2 x hx
theorem Bytes.of_zip {w : World} : ∀ {z : List (Parcel × Value)}, (∀ x ∈ z, GRow w 5 1 x.2 x.1.b.length (bcs x.1.b)) → Bytes w (z.map Prod.fst) (z.map Prod.snd)
  | [], _ => trivial
  | x :: _, h => ⟨h x (List.mem_cons_self ..), Bytes.of_zip fun y hy => h y (List.mem_cons_of_mem _ hy)⟩

set_option maxRecDepth 100000 in
set_option maxHeartbeats 4000000 in
theorem stay_any {w : World} {b : Nat} {a : Bool} {n : Int} (h0 : w.cell? ⟨b, 0, none⟩ = some (.bool a)) (h1 : w.cell? ⟨b, 1, none⟩ = some (.int .i64 n)) (p : Parcel) (va : Option Addr) (vn vc : Nat) :
    Calls Try.prog 29 #[.agg #[.bool p.fa, .int .i64 p.fn, .bool p.ta, .int .i64 p.tn, .slice va vn vc], .pointer (some ⟨b, 0, none⟩)] w fun e w' => e = .returned (.bool (stays a n p)) ∧ Fr Non w w' := by
  have hb := World.block_lt_of_cell? w _ h0
  have hne : b ≠ w.heap.size := by simp at hb; omega
  have f0 : Fr Non w (w.alloc (.cells #[.bool p.fa, .int .i64 p.fn, .bool p.ta, .int .i64 p.tn, .slice va vn vc] 30)) := (Fr.refl _ _).alloc _
  have q0 := f0.cell h0 id
  have q1 := f0.cell h1 id
  go_enter Try.func29, Try.ntmps29
  go_wp2_with fail
  all_goals
    go_ret
    refine ⟨?_, (Fr.refl _ _).alloc _⟩
    simp_all [stays]

def cutSt (a : Bool) (n : Int) (st : NetSt) : NetSt :=
  { l := st.l.filter (stays a n), c := upd st.c 2 (st.c 2 + ((st.l.length : Int) - ((st.l.filter (stays a n)).length : Int))) }

set_option maxRecDepth 100000 in
set_option maxHeartbeats 4000000 in
theorem cut_ok {w : World} {bn bm : Nat} {lv : Value} {vs : List Value} {k : Nat} {st : NetSt} (h : NetAt w bn bm lv vs k st) (hk : k < 1000000) (a : Bool) (n : Int) (hn : 0 ≤ n ∧ n < 1024) :
    Calls Try.prog 19 #[.pointer (some ⟨bn, 0, none⟩), .agg #[.bool a, .int .i64 n]] w fun e w' =>
      e = .returned (.tuple #[.int .i64 ((st.l.length : Int) - ((st.l.filter (stays a n)).length : Int)), .int .i64 0]) ∧ NetPost w bn bm lv vs (k + 1) (cutSt a n st) w' := by
  obtain ⟨la, lc, rfl⟩ := h.row.form
  have hfull := h.full
  have hbn := lt_of_block h.cell
  go_enter Try.func19, Try.ntmps19
  go_wp2_with fail
  have f0 : Fr Non w (w.alloc (.cells #[.bool a, .int .i64 n] 27)) := (Fr.refl _ _).alloc _
  have h1 := h.fr f0 (fun _ _ => id)
  refine (made_yes _ bm _ (h1.box.1 1)).mono ?_
  rintro e w' ⟨rfl, rfl⟩
  go_wp2_with fail
  refine (check_ok a n _ hn.1 hn.2).mono ?_
  rintro e w1 ⟨rfl, f1⟩
  have f2 := f0.trans f1
  have h2 := h.fr f2 (fun _ _ => id)
  have q1 := h2.box.1 0
  simp only [List.getElem?_toArray, List.getElem?_cons_zero] at q1
  go_wp2_with fail
  clear q1
  have hw1 : w.heap.size < w1.heap.size := by have := f1.size; simp at this; omega
  go_loopw [9, 31] (fun v i wr => ∃ (j : Nat), j ≤ st.l.length ∧ i = .int .i64 j ∧ Hid (GRow wr 30 5 v (cz a n st.l vs j).length (rowOf ((cz a n st.l vs j).map Prod.fst) ((cz a n st.l vs j).map Prod.snd)) ∧
      Fr Non w1 wr ∧ ∀ b, v.ownBlock = some b → w1.heap.size ≤ b)) (fun _ i _ => st.l.length - (intOf i).toNat)
  case atStart => exact ⟨0, by omega, rfl, GRow.nil _ _ _, Fr.refl _ _, by simp [Value.ownBlock]⟩
  case round =>
    obtain ⟨j, hj, rfl, HI⟩ := hrel
    obtain ⟨g1, f3, g3⟩ := HI.out
    have h3 := h2.fr f3 (fun _ _ => id)
    obtain ⟨q2, _⟩ := (f1.trans f3).box (alloc_at w _) id
    have hz : w.heap.size < wr.heap.size := by have := f3.size; omega
    have hlen := cz_len a n st.l vs j
    by_cases hlt : j < st.l.length
    · obtain ⟨g, rfl, hl, hm, e0, e1, e2, e3, e4⟩ := h3.parcel j hlt
      unfold maxLen at hm
      obtain ⟨p, hp⟩ : ∃ p, st.l[j] = p := ⟨_, rfl⟩
      obtain ⟨va, vc, hv⟩ : ∃ a c, vs[j]'(h.bytes.len ▸ hlt) = .slice a st.l[j].b.length c := (h.bytes.form j hlt (h.bytes.len ▸ hlt)).form
      have hst := cz_succ a n h.bytes.len j hlt
      rw [hv] at e4 hst
      rw [hp] at e0 e1 e2 e3 e4 hst
      have HST := Lib.hid hst
      clear hp hv hst
      have j0 : (0 : Int) ≤ (j : Int) := by omega
      have j1 : (j : Int) < (st.l.length : Int) := by omega
      go_wp2_with fail
      refine (stay_any (a := a) (n := n) (b := w.heap.size) (by simpa using ((Fr.refl Non wr).alloc _).cell (q2 0) id) (by simpa using ((Fr.refl Non wr).alloc _).cell (q2 1) id) p va _ vc).mono ?_
      rintro e w4 ⟨rfl, f4⟩
      obtain ⟨q4, z4⟩ := f4.box (alloc_at wr _) id
      have f5 : Fr Non w1 w4 := (f3.alloc _).trans f4
      have q5 := (((Fr.refl Non wr).alloc (.cells #[.bool p.fa, .int .i64 p.fn, .bool p.ta, .int .i64 p.tn, .slice va p.b.length vc] 30)).trans f4)
      have g5 := g1.keep (w' := w4) (fun b hb => q5.block b (g1.lt b hb) id)
      have hz5 : wr.heap.size < w4.heap.size := by have := f4.size; simp at this; omega
      cases hto : stays a n p with
      | true =>
        rw [hto] at HST
        go_wp2_with (at_builtin; refine wpList_append_g rfl _ _ eI30 rfl _ _ _ rfl (g5.keep fun b hb => ?k1) _ 1 (pcs p (.slice va p.b.length vc)) rfl (Src.block (m := 1) (alloc_at w4 _) rfl (by simp [Value.oneCell'])) ?k2 ?k3 ?_)
        case k1 => exact Below.heap_alloc _ _ _ (g5.lt b hb)
        case k2 => unfold maxLen; omega
        case k3 => omega
        intro v' w5 r1 r2 r3
        go_wp2_with fail
        go_roundw
        case rel =>
          have hst := HST.out
          simp only [if_true] at hst
          refine ⟨j + 1, by omega, by go_num, ?_, ?_, ?_⟩
          · rw [hst]
            simp only [List.map_append, List.map_cons, List.map_nil, List.length_append, List.length_cons, List.length_nil]
            rw [rowOf_append _ _ (by simp)]
            simpa [rowOf] using r1
          · exact (f5.alloc _).trans2 r2 (fun b hb hx => by have := g3 b hx; omega)
          · intro b hb
            rcases r3 with r3 | ⟨r3, _⟩
            · exact g3 b (r3 ▸ hb)
            · rw [r3] at hb; cases hb; have := f3.size; (try simp); omega
        case measure => simp [intOf]; omega
      | false =>
        rw [hto] at HST
        go_wp2_with fail
        go_roundw
        case rel =>
          have hst := HST.out
          simp only [Bool.false_eq_true, if_false, List.append_nil] at hst
          refine ⟨j + 1, by omega, by go_num, ?_, f5, g3⟩
          rw [hst]; exact g5
        case measure => simp [intOf]; omega
    · obtain rfl : j = st.l.length := by omega
      have hfst := cz_fst a n h.bytes.len
      have hsub := cz_sub a n st.l.length h.bytes.len
      have hL : (cz a n st.l vs st.l.length).length = (st.l.filter (stays a n)).length := by rw [← hfst]; simp
      have hle : (st.l.filter (stays a n)).length ≤ st.l.length := List.length_filter_le _ _
      obtain ⟨X, hX⟩ : ∃ y, (st.l.filter (stays a n)).length = y := ⟨_, rfl⟩
      rw [hL, hX] at g1
      rw [hX] at hle
      obtain ⟨va, vc, rfl⟩ := g1.form
      have f6 := f2.trans f3
      have hz := h.bytes.zip
      have s1 := h2.sub (u := wr) (lv' := .slice va X vc) (l' := st.l.filter (stays a n)) (vs' := (cz a n st.l vs st.l.length).map Prod.snd) (f3.mono (fun _ _ => False.elim)) (N := w1.heap.size) (Nat.le_refl _)
        (by
          cases ho : (Value.slice va X vc).ownBlock with
          | none => exact .inr (.inl rfl)
          | some b => exact .inr (.inr ⟨b, rfl, g3 b ho⟩))
        (by rw [← hfst, List.length_map, hL, hX]; exact g1)
        (by
          rw [← hfst]
          refine Bytes.of_zip fun x hx => ?_
          have hm : x ∈ st.l.zip vs := by
            unfold cz at hx
            exact List.mem_of_mem_take (List.mem_filter.1 hx).1
          have := hz x hm
          exact this.keep fun b hb => f2.block b (this.lt b hb) id)
        (fun b hb => (hsub.filterMap _).subset hb)
        ((hsub.filterMap _).nodup (nodup_fp.1 h.nd).2.2.2.2.2.2) (by omega)
      obtain ⟨s1, s2⟩ := s1
      have hlk := s1.look 2 (by decide)
      obtain ⟨q3, z3⟩ := s1.box
      obtain ⟨q6, z6⟩ := h3.box
      obtain ⟨hc0, hc1⟩ := s1.cb 2
      have hs := s1.small
      simp only at hlk hc0 hc1
      have HX := Lib.hid hX
      clear hfst hsub hL hX hz
      have W1 : IntKind.i64.wrap ((st.l.length : Int) - (X : Int)) = (st.l.length : Int) - (X : Int) := IntWalk.i64_in _ (by omega)
      have W2 : IntKind.i64.wrap (st.c 2 + ((st.l.length : Int) - (X : Int))) = st.c 2 + ((st.l.length : Int) - (X : Int)) := IntWalk.i64_in _ (by omega)
      go_wp2_with (at_mapUpdate; refine wpList_updateI 56 rfl _ _ _ rfl Try.underlying56 Try.underlying64 Try.underlying3 rfl s1.map ?hn 2 rfl (by decide) (st.c 2 + ((st.l.length : Int) - (X : Int))) rfl (WalkArith.wf_i64 (by omega)) ?_)
      case hn => unfold maxLen; omega
      intro w7 r1 r2
      have n7 := s1.count hk 2 ((st.l.length : Int) - (X : Int)) (by omega) r1 r2
      go_wp2_with fail
      have hX := HX.out
      have e7 : cutSt a n st = { l := st.l.filter (stays a n), c := upd st.c 2 (st.c 2 + ((st.l.length : Int) - (X : Int))) } := by unfold cutSt; rw [hX]
      refine bodyPost_ret (v := .tuple #[.int .i64 ((st.l.length : Int) - (X : Int)), .int .i64 0]) (by simp [results, Try.results19, go_sem]) rfl ⟨by rw [hX], ?_, _, _, e7 ▸ n7, fun b hb => (s2 b hb).imp id (fun hx => Nat.le_trans f2.size hx)⟩
      exact ((f6.mono (fun _ _ => False.elim)).setCell (.inl (by simp [netFp])) _).trans2 r2 (fun b _ hb => mem_bm b hb)

theorem cut_bad {w : World} {bn bm : Nat} {lv : Value} {vs : List Value} {k : Nat} {st : NetSt} (h : NetAt w bn bm lv vs k st) (a : Bool) (n : Int) (hn : ¬ (0 ≤ n ∧ n < 1024)) :
    Calls Try.prog 19 #[.pointer (some ⟨bn, 0, none⟩), .agg #[.bool a, .int .i64 n]] w fun e w' => e = .returned (.tuple #[.int .i64 0, .int .i64 50]) ∧ Fr Non w w' := by
  go_enter Try.func19, Try.ntmps19
  go_wp2_with fail
  have f0 : Fr Non w (w.alloc (.cells #[.bool a, .int .i64 n] 27)) := (Fr.refl _ _).alloc _
  have h1 := h.fr f0 (fun _ _ => id)
  refine (made_yes _ bm _ (h1.box.1 1)).mono ?_
  rintro e w' ⟨rfl, rfl⟩
  go_wp2_with fail
  refine (check_bad a n _ hn).mono ?_
  rintro e w1 ⟨rfl, f1⟩
  go_wp2_with fail
  exact bodyPost_ret (v := .tuple #[.int .i64 0, .int .i64 50]) (by simp [results, Try.results19, go_sem]) rfl ⟨rfl, f0.trans f1⟩

theorem cut_nil {w : World} (a : Bool) (n : Int) :
    Calls Try.prog 19 #[.pointer none, .agg #[.bool a, .int .i64 n]] w fun e w' => e = .returned (.tuple #[.int .i64 0, .int .i64 4]) ∧ Fr Non w w' := by
  go_enter Try.func19, Try.ntmps19
  go_wp2_with fail
  refine (made_nil _).mono ?_
  rintro e w' ⟨rfl, rfl⟩
  go_wp2_with fail
  exact bodyPost_ret (v := .tuple #[.int .i64 0, .int .i64 4]) (by simp [results, Try.results19, go_sem]) rfl ⟨rfl, (Fr.refl _ _).alloc _⟩

theorem cut_zero {w : World} {bn : Nat} (h : w.cell? ⟨bn, 1, none⟩ = some (.map none)) (a : Bool) (n : Int) :
    Calls Try.prog 19 #[.pointer (some ⟨bn, 0, none⟩), .agg #[.bool a, .int .i64 n]] w fun e w' => e = .returned (.tuple #[.int .i64 0, .int .i64 4]) ∧ Fr Non w w' := by
  go_enter Try.func19, Try.ntmps19
  go_wp2_with fail
  refine (made_zero _ _ (((Fr.refl Non w).alloc _).cell h id)).mono ?_
  rintro e w' ⟨rfl, rfl⟩
  go_wp2_with fail
  exact bodyPost_ret (v := .tuple #[.int .i64 0, .int .i64 4]) (by simp [results, Try.results19, go_sem]) rfl ⟨rfl, (Fr.refl _ _).alloc _⟩
end Go.Proofs.Ytkmpmibjenodlaa
