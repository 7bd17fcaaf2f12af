/-
  The reference: Pick, SamePlaces.
  The reference: Pick.
  The reference's parts are the program's: the plain law.
  Rows of places that grow, each in a block of its own.
  The reference: Parts.
  The reference: do, with the blocks of what comes out.
  The reference: Begin with its blocks, same.
-/
import Derived.Test.YtplhcfaonhkegaaLG
import Derived.Test.YtplhcfaonhkegaaLE
namespace Go.Proofs.Ytplhcfaonhkegaa
open Go.RowKit Go.Maps

/-- One of a row of numbers. -/
theorem int_at {S : Nat → Prop} {w : World} {a : Option Addr} {n c : Nat} {l : List Int} (h : Sl kI S w (.slice a n c) l) (i : Nat) (hi : i < l.length) :
    ∃ b o, a = some ⟨b, o, none⟩ ∧ ∀ y, Fr Non w y → y.cell? ⟨b, o + i, none⟩ = some (.int .i64 l[i]) := by
  obtain ⟨b, o, cs, e, _, _, _, hr, hc⟩ := h.at i hi
  refine ⟨b, o, e, fun y f => ?_⟩
  have e2 : cs = [.int .i64 l[i]] := hr.1
  subst e2
  have := hc 0 (by simp)
  have hsz : kI.sz = 1 := rfl
  rw [hsz] at this
  simp only [Nat.mul_one, Nat.add_zero, List.getElem_cons_zero] at this
  exact f.cell this id
theorem take_ne {a b : List Int} {j : Nat} (h1 : j < a.length) (h2 : j < b.length) (hne : ¬ a[j] = b[j]) : ¬ a = b := by
  rintro rfl
  exact hne rfl
set_option maxRecDepth 100000 in
set_option maxHeartbeats 4000000 in
theorem sameplaces_any {w : World} {u v : Value} {a b : List Int} (ha : Sl kI All w u a) (hb : Sl kI All w v b) :
    Calls Try.prog 66 #[u, v] w fun e w' => e = .returned (.bool (decide (a = b))) ∧ Fr Non w w' := by
  obtain ⟨ua, uc, rfl, _, hux, _⟩ := ha.frm
  obtain ⟨va, vc, rfl, _, hvx, _⟩ := hb.frm
  unfold maxLen at hux hvx
  have HA := Lib.hid ha
  have HB := Lib.hid hb
  clear ha hb
  obtain ⟨R, hR⟩ : ∃ R, decide (a = b) = R := ⟨_, rfl⟩
  have HR := Lib.hid hR
  rw [hR]
  clear hR
  go_enter Try.func66, Try.ntmps66
  by_cases hl : a.length = b.length
  rotate_left
  · have l1 : ¬ (a.length : Int) = (b.length : Int) := by omega
    have HE := Lib.hid (show R = false by rw [← HR.out, decide_eq_false]; rintro rfl; exact hl rfl)
    go_wp2_with fail
    go_ret
    exact ⟨by rw [HE.out]; rfl, Fr.refl _ _⟩
  obtain ⟨n, hn⟩ : ∃ n, a.length = n := ⟨_, rfl⟩
  have hm : b.length = n := by omega
  rw [hn] at HA
  rw [hm] at HB
  rw [hn, hm]
  have hnb : n ≤ 9223372036854775807 := by omega
  clear hl
  have HN := Lib.hid (And.intro hn hm)
  clear hn hm
  go_wp2_with fail
  go_loopw [5] (fun iv wr => ∃ (j : Nat), j ≤ n ∧ iv = .int .i64 j ∧ Hid (Fr Non w wr ∧ a.take j = b.take j)) (fun iv _ => n - (intOf iv).toNat)
  case atStart => exact ⟨0, by omega, rfl, Fr.refl _ _, rfl⟩
  case round =>
    obtain ⟨j, hj, rfl, HI⟩ := hrel
    have j0 : (0 : Int) ≤ (j : Int) := by omega
    by_cases hlt : j < n
    · have j1 : (j : Int) < (n : Int) := by omega
      have ja : j < a.length := by rw [HN.out.1]; exact hlt
      have j3 : j < b.length := by rw [HN.out.2]; exact hlt
      obtain ⟨b1, o1, e, h1⟩ := int_at (HA.out.stay HI.out.1) j ja
      cases e
      obtain ⟨b2, o2, e, h2⟩ := int_at (HB.out.stay HI.out.1) j j3
      cases e
      have H1 := Lib.hid h1
      have H2 := Lib.hid h2
      have HNE := Lib.hid (fun h => take_ne ja j3 h)
      have HTE := Lib.hid (show a[j] = b[j] → a.take (j + 1) = b.take (j + 1) from fun h => by rw [List.take_succ_eq_append_getElem ja, List.take_succ_eq_append_getElem j3, HI.out.2, h])
      obtain ⟨x, hx⟩ : ∃ x, a[j] = x := ⟨_, rfl⟩
      obtain ⟨y, hy⟩ : ∃ y, b[j] = y := ⟨_, rfl⟩
      rw [hx] at H1
      rw [hy] at H2
      rw [hx, hy] at HNE HTE
      have FW := Lib.hid HI.out.1
      clear h1 h2 hx hy HI ja j3
      have fd : Fr Non wr wr.drew := (Fr.refl _ _).drew
      by_cases hxy : x = y
      · subst hxy
        go_wp2_with fail
        refine wp_draw [((fun y => Fr Non wr y), [(.free, 0), (.free, 1), (.free, 2), (.held, 3), (.free, 4), (.free, 5), (.free, 6), (.held, 7), (.free, 8)])] 9 (by kernel_rfl) (by kernel_rfl) (fun _ _ _ _ _ h => h) ⟨fd, ?_⟩
        generalize wr.drew = wd at fd ⊢
        repeat (first
          | (refine' wpPlan_free (v := _) rfl (by rfl) ?_ ?_
             rotate_left
             · (intro w'; skip; go_simp; try rfl)
             simp only [List.getElem_toArray, List.getElem_cons_zero, List.getElem_cons_succ, Act.put, List.setIfInBounds_toArray, List.set_cons_zero, List.set_cons_succ])
          | (refine' wpPlan_held (v := _) rfl (by rfl) ?_ ?_
             rotate_left
             · (intro w' hS; skip; have q0 := H1.out w' hS; have q1 := H2.out w' hS; clear hS; go_simp; try rfl)
             simp only [List.getElem_toArray, List.getElem_cons_zero, List.getElem_cons_succ, Act.put, List.setIfInBounds_toArray, List.set_cons_zero, List.set_cons_succ])
          | (refine' wpPlan_skip rfl (by rfl) ?_
             simp only [List.getElem_toArray, List.getElem_cons_zero, List.getElem_cons_succ, Act.put, List.setIfInBounds_toArray, List.set_cons_zero, List.set_cons_succ])
          | (refine' wpPlan_skipHeld rfl (by rfl) ?_
             simp only [List.getElem_toArray, List.getElem_cons_zero, List.getElem_cons_succ, Act.put, List.setIfInBounds_toArray, List.set_cons_zero, List.set_cons_succ]))
        refine wpPlan_end ?_
        simp only [wpSegs, List.drop_succ_cons, List.drop_zero]
        go_wp2_with fail
        go_roundw
        case rel => exact ⟨j + 1, by omega, by go_num, FW.out.trans fd, HTE.out (by trivial)⟩
        case measure => simp [intOf]; omega
      · have k1 : (x != y) = true := by simpa using hxy
        have HE := Lib.hid (show R = false by rw [← HR.out, decide_eq_false]; exact HNE.out hxy)
        go_wp2_with fail
        refine wp_draw [((fun y => Fr Non wr y), [(.free, 0), (.free, 1), (.free, 2), (.held, 3), (.free, 4), (.free, 5), (.free, 6), (.held, 7), (.free, 8)])] 9 (by kernel_rfl) (by kernel_rfl) (fun _ _ _ _ _ h => h) ⟨fd, ?_⟩
        generalize wr.drew = wd at fd ⊢
        repeat (first
          | (refine' wpPlan_free (v := _) rfl (by rfl) ?_ ?_
             rotate_left
             · (intro w'; skip; go_simp; try rfl)
             simp only [List.getElem_toArray, List.getElem_cons_zero, List.getElem_cons_succ, Act.put, List.setIfInBounds_toArray, List.set_cons_zero, List.set_cons_succ])
          | (refine' wpPlan_held (v := _) rfl (by rfl) ?_ ?_
             rotate_left
             · (intro w' hS; skip; have q0 := H1.out w' hS; have q1 := H2.out w' hS; clear hS; go_simp; try rfl)
             simp only [List.getElem_toArray, List.getElem_cons_zero, List.getElem_cons_succ, Act.put, List.setIfInBounds_toArray, List.set_cons_zero, List.set_cons_succ])
          | (refine' wpPlan_skip rfl (by rfl) ?_
             simp only [List.getElem_toArray, List.getElem_cons_zero, List.getElem_cons_succ, Act.put, List.setIfInBounds_toArray, List.set_cons_zero, List.set_cons_succ])
          | (refine' wpPlan_skipHeld rfl (by rfl) ?_
             simp only [List.getElem_toArray, List.getElem_cons_zero, List.getElem_cons_succ, Act.put, List.setIfInBounds_toArray, List.set_cons_zero, List.set_cons_succ]))
        refine wpPlan_end ?_
        simp only [wpSegs, List.drop_succ_cons, List.drop_zero]
        go_wp2_with fail
        go_ret
        exact ⟨by rw [HE.out]; rfl, FW.out.trans fd⟩
    · obtain rfl : j = n := by omega
      have HE := Lib.hid (show R = true by
        rw [← HR.out, decide_eq_true]
        have := HI.out.2
        rwa [List.take_of_length_le (by rw [HN.out.1]; exact Nat.le_refl _), List.take_of_length_le (by rw [HN.out.2]; exact Nat.le_refl _)] at this)
      have FW := Lib.hid HI.out.1
      clear HI
      go_wp2_with fail
      go_ret
      exact ⟨by rw [HE.out]; rfl, FW.out⟩
end Go.Proofs.Ytplhcfaonhkegaa

namespace Go.Proofs.Ytplhcfaonhkegaa
open Go.RowKit Go.Maps

set_option maxRecDepth 100000 in
set_option maxHeartbeats 4000000 in
theorem pick_any {w : World} {u pv : Value} {L : List MHap} {p : List Int} (hl : Sl kHap All w u L) (hp : Sl kI All w pv p) (hpl : p.length ≤ 100) (hpi : ∀ x ∈ p, 0 ≤ x ∧ x < (L.length : Int)) :
    Calls Try.prog 104 #[u, pv] w fun e w' => ∃ v, e = .returned v ∧ Sl kHap All w' v (lPickI L p) ∧ Fr Non w w' := by
  obtain ⟨ua, uc, rfl, _, hux, _⟩ := hl.frm
  obtain ⟨sa, sc, rfl, _⟩ := hp.frm
  unfold maxLen at hux
  have HL := Lib.hid hl
  have HSV := Lib.hid hp
  have HPI := Lib.hid hpi
  clear hl hp hpi
  go_enter Try.func104, Try.ntmps104
  go_wp2_with fail
  go_loopw [5, 6] (fun hv iv wx => ∃ (k : Nat), k ≤ p.length ∧ iv = .int .i64 k ∧ Hid (Build kHap 76 wx hv (lPickI L (p.take k)) ∧ Fr Non w wx ∧ ∀ b, hv.ownBlock = some b → w.heap.size ≤ b)) (fun _ iv _ => p.length - (intOf iv).toNat)
  case atStart => exact ⟨0, by omega, rfl, by simpa [lPickI] using Build.nil _ _ _, Fr.refl _ _, by simp [Value.ownBlock]⟩
  case round =>
    obtain ⟨k, hk, rfl, HI2⟩ := hrel
    have k0 : (0 : Int) ≤ (k : Int) := by omega
    obtain ⟨g1, f1, g3⟩ := HI2.out
    obtain ⟨oa, oc, rfl⟩ := g1.form
    have HG1 := Lib.hid g1
    have FX := Lib.hid f1
    have G3 := Lib.hid g3
    clear g1 f1 g3 HI2
    by_cases hlt2 : k < p.length
    · have k1 : (k : Int) < (p.length : Int) := by omega
      obtain ⟨b3, a3, e, hq3⟩ := int_at (HSV.out.stay FX.out) k hlt2
      cases e
      have q0 := hq3 _ (Fr.refl _ _)
      obtain ⟨x0, x1⟩ := HPI.out p[k] (List.getElem_mem hlt2)
      have HNX := Lib.hid (lPickI_next hlt2 x0 x1)
      obtain ⟨q, hq⟩ : ∃ q : Nat, p[k] = (q : Int) := ⟨p[k].toNat, by omega⟩
      rw [hq] at q0 x0 x1
      have hql : q < L.length := by omega
      have HNX2 := Lib.hid (show lPickI L (p.take (k + 1)) = lPickI L (p.take k) ++ [L[q]] by rw [HNX.out]; simp only [hq, Int.toNat_natCast])
      have x2 : ¬ (q : Int) < 0 := by omega
      have x3 : ¬ L.length ≤ q := by omega
      obtain ⟨b4, a4, ds, e, hr4, _, hlen4, hld4⟩ := hap_held (HL.out.there.stay FX.out) q hql
      cases e
      have LD4 := Lib.hid (hld4 _ (Fr.refl _ _))
      have ONES := Lib.hid (kHap.one hr4)
      obtain ⟨X, hX⟩ : ∃ X, L[q] = X := ⟨_, rfl⟩
      obtain ⟨Y, hY⟩ : ∃ Y, lPickI L (p.take k) = Y := ⟨_, rfl⟩
      have hYL : Y.length ≤ 100 := by rw [← hY]; have := lPickI_len L (p.take k); rw [List.length_take] at this; omega
      rw [hX] at hr4 HNX2
      rw [hY] at HNX2 HG1 G3 ⊢
      have HR4 := Lib.hid hr4
      clear hq3 hr4 hld4 HNX hq hX hY
      obtain ⟨rcs, g6, hrow⟩ := HG1.out
      have HROW := Lib.hid hrow
      have hg6 := Lib.hid g6
      clear hrow g6
      go_wp2_with (first | refine wpList_load_w 76 (.pointer (some ⟨b4, a4 + q * 23, none⟩)) _ LD4.out _ rfl rfl (by rfl) ?_ | (at_builtin; refine wpList_append_g rfl _ _ eI76 rfl _ _ _ rfl (hg6.out.keep fun b hb => ?k1) _ 1 ds rfl ?hsrc ?k2 ?k3 ?_))
      case hsrc =>
        have e := fold_set0 ds 0 [] [.int .i64 0, .int .u64 0, .int .u64 0, .slice none 0 0, .int .i64 0, .int .u64 0, .slice none 0 0, .slice none 0 0, .int .i64 0, .int .i64 0, .int .u64 0, .int .i64 0, .int .u64 0, .int .i64 0, .int .i64 0, .int .u64 0, .int .i64 0, .int .u64 0, .bool false, .int .i64 0, .int .i64 0, .bool false, .bool false] rfl (by rw [hlen4]; rfl)
        simp only [List.nil_append] at e
        rw [e]
        exact Src.block (m := 1) (alloc_at wr _) (by simp [hlen4]) ONES.out
      case k1 => exact Below.heap_alloc _ _ _ (hg6.out.lt b hb)
      case k2 => unfold maxLen; omega
      case k3 => omega
      intro v' w7 r1 r2 r3
      go_wp2_with fail
      go_roundw
      case rel =>
        refine ⟨k + 1, by omega, by go_num, ?_, ?_, ?_⟩
        · rw [HNX2.out]
          refine Build.push (w := wr) HROW.out (kHap.mono HR4.out (fun b _ hb e => by have := G3.out b e; omega)) r1 (((Fr.refl _ _).alloc _).trans2 r2 (fun b _ h => h)) ?_
          rcases r3 with r3 | ⟨r3, _⟩
          · exact .inl r3
          · exact .inr ⟨_, r3, by (try simp)⟩
        · exact (FX.out.alloc _).trans2 r2 (fun b hb hx => by have := G3.out b hx; omega)
        · intro b hb
          rcases r3 with r3 | ⟨r3, _⟩
          · exact G3.out b (r3 ▸ hb)
          · rw [r3] at hb; cases hb; have := FX.out.size; (try simp); omega
      case measure => simp [intOf]; omega
    · obtain rfl : k = p.length := by omega
      have HE := Lib.hid (show lPickI L (p.take p.length) = lPickI L p by rw [List.take_length])
      obtain ⟨Y, hY⟩ : ∃ Y, lPickI L (p.take p.length) = Y := ⟨_, rfl⟩
      rw [hY] at HG1 G3 HE ⊢
      clear hY G3
      go_wp2_with fail
      go_ret
      exact ⟨_, by rfl, by rw [← HE.out]; exact HG1.out.sl, FX.out⟩
end Go.Proofs.Ytplhcfaonhkegaa

namespace Go.Proofs.Ytplhcfaonhkegaa
open Go.RowKit

def kOf (l : List MHap) (i : Nat) : Int := match l[i]? with | none => 0 | some x => x.1.2.1
def rSame (l : List MHap) (whole : Bool) (i : Nat) (p : List Int) : Bool := whole || (match p.head? with | none => false | some h => decide (kOf l h.toNat = kOf l i))
def rStep (l : List MHap) (whole : Bool) (ps : List (List Int)) (i : Nat) : List (List Int) :=
  match ps.findIdx? (rSame l whole i) with
  | none => ps ++ [[(i : Int)]]
  | some k => ps.modify k fun p => p ++ [(i : Int)]
def rPartsUp (l : List MHap) (whole : Bool) : Nat → List (List Int)
  | 0 => []
  | j + 1 => rStep l whole (rPartsUp l whole j) j
def rParts (l : List MHap) : List (List Int) × Int := if lCheck l = 0 then (rPartsUp l (l.any fun x => decide (x.1.1 = 4)) l.length, 0) else ([], lCheck l)

theorem step_map {α : Type} {g g' : Nat → α} {f : α → α} {Q : α → Bool} {P : Nat → Bool} : ∀ {fi : List Nat}, (∀ i ∈ fi, Q (g i) = P i) → (fi.Pairwise fun a b => ¬ (P a = true ∧ P b = true)) → (∀ i ∈ fi, P i = true → g' i = f (g i)) → (∀ i ∈ fi, P i = false → g' i = g i) →
    (match (fi.map g).findIdx? Q with | none => ∀ i ∈ fi, P i = false | some k => (fi.map g).modify k f = fi.map g')
  | [], _, _, _, _ => by simp
  | i :: fi, hQ, hu, hf, hn => by
    obtain ⟨u1, u2⟩ := List.pairwise_cons.1 hu
    have ih := step_map (fi := fi) (fun j hj => hQ j (by simp [hj])) u2 (fun j hj => hf j (by simp [hj])) (fun j hj => hn j (by simp [hj]))
    rw [List.map_cons, List.findIdx?_cons, hQ i (by simp)]
    cases hp : P i with
    | true =>
      simp only [if_true]
      rw [List.modify_zero_cons, List.map_cons, hf i (by simp) hp]
      congr 1
      refine List.map_congr_left fun j hj => ?_
      have : P j = false := by
        cases h : P j with
        | false => rfl
        | true => exact absurd ⟨hp, h⟩ (u1 j hj)
      exact (hn j (by simp [hj]) this).symm
    | false =>
      simp only [Bool.false_eq_true, if_false]
      cases hx : (fi.map g).findIdx? Q with
      | none =>
        rw [hx] at ih
        simp only [Option.map_none]
        intro j hj
        rcases List.mem_cons.1 hj with rfl | hj
        · exact hp
        · exact ih j hj
      | some k =>
        rw [hx] at ih
        simp only [Option.map_some]
        rw [List.modify_succ_cons, ih, List.map_cons, hn i (by simp) hp]
/-- The first of each key. -/
def isF (l : List MHap) (i : Nat) : Bool := (List.range i).all fun k => decide (kOf l k ≠ kOf l i)
def fUp (l : List MHap) (j : Nat) : List Nat := (List.range j).filter (isF l)
def pUp (l : List MHap) (K : Int) (j : Nat) : List Int := ((List.range j).filter fun k => decide (kOf l k = K)).map fun i : Nat => (i : Int)
theorem isF_iff {l : List MHap} {i : Nat} : isF l i = true ↔ ∀ k, k < i → kOf l k ≠ kOf l i := by
  unfold isF
  rw [List.all_eq_true]
  constructor
  · intro h k hk
    simpa using h k (List.mem_range.2 hk)
  · intro h k hk
    simpa using h k (List.mem_range.1 hk)
theorem pUp_succ (l : List MHap) (K : Int) (j : Nat) : pUp l K (j + 1) = pUp l K j ++ (if kOf l j = K then [(j : Int)] else []) := by
  unfold pUp
  rw [List.range_succ, List.filter_append, List.map_append]
  congr 1
  by_cases h : kOf l j = K
  · rw [if_pos h]; simp [h]
  · rw [if_neg h]; simp [h]
theorem fUp_succ (l : List MHap) (j : Nat) : fUp l (j + 1) = fUp l j ++ (if isF l j then [j] else []) := by
  unfold fUp
  rw [List.range_succ, List.filter_append]
  congr 1
  cases h : isF l j with
  | true => simp [h]
  | false => simp [h]
/-- The head of a first one's places is it. -/
theorem pUp_head {l : List MHap} {i : Nat} (hf : isF l i = true) : ∀ j, i < j → (pUp l (kOf l i) j).head? = some (i : Int)
  | 0, h => by omega
  | j + 1, h => by
    rw [pUp_succ]
    by_cases e : i = j
    · subst e
      have : pUp l (kOf l i) i = [] := by
        unfold pUp
        rw [List.map_eq_nil_iff, List.filter_eq_nil_iff]
        intro k hk
        have := isF_iff.1 hf k (List.mem_range.1 hk)
        simpa using this
      rw [this, if_pos rfl]
      rfl
    · rw [List.head?_append, pUp_head hf j (by omega)]
      rfl
theorem rUp_not (l : List MHap) : ∀ j, rPartsUp l false j = (fUp l j).map fun i => pUp l (kOf l i) j
  | 0 => rfl
  | j + 1 => by
    rw [rPartsUp, rUp_not l j, rStep]
    have hmem : ∀ i ∈ fUp l j, i < j ∧ isF l i = true := fun i hi => by
      obtain ⟨a, b⟩ := List.mem_filter.1 hi
      exact ⟨List.mem_range.1 a, b⟩
    have hs := step_map (g := fun i => pUp l (kOf l i) j) (g' := fun i => pUp l (kOf l i) (j + 1)) (f := fun p => p ++ [(j : Int)]) (Q := rSame l false j) (P := fun i => decide (kOf l i = kOf l j)) (fi := fUp l j)
      (fun i hi => by
        obtain ⟨a, b⟩ := hmem i hi
        unfold rSame
        rw [pUp_head b j a]
        simp)
      (by
        have : (fUp l j).Pairwise (· < ·) := (List.pairwise_lt_range).filter _
        refine this.imp_of_mem ?_
        rintro a b ha hb hab ⟨h1, h2⟩
        have := isF_iff.1 (hmem b hb).2 a hab
        simp only [decide_eq_true_eq] at h1 h2
        exact this (h1.trans h2.symm))
      (fun i _ hp => by
        simp only [decide_eq_true_eq] at hp
        show pUp l (kOf l i) (j + 1) = _
        rw [pUp_succ, if_pos hp.symm])
      (fun i _ hp => by
        simp only [decide_eq_false_iff_not] at hp
        show pUp l (kOf l i) (j + 1) = _
        rw [pUp_succ, if_neg (fun e => hp e.symm), List.append_nil])
    cases hx : ((fUp l j).map fun i => pUp l (kOf l i) j).findIdx? (rSame l false j) with
    | none =>
      rw [hx] at hs
      simp only at hs ⊢
      have hF : isF l j = true := isF_iff.2 fun k hk e => by
        -- the first of that key lies ahead
        have : ∃ i, i ≤ k ∧ kOf l i = kOf l k ∧ isF l i = true := by
          have : ∀ n, n ≤ k → ((∃ i, i ≤ k ∧ kOf l i = kOf l k ∧ isF l i = true) ∨ ∀ i, i < n → kOf l i ≠ kOf l k) := fun n => by
            induction n with
            | zero => intro _; exact .inr fun i hi => by omega
            | succ n ih =>
              intro hn
              rcases ih (by omega) with h | h
              · exact .inl h
              · by_cases e : kOf l n = kOf l k
                · exact .inl ⟨n, by omega, e, isF_iff.2 fun i hi => by rw [e]; exact h i hi⟩
                · exact .inr fun i hi => by
                    by_cases e2 : i = n
                    · subst e2; exact e
                    · exact h i (by omega)
          rcases this k (Nat.le_refl _) with h | h
          · exact h
          · exact ⟨k, Nat.le_refl _, rfl, isF_iff.2 h⟩
        obtain ⟨i, hik, e2, hfi⟩ := this
        have := hs i (List.mem_filter.2 ⟨List.mem_range.2 (by omega), hfi⟩)
        simp only [decide_eq_false_iff_not] at this
        exact this (e2.trans e)
      rw [fUp_succ, if_pos hF, List.map_append]
      congr 1
      · refine List.map_congr_left fun i hi => ?_
        have := hs i hi
        simp only [decide_eq_false_iff_not] at this
        rw [pUp_succ, if_neg (fun e => this e.symm), List.append_nil]
      · rw [List.map_singleton, pUp_succ, if_pos rfl]
        have : pUp l (kOf l j) j = [] := by
          unfold pUp
          rw [List.map_eq_nil_iff, List.filter_eq_nil_iff]
          intro k hk
          have := isF_iff.1 hF k (List.mem_range.1 hk)
          simpa using this
        rw [this]
        rfl
    | some k =>
      rw [hx] at hs
      simp only at hs ⊢
      rw [hs, fUp_succ]
      have hF : isF l j = false := by
        cases h : isF l j with
        | false => rfl
        | true =>
          exfalso
          obtain ⟨h1, h2, _⟩ := List.findIdx?_eq_some_iff_getElem.1 hx
          rw [List.getElem_map] at h2
          have hi := List.getElem_mem (l := fUp l j) (n := k) (by simpa using h1)
          obtain ⟨a, b⟩ := hmem _ hi
          unfold rSame at h2
          rw [pUp_head b j a] at h2
          simp only [Bool.false_or, Int.toNat_natCast, decide_eq_true_eq] at h2
          exact isF_iff.1 h _ a h2
      rw [hF]
      simp
theorem rUp_whole (l : List MHap) : ∀ j, rPartsUp l true (j + 1) = [(List.range (j + 1)).map fun i : Nat => (i : Int)]
  | 0 => rfl
  | j + 1 => by
    rw [rPartsUp, rUp_whole l j, rStep]
    have : [(List.range (j + 1)).map fun i : Nat => (i : Int)].findIdx? (rSame l true (j + 1)) = some 0 := by
      rw [List.findIdx?_cons]
      simp [rSame]
    rw [this]
    simp only [List.modify_zero_cons]
    rw [List.range_succ (n := j + 1), List.map_append]
    rfl
theorem lPl_pUp (l : List MHap) (K : Int) : ∀ (r : List MHap) (n : Nat), r = l.drop n → lPl K n r = ((List.range' n r.length).filter fun k => decide (kOf l k = K)).map fun i : Nat => (i : Int)
  | [], n, _ => rfl
  | x :: r, n, h => by
    have hn : n < l.length := by
      by_cases h' : n < l.length
      · exact h'
      · rw [List.drop_of_length_le (by omega)] at h
        cases h
    rw [List.drop_eq_getElem_cons hn] at h
    obtain ⟨rfl, h2⟩ := List.cons.inj h
    have hk : kOf l n = l[n].1.2.1 := by unfold kOf; rw [List.getElem?_eq_getElem hn]
    rw [lPl, List.length_cons, List.range'_succ, List.filter_cons, lPl_pUp l K r (n + 1) h2, hk]
    by_cases e : l[n].1.2.1 = K
    · rw [if_pos e, if_pos (by simpa using e), List.map_cons]
    · rw [if_neg e, if_neg (by simpa using e)]
theorem isF_first {l : List MHap} {i : Nat} (hi : i < l.length) : firstAt (fun y => decide (y.1.2.1 = l[i].1.2.1)) 0 l = (i : Int) ↔ isF l i = true := by
  have hk : ∀ k (h : k < l.length), kOf l k = l[k].1.2.1 := fun k h => by unfold kOf; rw [List.getElem?_eq_getElem h]
  constructor
  · intro h
    obtain ⟨_, h2⟩ := firstAt_lt (fun y => decide (y.1.2.1 = l[i].1.2.1)) l 0 i (by rw [Nat.zero_add]; exact h)
    refine isF_iff.2 fun k hki => ?_
    have := h2 k (by omega) hki
    rw [hk k (by omega), hk i hi]
    simpa using this
  · intro h
    have := firstAt_of (fun y => decide (y.1.2.1 = l[i].1.2.1)) l 0 i hi (by simp) fun k hkl hki => by
      have := isF_iff.1 h k hki
      rw [hk k hkl, hk i hi] at this
      simpa using this
    rw [Nat.zero_add] at this
    exact this
theorem lKeysAt_fUp (l : List MHap) : ∀ (r : List MHap) (n : Nat), r = l.drop n → lKeysAt l n r = ((List.range' n r.length).filter (isF l)).map fun i => pUp l (kOf l i) l.length
  | [], n, _ => rfl
  | x :: r, n, h => by
    have hn : n < l.length := by
      by_cases h' : n < l.length
      · exact h'
      · rw [List.drop_of_length_le (by omega)] at h
        cases h
    have hd := h
    rw [List.drop_eq_getElem_cons hn] at h
    obtain ⟨rfl, h2⟩ := List.cons.inj h
    have hk : kOf l n = l[n].1.2.1 := by unfold kOf; rw [List.getElem?_eq_getElem hn]
    rw [lKeysAt, List.length_cons, List.range'_succ, List.filter_cons, lKeysAt_fUp l r (n + 1) h2]
    by_cases e : isF l n = true
    · rw [if_pos ((isF_first hn).2 e), if_pos e, List.map_cons]
      congr 1
      rw [lPl_pUp l _ (l[n] :: r) n hd, ← hk]
      unfold pUp
      congr 1
      have hl : (l[n] :: r).length = l.length - n := by rw [hd, List.length_drop]
      rw [hl]
      have e1 : List.range l.length = List.range n ++ List.range' n (l.length - n) := by
        have e0 := List.range'_append_1 (s := 0) (m := n) (n := l.length - n)
        rw [Nat.zero_add, show n + (l.length - n) = l.length by omega] at e0
        rw [List.range_eq_range', List.range_eq_range', e0]
      rw [e1, List.filter_append]
      have : (List.range n).filter (fun k => decide (kOf l k = kOf l n)) = [] := by
        rw [List.filter_eq_nil_iff]
        intro k hk'
        have := isF_iff.1 e k (List.mem_range.1 hk')
        simpa using this
      rw [this, List.nil_append]
    · rw [if_neg (fun h => e ((isF_first hn).1 h)), if_neg e]
/-- They are the same. -/
theorem rParts_eq (l : List MHap) : rParts l = lParts l := by
  unfold rParts lParts
  by_cases hc : lCheck l = 0
  · rw [if_pos hc, if_pos hc]
    cases h4 : l.any fun x => decide (x.1.1 = 4) with
    | true =>
      rw [if_pos rfl]
      cases hl : l.length with
      | zero =>
        rw [List.eq_nil_of_length_eq_zero hl] at h4
        cases h4
      | succ j =>
        rw [rUp_whole]
        unfold lAllPl
        rw [hl]
    | false =>
      rw [if_neg (by simp), rUp_not, lKeysAt_fUp l l 0 rfl]
      unfold fUp
      rw [List.range_eq_range']
  · rw [if_neg hc, if_neg hc]
end Go.Proofs.Ytplhcfaonhkegaa

namespace Go.Proofs.Ytplhcfaonhkegaa
open Go.RowKit Go.Maps

theorem rStep_in {l : List MHap} {whole : Bool} {ps : List (List Int)} {j : Nat} (h : ps.length ≤ j ∧ ∀ p ∈ ps, p ≠ [] ∧ p.length ≤ j ∧ ∀ x ∈ p, (0 : Int) ≤ x ∧ x < (j : Int)) :
    (rStep l whole ps j).length ≤ j + 1 ∧ ∀ p ∈ rStep l whole ps j, p ≠ [] ∧ p.length ≤ j + 1 ∧ ∀ x ∈ p, (0 : Int) ≤ x ∧ x < ((j + 1 : Nat) : Int) := by
  have hw : ∀ p ∈ ps, p ≠ [] ∧ p.length ≤ j + 1 ∧ ∀ x ∈ p, (0 : Int) ≤ x ∧ x < ((j + 1 : Nat) : Int) := fun p hp => by
    obtain ⟨a, b, c⟩ := h.2 p hp
    exact ⟨a, by omega, fun x hx => by have := c x hx; omega⟩
  unfold rStep
  cases ps.findIdx? (rSame l whole j) with
  | none =>
    refine ⟨by simp; omega, fun p hp => ?_⟩
    rcases List.mem_append.1 hp with hp | hp
    · exact hw p hp
    · obtain rfl : p = [(j : Int)] := by simpa using hp
      exact ⟨by simp, by simp, fun x hx => by have : x = (j : Int) := by simpa using hx
                                              omega⟩
  | some k =>
    refine ⟨by simp; omega, fun p hp => ?_⟩
    obtain ⟨m, hm, rfl⟩ := List.getElem_of_mem hp
    simp only [List.getElem_modify]
    have hm2 : m < ps.length := by simpa using hm
    obtain ⟨a, b, c⟩ := h.2 ps[m] (List.getElem_mem hm2)
    split
    · refine ⟨by simp, by simp; omega, fun x hx => ?_⟩
      rcases List.mem_append.1 hx with hx | hx
      · have := c x hx; omega
      · have : x = (j : Int) := by simpa using hx
        omega
    · exact hw _ (List.getElem_mem hm2)
theorem rUp_in (l : List MHap) (whole : Bool) : ∀ j, (rPartsUp l whole j).length ≤ j ∧ ∀ p ∈ rPartsUp l whole j, p ≠ [] ∧ p.length ≤ j ∧ ∀ x ∈ p, (0 : Int) ≤ x ∧ x < (j : Int)
  | 0 => by simp [rPartsUp]
  | j + 1 => rStep_in (rUp_in l whole j)

/-- Rows of places, each in a block of its own. -/
structure RowsAt (N0 : Nat) (W : World) (ov : Value) (parts : List (List Int)) (vs : List Value) : Prop where
  row : GRow W 73 1 ov parts.length vs
  own : ∀ b, ov.ownBlock = some b → N0 ≤ b
  each : ∀ (k : Nat) (v : Value) (p : List Int), vs[k]? = some v → parts[k]? = some p → ∃ b c, v = .slice (some ⟨b, 0, none⟩) p.length c ∧ GRow W 3 1 v p.length (ints p) ∧ N0 ≤ b ∧ ov.ownBlock ≠ some b
  apart : ∀ (k1 k2 : Nat) (v1 v2 : Value), k1 ≠ k2 → vs[k1]? = some v1 → vs[k2]? = some v2 → v1.ownBlock ≠ v2.ownBlock
theorem RowsAt.len {N0 : Nat} {W : World} {ov : Value} {parts : List (List Int)} {vs : List Value} (h : RowsAt N0 W ov parts vs) : vs.length = parts.length := by
  have := h.row.1
  omega
theorem RowsAt.fr {N0 : Nat} {W W' : World} {ov : Value} {parts : List (List Int)} {vs : List Value} (h : RowsAt N0 W ov parts vs) (f : Fr Non W W') : RowsAt N0 W' ov parts vs :=
  ⟨h.row.keep fun b hb => f.block b (h.row.lt b hb) id, h.own, fun k v p hv hp => by
    obtain ⟨b, c, e, g, h1, h2⟩ := h.each k v p hv hp
    exact ⟨b, c, e, g.keep fun b hb => f.block b (g.lt b hb) id, h1, h2⟩, h.apart⟩
theorem RowsAt.get {N0 : Nat} {W : World} {ov : Value} {parts : List (List Int)} {vs : List Value} (h : RowsAt N0 W ov parts vs) {k : Nat} (hk : k < parts.length) : ∃ b c, vs[k]? = some (.slice (some ⟨b, 0, none⟩) parts[k].length c) ∧ GRow W 3 1 (.slice (some ⟨b, 0, none⟩) parts[k].length c) parts[k].length (ints parts[k]) ∧ N0 ≤ b ∧ ov.ownBlock ≠ some b := by
  have hv : k < vs.length := by rw [h.len]; exact hk
  obtain ⟨b, c, e, g, h1, h2⟩ := h.each k vs[k] parts[k] (List.getElem?_eq_getElem hv) (List.getElem?_eq_getElem hk)
  rw [e] at g
  exact ⟨b, c, by rw [List.getElem?_eq_getElem hv, e], g, h1, h2⟩
/-- A new row. -/
theorem RowsAt.more {N0 : Nat} {W w' : World} {ov v' : Value} {parts : List (List Int)} {vs : List Value} {b1 : Nat} {x : Int} (h : RowsAt N0 W ov parts vs) (hb : W.heap[b1]? = some (.cells #[.int .i64 x] 3 (0, 0))) (hN : N0 ≤ b1)
    (hnew : ov.ownBlock ≠ some b1) (hold : ∀ (k : Nat) (v : Value), vs[k]? = some v → v.ownBlock ≠ some b1) (g : GRow w' 73 1 v' (parts.length + 1) (vs ++ [.slice (some ⟨b1, 0, none⟩) 1 1])) (f : Fr (fun b => ov.ownBlock = some b) W w')
    (hv : v'.ownBlock = ov.ownBlock ∨ ∃ n, v'.ownBlock = some n ∧ W.heap.size ≤ n) (hNW : N0 ≤ W.heap.size) : RowsAt N0 w' v' (parts ++ [[x]]) (vs ++ [.slice (some ⟨b1, 0, none⟩) 1 1]) := by
  have hlen := h.len
  have hsep : ∀ b, b < W.heap.size → ov.ownBlock ≠ some b → v'.ownBlock ≠ some b := fun b hb hn e => by
    rcases hv with hv | ⟨n, hv, hn'⟩
    · exact hn (hv ▸ e)
    · rw [hv] at e
      cases e
      omega
  have hgr1 : GRow W 3 1 (.slice (some ⟨b1, 0, none⟩) 1 1) 1 [.int .i64 x] := ⟨rfl, .inr ⟨b1, 1, _, rfl, hb, Nat.le_refl _, by unfold maxLen; omega, by simp, by simp⟩⟩
  refine ⟨by simpa using g, fun b hb' => ?_, fun k v p hkv hkp => ?_, fun k1 k2 v1 v2 hne h1 h2 => ?_⟩
  · rcases hv with hv | ⟨n, hv, hn⟩
    · exact h.own b (hv ▸ hb')
    · rw [hv] at hb'
      cases hb'
      omega
  · by_cases hk : k < parts.length
    · rw [List.getElem?_append_left (by omega)] at hkv hkp
      obtain ⟨b, c, e, g2, h1, h2⟩ := h.each k v p hkv hkp
      have hbl : b < W.heap.size := g2.lt b (by rw [e]; rfl)
      exact ⟨b, c, e, g2.keep fun b' hb' => f.block b' (g2.lt b' hb') (by rw [e] at hb'; cases hb'; exact h2), h1, hsep b hbl h2⟩
    · have hk2 : k = parts.length := by
        have := (List.getElem?_eq_some_iff.1 hkp).1
        simp at this
        omega
      subst hk2
      rw [List.getElem?_append_right (by omega)] at hkv
      rw [List.getElem?_append_right (Nat.le_refl _)] at hkp
      rw [hlen] at hkv
      simp only [Nat.sub_self, List.getElem?_cons_zero, Option.some.injEq] at hkv hkp
      subst hkv hkp
      exact ⟨b1, 1, rfl, (show GRow w' 3 1 (.slice (some ⟨b1, 0, none⟩) 1 1) 1 [.int .i64 x] from hgr1.keep fun b' hb' => f.block b' (hgr1.lt b' hb') (by cases hb'; exact hnew)), hN, hsep b1 (lt_of_block hb) hnew⟩
  · have hl1 := (List.getElem?_eq_some_iff.1 h1).1
    have hl2 := (List.getElem?_eq_some_iff.1 h2).1
    simp only [List.length_append, List.length_singleton] at hl1 hl2
    by_cases k1l : k1 < vs.length
    · rw [List.getElem?_append_left k1l] at h1
      by_cases k2l : k2 < vs.length
      · rw [List.getElem?_append_left k2l] at h2
        exact h.apart k1 k2 v1 v2 hne h1 h2
      · obtain rfl : k2 = vs.length := by omega
        rw [List.getElem?_append_right (Nat.le_refl _)] at h2
        simp only [Nat.sub_self, List.getElem?_cons_zero, Option.some.injEq] at h2
        subst h2
        exact hold k1 v1 h1
    · obtain rfl : k1 = vs.length := by omega
      rw [List.getElem?_append_right (Nat.le_refl _)] at h1
      simp only [Nat.sub_self, List.getElem?_cons_zero, Option.some.injEq] at h1
      subst h1
      have k2l : k2 < vs.length := by omega
      rw [List.getElem?_append_left k2l] at h2
      exact fun e => hold k2 v2 h2 e.symm
/-- A row grows. -/
theorem RowsAt.grow {N0 : Nat} {W w' : World} {g cap : Nat} {v2 : Value} {parts : List (List Int)} {vs : List Value} {k b c : Nat} {x : Int} (h : RowsAt N0 W (.slice (some ⟨g, 0, none⟩) parts.length cap) parts vs) (hk : k < parts.length)
    (hv : vs[k]? = some (.slice (some ⟨b, 0, none⟩) parts[k].length c)) (g2 : GRow w' 3 1 v2 (parts[k].length + 1) (ints parts[k] ++ [.int .i64 x])) (f : Fr (fun y => y = b) W w') (hne : b ≠ g)
    (hown : v2.ownBlock = some b ∨ ∃ n, v2.ownBlock = some n ∧ W.heap.size ≤ n) (hNW : N0 ≤ W.heap.size) (hNb : N0 ≤ b) :
    RowsAt N0 (w'.setCell ⟨g, k, none⟩ v2) (.slice (some ⟨g, 0, none⟩) parts.length cap) (parts.modify k fun p => p ++ [x]) (vs.set k v2) := by
  have hlen := h.len
  have hkv : k < vs.length := by omega
  have hgl : g < W.heap.size := h.row.lt g rfl
  obtain ⟨vb, vc, hv2⟩ : ∃ b c, v2 = .slice (some ⟨b, 0, none⟩) (parts[k].length + 1) c := by
    rcases g2.2 with ⟨_, h0⟩ | ⟨g', cap', cur, e, _⟩
    · omega
    · exact ⟨_, _, e⟩
  subst hv2
  have hvb : vb = b ∨ W.heap.size ≤ vb := by
    rcases hown with e | ⟨n, e, hn⟩
    · cases e; exact .inl rfl
    · cases e; exact .inr hn
  have fS : Fr (fun y => y = g) w' (w'.setCell ⟨g, k, none⟩ (.slice (some ⟨vb, 0, none⟩) (parts[k].length + 1) vc)) := (Fr.refl (fun y => y = g) w').setCell (p := ⟨g, k, none⟩) (.inl rfl) _
  have f2 : Fr (fun y => y = b ∨ y = g) W (w'.setCell ⟨g, k, none⟩ (.slice (some ⟨vb, 0, none⟩) (parts[k].length + 1) vc)) := (f.mono fun _ _ e => .inl e).trans (fS.mono fun _ _ e => .inr e)
  have hvg : vb ≠ g := by rcases hvb with e | e <;> omega
  refine ⟨?_, h.own, fun m v p hmv hmp => ?_, fun k1 k2 v1 v3 hn h1 h3 => ?_⟩
  · obtain ⟨l1, ⟨e, _⟩ | ⟨g', cap', cur, e, hg, h1, h2, h3, h4⟩⟩ := h.row
    · cases e
    · cases e
      have hg' := f.heap hg (fun e => hne e.symm)
      refine ⟨by simp [hlen], .inr ⟨g, cap, _, by simp, heap_setCell_same w' g k cur 73 _ hg', by simpa using h1, h2, by simpa using h3, ?_⟩⟩
      rw [Array.toList_setIfInBounds, List.take_set]
      simp only [List.length_modify]
      rw [h4]
  · rw [List.getElem?_set] at hmv
    rw [List.getElem?_modify] at hmp
    by_cases hmk : k = m
    · subst hmk
      rw [if_pos rfl, if_pos hkv] at hmv
      cases hmv
      rw [List.getElem?_eq_getElem hk] at hmp
      simp at hmp
      subst hmp
      refine ⟨vb, vc, by simp, ?_, by rcases hvb with e | e <;> omega, fun e => by cases e; exact hvg rfl⟩
      have := g2.keep (w' := w'.setCell ⟨g, k, none⟩ (.slice (some ⟨vb, 0, none⟩) (parts[k].length + 1) vc)) fun b' hb' => fS.block b' (g2.lt b' hb') (by cases hb'; exact hvg)
      simpa [ints] using this
    · rw [if_neg hmk] at hmv
      have hmp' : parts[m]? = some p := by simpa [hmk] using hmp
      obtain ⟨b', c', e, g3, h1, h2⟩ := h.each m v p hmv hmp'
      refine ⟨b', c', e, g3.keep fun y hy => f2.block y (g3.lt y hy) ?_, h1, h2⟩
      rw [e] at hy
      cases hy
      have h5 := h.apart m k v _ (fun e => hmk e.symm) hmv hv
      rw [e] at h5
      rintro (rfl | rfl)
      · exact h5 rfl
      · exact h2 rfl
  · rw [List.getElem?_set] at h1 h3
    have hfresh : ∀ (m : Nat) (v : Value), m ≠ k → vs[m]? = some v → v.ownBlock ≠ some vb := fun m v hm hmv e => by
      have hml : m < parts.length := by have := (List.getElem?_eq_some_iff.1 hmv).1; omega
      obtain ⟨b', c', e2, g3, _, _⟩ := h.each m v parts[m] hmv (List.getElem?_eq_getElem hml)
      rw [e2] at e
      cases e
      rcases hvb with e3 | e3
      · subst e3
        have := h.apart m k v _ hm hmv hv
        rw [e2] at this
        exact this rfl
      · have := g3.lt b' (by rw [e2]; rfl)
        have e4 : W.heap.size ≤ b' := e3
        omega
    by_cases e1 : k = k1
    · subst e1
      rw [if_pos rfl, if_pos hkv] at h1
      cases h1
      rw [if_neg hn] at h3
      exact fun e => hfresh k2 v3 (fun e => hn e.symm) h3 e.symm
    · rw [if_neg e1] at h1
      by_cases e3 : k = k2
      · subst e3
        rw [if_pos rfl, if_pos hkv] at h3
        cases h3
        exact hfresh k1 v1 (fun e => e1 e.symm) h1
      · rw [if_neg e3] at h3
        exact h.apart k1 k2 v1 v3 hn h1 h3
/-- As rows that are read. -/
theorem RowsAt.sl {N0 : Nat} {W : World} {ov : Value} {parts : List (List Int)} {vs : List Value} (h : RowsAt N0 W ov parts vs) (hw : ∀ p ∈ parts, p.length ≤ 100 ∧ ∀ x ∈ p, (Lit.int .i64 x).wf = true) : Sl kRowI All W ov parts := by
  have hlen := h.len
  rcases id h.row.2 with ⟨rfl, h0⟩ | ⟨g, cap, cur, rfl, hg, h1, h2, _⟩
  · exact .inl ⟨rfl, List.eq_nil_of_length_eq_zero h0⟩
  · refine .inr ⟨_, _, rfl, h1, h2, fun _ => ⟨rfl, trivial⟩, fun i hi => ?_⟩
    obtain ⟨b, c, hv, gr, _, _⟩ := h.get hi
    obtain ⟨hl, hx⟩ := hw parts[i] (List.getElem_mem hi)
    refine ⟨[_], ⟨_, rfl, grow_ints (S := All) gr hx (fun _ _ => trivial), by unfold reachBytes; omega⟩, fun j hj => ?_⟩
    obtain rfl : j = 0 := by simpa using hj
    have hsz : kRowI.sz = 1 := rfl
    rw [hsz]
    simp only [Nat.mul_one, Nat.add_zero, Nat.zero_add, List.getElem_cons_zero]
    exact h.row.cells rfl i _ hv
end Go.Proofs.Ytplhcfaonhkegaa

namespace Go.Proofs.Ytplhcfaonhkegaa
open Go.RowKit Go.Maps

theorem any_next {L : List MHap} {p : MHap → Bool} {j : Nat} (h : j < L.length) : (L.take (j + 1)).any p = ((L.take j).any p || p L[j]) := by
  rw [List.take_succ_eq_append_getElem h, List.any_append]
  simp
theorem kOf_at {l : List MHap} {i : Nat} (h : i < l.length) : kOf l i = l[i].1.2.1 := by
  unfold kOf
  rw [List.getElem?_eq_getElem h]
set_option maxRecDepth 100000 in
set_option maxHeartbeats 4000000 in
theorem rparts_any {w : World} {u : Value} {L : List MHap} (hl : Sl kHap All w u L) :
    Calls Try.prog 65 #[u] w fun e w' => ∃ v, e = .returned (.tuple #[v, .int .i64 (lParts L).2]) ∧ Sl kRowI All w' v (lParts L).1 ∧ Fr Non w w' := by
  rw [← rParts_eq]
  obtain ⟨ua, uc, rfl, _⟩ := hl.frm
  have HC := Lib.hid (lrcheck_any hl)
  have HL := Lib.hid hl
  clear hl
  obtain ⟨R, hR⟩ : ∃ R, rParts L = R := ⟨_, rfl⟩
  have HR := Lib.hid (show R = if lCheck L = 0 then (rPartsUp L (L.any fun x => decide (x.1.1 = 4)) L.length, 0) else ([], lCheck L) from hR.symm)
  rw [hR]
  clear hR
  go_enter Try.func65, Try.ntmps65
  go_wp2_with fail
  refine HC.out.mono ?_
  rintro e w1 ⟨rfl, f1⟩
  have F1 := Lib.hid f1
  clear f1 HC
  by_cases hc : lCheck L = 0
  rotate_left
  · have n0 : (lCheck L != 0) = true := by simpa using hc
    have HE := Lib.hid (show R = ([], lCheck L) by rw [HR.out, if_neg hc])
    obtain ⟨C, hC⟩ : ∃ C, lCheck L = C := ⟨_, rfl⟩
    rw [hC] at n0 HE ⊢
    clear hc hC HR
    go_wp2_with fail
    refine bodyPost_ret (v := .tuple #[.slice none 0 0, .int .i64 C]) (by simp [results, Try.results65, go_sem]) rfl ⟨_, by rw [HE.out], by rw [HE.out]; exact .inl ⟨rfl, rfl⟩, F1.out⟩
  have h64 := (lCheck_iff.1 hc).1
  replace HR := Lib.hid (show R = (rPartsUp L (L.any fun x => decide (x.1.1 = 4)) L.length, 0) by rw [HR.out, if_pos hc])
  rw [hc]
  clear hc
  go_wp2_with fail
  go_loopw [5, 6] (fun bv iv wr => ∃ (j : Nat) (b : Bool), j ≤ L.length ∧ iv = .int .i64 j ∧ bv = .bool b ∧ Hid (Fr Non w1 wr ∧ (L.take j).any (fun x => decide (x.1.1 = 4)) = b)) (fun _ iv _ => L.length - (intOf iv).toNat)
  case atStart => exact ⟨0, false, by omega, rfl, rfl, Fr.refl _ _, rfl⟩
  case round =>
    obtain ⟨j, whole, hj, rfl, rfl, HI⟩ := hrel
    have j0 : (0 : Int) ≤ (j : Int) := by omega
    have FR := Lib.hid HI.out.1
    by_cases hlt : j < L.length
    · have j1 : (j : Int) < (L.length : Int) := by omega
      have HN := Lib.hid (any_next (p := fun x => decide (x.1.1 = 4)) hlt)
      rw [HI.out.2] at HN
      obtain ⟨b, o, a0, n0, a1, n1, a2, n2, e, hcc, _⟩ := hap_at ((HL.out.stay F1.out).stay FR.out) j hlt
      cases e
      have c0 := hcc 0 _ (by simp only [hapCells, resCells, refCells, List.cons_append, List.nil_append]; rfl)
      simp only [Nat.add_zero] at c0
      obtain ⟨kd, hkd⟩ : ∃ k, L[j].1.1 = k := ⟨_, rfl⟩
      rw [hkd] at c0 HN
      clear hcc hkd HI
      cases whole with
      | true =>
        go_wp2_with fail
        go_roundw
        case rel => exact ⟨j + 1, true, by omega, by go_num, rfl, FR.out, by rw [HN.out]; rfl⟩
        case measure => simp [intOf]; omega
      | false =>
        have HN2 := Lib.hid (show (L.take (j + 1)).any (fun x => decide (x.1.1 = 4)) = decide (kd = 4) by rw [HN.out]; rfl)
        clear HN
        go_wp2_with fail
        go_roundw
        case rel => exact ⟨j + 1, decide (kd = 4), by omega, by go_num, rfl, FR.out, HN2.out⟩
        case measure => simp [intOf]; omega
    · obtain rfl : j = L.length := by omega
      have HW := Lib.hid (show R = (rPartsUp L whole L.length, 0) by rw [HR.out]; have := HI.out.2; rw [List.take_length] at this; rw [this])
      have F2 := Lib.hid (F1.out.trans FR.out)
      clear HR HI FR j0 hlt hj
      obtain ⟨W2, rfl⟩ : ∃ W, W = wr := ⟨_, rfl⟩
      go_wp2_with fail
      go_loopw [7, 8] (fun ov iv wr => ∃ (j : Nat) (vs : List Value), j ≤ L.length ∧ iv = .int .i64 j ∧ Hid (RowsAt W2.heap.size wr ov (rPartsUp L whole j) vs ∧ Fr Non W2 wr)) (fun _ iv _ => L.length - (intOf iv).toNat)
      case atStart => exact ⟨0, [], by omega, rfl, ⟨GRow.nil _ _ _, by simp [Value.ownBlock], by simp, by simp⟩, Fr.refl _ _⟩
      case round =>
        obtain ⟨j, vs, hj, rfl, HI⟩ := hrel
        have j0 : (0 : Int) ≤ (j : Int) := by omega
        obtain ⟨hra, hfx⟩ := HI.out
        obtain ⟨oa, oc, rfl⟩ := hra.row.form
        have HRA := Lib.hid hra
        have FX := Lib.hid hfx
        clear hra hfx HI
        by_cases hlt : j < L.length
        · have j1 : (j : Int) < (L.length : Int) := by omega
          have HST := Lib.hid (show rPartsUp L whole (j + 1) = rStep L whole (rPartsUp L whole j) j from rfl)
          have HIN := Lib.hid (rUp_in L whole j)
          obtain ⟨PS, hPS⟩ : ∃ P, rPartsUp L whole j = P := ⟨_, rfl⟩
          rw [hPS] at HRA HST HIN ⊢
          clear hPS
          have hpl : PS.length ≤ 100 := by have := HIN.out.1; omega
          obtain ⟨W3, rfl⟩ : ∃ W, W = wr := ⟨_, rfl⟩
          go_wp2_with fail
          go_loopw [9, 10] (fun av kv wr => ∃ (k : Nat), k ≤ PS.length ∧ kv = .int .i64 k ∧ av = .int .i64 (-1) ∧ Hid (Fr Non W3 wr ∧ ∀ (m : Nat) (h : m < PS.length), m < k → rSame L whole j PS[m] = false)) (fun _ kv _ => PS.length - (intOf kv).toNat)
          case atStart => exact ⟨0, by omega, rfl, rfl, Fr.refl _ _, fun m _ hm => by omega⟩
          case round =>
            obtain ⟨k, hk0, rfl, rfl, HI⟩ := hrel
            have k0 : (0 : Int) ≤ (k : Int) := by omega
            have FX2 := Lib.hid HI.out.1
            have HNO := Lib.hid HI.out.2
            clear HI
            by_cases hk : k < PS.length
            · have k1 : (k : Int) < (PS.length : Int) := by omega
              obtain ⟨b1, c1, hv, hg1, hN1, hno1⟩ := (HRA.out.fr FX2.out).get hk
              obtain ⟨g, rfl⟩ : ∃ g, oa = some ⟨g, 0, none⟩ := by
                rcases HRA.out.row.2 with ⟨_, h0⟩ | ⟨g, cap, cur, e, _⟩
                · omega
                · cases e
                  exact ⟨g, rfl⟩
              obtain ⟨cur, hgc⟩ : ∃ cur, W3.heap[g]? = some (.cells cur 73 (0, 0)) := by
                rcases HRA.out.row.2 with ⟨e, _⟩ | ⟨g', cap, cur, e, h, _⟩
                · cases e
                · cases e
                  exact ⟨cur, h⟩
              have HGC := Lib.hid hgc
              have hgN : W2.heap.size ≤ g := HRA.out.own g rfl
              have hbg : b1 ≠ g := fun e => hno1 (by rw [e]; rfl)
              have QV := Lib.hid (fun (y : World) (f : Fr Non wr y) => ((HRA.out.fr (FX2.out.trans f)).row.cells rfl k _ hv))
              obtain ⟨hpne, hpln, hpin⟩ := HIN.out.2 PS[k] (List.getElem_mem hk)
              have hp0 : 0 < PS[k].length := List.length_pos_iff.2 hpne
              have HH := Lib.hid (fun (y : World) (f : Fr Non wr y) => (hg1.keep (w' := y) fun b hb => f.block b (hg1.lt b hb) id).cells rfl 0 (.int .i64 PS[k][0]) (by simp [ints, hp0]))
              obtain ⟨h0, h1⟩ := hpin PS[k][0] (List.getElem_mem hp0)
              have GRD := Lib.hid hg1
              obtain ⟨q, hq⟩ : ∃ q : Nat, PS[k][0] = (q : Int) := ⟨PS[k][0].toNat, by omega⟩
              rw [hq] at HH h0 h1
              have hql : q < L.length := by omega
              have HSM := Lib.hid (show rSame L false j PS[k] = decide (L[q].1.2.1 = L[j].1.2.1) by
                unfold rSame
                rw [List.head?_eq_getElem?, List.getElem?_eq_getElem hp0, hq]
                simp only [Int.toNat_natCast, Bool.false_or]
                simp only [kOf_at hql, kOf_at hlt])
              obtain ⟨b3, o3, a0, n0, a1, n1, a2, n2, e, hcq, _⟩ := hap_at ((HL.out.stay F2.out).stay (FX.out.trans FX2.out)) q hql
              cases e
              obtain ⟨b3', o3', _, _, _, _, _, _, e, hcj, _⟩ := hap_at ((HL.out.stay F2.out).stay (FX.out.trans FX2.out)) j hlt
              cases e
              have KQ := Lib.hid (fun (y : World) (f : Fr Non wr y) => f.cell (hcq 1 _ (by simp only [hapCells, resCells, refCells, List.cons_append, List.nil_append]; rfl)) id)
              have KJ := Lib.hid (fun (y : World) (f : Fr Non wr y) => f.cell (hcj 1 _ (by simp only [hapCells, resCells, refCells, List.cons_append, List.nil_append]; rfl)) id)
              obtain ⟨kq, hkq⟩ : ∃ k, L[q].1.2.1 = k := ⟨_, rfl⟩
              obtain ⟨kj, hkj⟩ : ∃ k, L[j].1.2.1 = k := ⟨_, rfl⟩
              rw [hkq] at KQ HSM
              rw [hkj] at KJ HSM
              have x2 : ¬ (q : Int) < 0 := by omega
              have x3 : ¬ L.length ≤ q := by omega
              have x4 : (q : Int) < (L.length : Int) := by omega
              have fd : Fr Non wr wr.drew := (Fr.refl _ _).drew
              have hpl2 : PS[k].length ≤ 100 := by omega
              have HVV := Lib.hid hv
              clear hgc hv hg1 hpne hpin hq hcq hcj hkq hkj
              cases whole with
              | true =>
                have HT := Lib.hid (show rSame L true j PS[k] = true from rfl)
                go_wp2_with fail
                refine wp_draw [((fun y => Fr Non wr y), [(.free, 0), (.free, 1), (.free, 2), (.free, 3), (.free, 4), (.free, 5), (.held, 6), (.free, 7), (.held, 8), (.free, 9), (.free, 10), (.free, 11), (.held, 12), (.free, 13), (.free, 14), (.free, 15), (.free, 16), (.free, 17), (.held, 18), (.free, 19), (.free, 20)])] 21 (by kernel_rfl) (by kernel_rfl) (fun _ _ _ _ _ h => h) ⟨fd, ?_⟩
                generalize wr.drew = wd at fd ⊢
                repeat (first
                  | (refine' wpPlan_free (v := _) rfl (by rfl) ?_ ?_
                     rotate_left
                     · (intro w'; skip; go_simp; try rfl)
                     simp only [List.getElem_toArray, List.getElem_cons_zero, List.getElem_cons_succ, Act.put, List.setIfInBounds_toArray, List.set_cons_zero, List.set_cons_succ])
                  | (refine' wpPlan_held (v := _) rfl (by rfl) ?_ ?_
                     rotate_left
                     · (intro w' hS; skip; clear hS; go_simp; try rfl)
                     simp only [List.getElem_toArray, List.getElem_cons_zero, List.getElem_cons_succ, Act.put, List.setIfInBounds_toArray, List.set_cons_zero, List.set_cons_succ])
                  | (refine' wpPlan_skip rfl (by rfl) ?_
                     simp only [List.getElem_toArray, List.getElem_cons_zero, List.getElem_cons_succ, Act.put, List.setIfInBounds_toArray, List.set_cons_zero, List.set_cons_succ])
                  | (refine' wpPlan_skipHeld rfl (by rfl) ?_
                     simp only [List.getElem_toArray, List.getElem_cons_zero, List.getElem_cons_succ, Act.put, List.setIfInBounds_toArray, List.set_cons_zero, List.set_cons_succ]))
                refine wpPlan_end ?_
                simp only [wpSegs, List.drop_succ_cons, List.drop_zero]
                have HFI := Lib.hid (show PS.findIdx? (rSame L true j) = some k from List.findIdx?_eq_some_iff_getElem.2 ⟨hk, HT.out, fun m hm => by have := HNO.out m (by omega) hm; simpa using this⟩)
                have HST2 := Lib.hid (show rPartsUp L true (j + 1) = PS.modify k fun p => p ++ [(j : Int)] by rw [HST.out]; unfold rStep; rw [HFI.out])
                have FD := Lib.hid (FX2.out.trans fd)
                have hgd := GRD.out.keep fun b hb => fd.block b (GRD.out.lt b hb) id
                have HGD := Lib.hid hgd
                have q1 := QV.out wd fd
                have kneg : ¬ (k : Int) < 0 := by omega
                clear fd hgd
                go_wp2_with (at_builtin; refine wpList_append_g rfl _ _ eI3 rfl (.slice (some ⟨b1, 0, none⟩) PS[k].length c1) PS[k].length (ints PS[k]) rfl (HGD.out.keep fun b hb => ?k1) _ 1 [.int .i64 j] rfl (Src.block (m := 1) (alloc_at wd _) rfl (by simp [Value.oneCell'])) ?k2 ?k3 ?_)
                case k1 => exact Below.heap_alloc _ _ _ (HGD.out.lt b hb)
                case k2 => unfold maxLen; omega
                case k3 => omega
                intro v' w9 r1 r2 r3
                have f9 : Fr (fun y => y = b1) wd w9 := ((Fr.refl (fun y => y = b1) wd).alloc _).trans (r2.mono fun y _ e => by cases e; rfl)
                have h9g := f9.heap (FD.out.heap HGC.out id) (fun e => hbg e.symm)
                have q9 := f9.cell (p := ⟨g, k, none⟩) q1 (fun e => hbg e.symm)
                have z9 := (box_facts h9g).2 k
                obtain ⟨va', vc', rfl⟩ := r1.form
                have HG2 := Lib.hid ((HRA.out.fr FD.out).grow hk HVV.out r1 f9 hbg (by
                  rcases r3 with r3 | ⟨r3, _⟩
                  · exact .inl r3
                  · exact .inr ⟨_, r3, by simp⟩) (FX.out.trans FD.out).size hN1)
                have HF9 := Lib.hid (((FX.out.trans FD.out).trans2 f9 (fun y hy e => by omega)).setCell (p := ⟨g, k, none⟩) (.inr hgN) (.slice va' (PS[k].length + 1) vc'))
                clear r1 r2 r3 f9 h9g q1
                go_wp2_with fail
                go_roundw
                case rel => exact ⟨j + 1, _, by omega, by go_num, by rw [HST2.out]; exact HG2.out, HF9.out⟩
                case measure => simp [intOf]; omega
              | false =>
                by_cases hkk : kq = kj
                rotate_left
                · have HF := Lib.hid (show rSame L false j PS[k] = false by rw [HSM.out]; exact decide_eq_false hkk)
                  have kk2 : (kq == kj) = false := by simpa using hkk
                  go_wp2_with fail
                  refine wp_draw [((fun y => Fr Non wr y), [(.free, 0), (.free, 1), (.free, 2), (.free, 3), (.free, 4), (.free, 5), (.held, 6), (.free, 7), (.held, 8), (.free, 9), (.free, 10), (.free, 11), (.held, 12), (.free, 13), (.free, 14), (.free, 15), (.free, 16), (.free, 17), (.held, 18), (.free, 19), (.free, 20)])] 21 (by kernel_rfl) (by kernel_rfl) (fun _ _ _ _ _ h => h) ⟨fd, ?_⟩
                  generalize wr.drew = wd at fd ⊢
                  repeat (first
                    | (refine' wpPlan_free (v := _) rfl (by rfl) ?_ ?_
                       rotate_left
                       · (intro w'; skip; go_simp; try rfl)
                       simp only [List.getElem_toArray, List.getElem_cons_zero, List.getElem_cons_succ, Act.put, List.setIfInBounds_toArray, List.set_cons_zero, List.set_cons_succ])
                    | (refine' wpPlan_held (v := _) rfl (by rfl) ?_ ?_
                       rotate_left
                       · (intro w' hS; skip; have q0 := HH.out w' hS; have q1 := QV.out w' hS; have q2 := KQ.out w' hS; have q3 := KJ.out w' hS; clear hS; go_simp; try rfl)
                       simp only [List.getElem_toArray, List.getElem_cons_zero, List.getElem_cons_succ, Act.put, List.setIfInBounds_toArray, List.set_cons_zero, List.set_cons_succ])
                    | (refine' wpPlan_skip rfl (by rfl) ?_
                       simp only [List.getElem_toArray, List.getElem_cons_zero, List.getElem_cons_succ, Act.put, List.setIfInBounds_toArray, List.set_cons_zero, List.set_cons_succ])
                    | (refine' wpPlan_skipHeld rfl (by rfl) ?_
                       simp only [List.getElem_toArray, List.getElem_cons_zero, List.getElem_cons_succ, Act.put, List.setIfInBounds_toArray, List.set_cons_zero, List.set_cons_succ]))
                  refine wpPlan_end ?_
                  simp only [wpSegs, List.drop_succ_cons, List.drop_zero]
                  go_wp2_with fail
                  go_roundw
                  case rel => exact ⟨k + 1, by omega, by go_num, rfl, FX2.out.trans fd, fun m h hm => by
                    by_cases e : m = k
                    · subst e; exact HF.out
                    · exact HNO.out m h (by omega)⟩
                  case measure => simp [intOf]; omega
                have HT := Lib.hid (show rSame L false j PS[k] = true by rw [HSM.out]; exact decide_eq_true hkk)
                subst hkk
                go_wp2_with fail
                refine wp_draw [((fun y => Fr Non wr y), [(.free, 0), (.free, 1), (.free, 2), (.free, 3), (.free, 4), (.free, 5), (.held, 6), (.free, 7), (.held, 8), (.free, 9), (.free, 10), (.free, 11), (.held, 12), (.free, 13), (.free, 14), (.free, 15), (.free, 16), (.free, 17), (.held, 18), (.free, 19), (.free, 20)])] 21 (by kernel_rfl) (by kernel_rfl) (fun _ _ _ _ _ h => h) ⟨fd, ?_⟩
                generalize wr.drew = wd at fd ⊢
                repeat (first
                  | (refine' wpPlan_free (v := _) rfl (by rfl) ?_ ?_
                     rotate_left
                     · (intro w'; skip; go_simp; try rfl)
                     simp only [List.getElem_toArray, List.getElem_cons_zero, List.getElem_cons_succ, Act.put, List.setIfInBounds_toArray, List.set_cons_zero, List.set_cons_succ])
                  | (refine' wpPlan_held (v := _) rfl (by rfl) ?_ ?_
                     rotate_left
                     · (intro w' hS; skip; have q0 := HH.out w' hS; have q1 := QV.out w' hS; have q2 := KQ.out w' hS; have q3 := KJ.out w' hS; clear hS; go_simp; try rfl)
                     simp only [List.getElem_toArray, List.getElem_cons_zero, List.getElem_cons_succ, Act.put, List.setIfInBounds_toArray, List.set_cons_zero, List.set_cons_succ])
                  | (refine' wpPlan_skip rfl (by rfl) ?_
                     simp only [List.getElem_toArray, List.getElem_cons_zero, List.getElem_cons_succ, Act.put, List.setIfInBounds_toArray, List.set_cons_zero, List.set_cons_succ])
                  | (refine' wpPlan_skipHeld rfl (by rfl) ?_
                     simp only [List.getElem_toArray, List.getElem_cons_zero, List.getElem_cons_succ, Act.put, List.setIfInBounds_toArray, List.set_cons_zero, List.set_cons_succ]))
                refine wpPlan_end ?_
                simp only [wpSegs, List.drop_succ_cons, List.drop_zero]
                have HFI := Lib.hid (show PS.findIdx? (rSame L false j) = some k from List.findIdx?_eq_some_iff_getElem.2 ⟨hk, HT.out, fun m hm => by have := HNO.out m (by omega) hm; simpa using this⟩)
                have HST2 := Lib.hid (show rPartsUp L false (j + 1) = PS.modify k fun p => p ++ [(j : Int)] by rw [HST.out]; unfold rStep; rw [HFI.out])
                have FD := Lib.hid (FX2.out.trans fd)
                have hgd := GRD.out.keep fun b hb => fd.block b (GRD.out.lt b hb) id
                have HGD := Lib.hid hgd
                have q1 := QV.out wd fd
                have kneg : ¬ (k : Int) < 0 := by omega
                clear fd hgd
                go_wp2_with (at_builtin; refine wpList_append_g rfl _ _ eI3 rfl (.slice (some ⟨b1, 0, none⟩) PS[k].length c1) PS[k].length (ints PS[k]) rfl (HGD.out.keep fun b hb => ?k1) _ 1 [.int .i64 j] rfl (Src.block (m := 1) (alloc_at wd _) rfl (by simp [Value.oneCell'])) ?k2 ?k3 ?_)
                case k1 => exact Below.heap_alloc _ _ _ (HGD.out.lt b hb)
                case k2 => unfold maxLen; omega
                case k3 => omega
                intro v' w9 r1 r2 r3
                have f9 : Fr (fun y => y = b1) wd w9 := ((Fr.refl (fun y => y = b1) wd).alloc _).trans (r2.mono fun y _ e => by cases e; rfl)
                have h9g := f9.heap (FD.out.heap HGC.out id) (fun e => hbg e.symm)
                have q9 := f9.cell (p := ⟨g, k, none⟩) q1 (fun e => hbg e.symm)
                have z9 := (box_facts h9g).2 k
                obtain ⟨va', vc', rfl⟩ := r1.form
                have HG2 := Lib.hid ((HRA.out.fr FD.out).grow hk HVV.out r1 f9 hbg (by
                  rcases r3 with r3 | ⟨r3, _⟩
                  · exact .inl r3
                  · exact .inr ⟨_, r3, by simp⟩) (FX.out.trans FD.out).size hN1)
                have HF9 := Lib.hid (((FX.out.trans FD.out).trans2 f9 (fun y hy e => by omega)).setCell (p := ⟨g, k, none⟩) (.inr hgN) (.slice va' (PS[k].length + 1) vc'))
                clear r1 r2 r3 f9 h9g q1
                go_wp2_with fail
                go_roundw
                case rel => exact ⟨j + 1, _, by omega, by go_num, by rw [HST2.out]; exact HG2.out, HF9.out⟩
                case measure => simp [intOf]; omega
            · obtain rfl : k = PS.length := by omega
              have HFI := Lib.hid (show PS.findIdx? (rSame L whole j) = none from List.findIdx?_eq_none_iff.2 fun p hp => by
                obtain ⟨m, hm, rfl⟩ := List.getElem_of_mem hp
                exact HNO.out m hm hm)
              have HST2 := Lib.hid (show rPartsUp L whole (j + 1) = PS ++ [[(j : Int)]] by rw [HST.out]; unfold rStep; rw [HFI.out])
              have nneg : (-1 : Int) < 0 := by omega
              have hwr := FX2.out
              go_wp2_with (at_builtin; refine wpList_append_g rfl _ _ eI104 rfl (.slice oa PS.length oc) PS.length vs rfl ?k0 _ 1 [.slice (some ⟨wr.heap.size, 0, none⟩) 1 1] rfl (Src.block (m := 1) (alloc_at2' wr (.cells #[.int .i64 j] 3) _) rfl (by simp [Value.oneCell'])) ?k2 ?k3 ?_)
              case k0 => exact HRA.out.row.keep fun b hb => (((FX2.out.alloc _).alloc _).block b (HRA.out.row.lt b hb) id)
              case k2 => unfold maxLen; omega
              case k3 => omega
              intro v' w9 r1 r2 r3
              have RW := (HRA.out.fr FX2.out).fr ((Fr.refl Non wr).alloc (.cells #[.int .i64 j] 3))
              have hb1 := alloc_at wr (.cells #[.int .i64 j] 3)
              have hNW : W2.heap.size ≤ wr.heap.size := (FX.out.trans FX2.out).size
              have hold : ∀ (k : Nat) (v : Value), vs[k]? = some v → v.ownBlock ≠ some wr.heap.size := fun k v hv e => by
                have hk : k < PS.length := by have := (List.getElem?_eq_some_iff.1 hv).1; have := HRA.out.len; omega
                obtain ⟨b', c', e2, g3, _, _⟩ := (HRA.out.fr FX2.out).each k v PS[k] hv (List.getElem?_eq_getElem hk)
                have := g3.lt _ e
                omega
              have hnew : (Value.slice oa PS.length oc).ownBlock ≠ some wr.heap.size := fun e => by
                have := (HRA.out.fr FX2.out).row.lt _ e
                omega
              have f9 : Fr (fun y => (Value.slice oa PS.length oc).ownBlock = some y) (wr.alloc (.cells #[.int .i64 j] 3)) w9 := ((Fr.refl _ _).alloc _).trans r2
              have HG2 := Lib.hid (RW.more hb1 hNW hnew hold r1 f9 (by
                rcases r3 with r3 | ⟨r3, _⟩
                · exact .inl r3
                · exact .inr ⟨_, r3, by simp⟩) (by simp; omega))
              have HF9 := Lib.hid (((FX.out.trans FX2.out).alloc (.cells #[.int .i64 j] 3)).trans2 f9 (fun y hy e => by have := HRA.out.own y e; omega))
              clear r1 r2 r3 f9 RW hb1 hold hnew
              go_wp2_with fail
              go_roundw
              case rel => exact ⟨j + 1, _, by omega, by go_num, by rw [HST2.out]; exact HG2.out, HF9.out⟩
              case measure => simp [intOf]; omega
        · obtain rfl : j = L.length := by omega
          have hin := (rUp_in L whole L.length).2
          have hsl := HRA.out.sl fun p hp => ⟨by have := (hin p hp).2.1; omega, fun x hx => by
            obtain ⟨a, b⟩ := (hin p hp).2.2 x hx
            obtain ⟨n, rfl⟩ : ∃ n : Nat, x = (n : Int) := ⟨x.toNat, by omega⟩
            exact wf_small (by omega)⟩
          have HSL := Lib.hid hsl
          obtain ⟨Y, hY⟩ : ∃ Y, rPartsUp L whole L.length = Y := ⟨_, rfl⟩
          rw [hY] at HSL HW ⊢
          clear hsl hin HRA hY
          go_wp2_with fail
          refine bodyPost_ret (v := .tuple #[.slice oa Y.length oc, .int .i64 0]) (by simp [results, Try.results65, go_sem]) rfl ⟨_, by rw [HW.out], by rw [HW.out]; exact HSL.out, F2.out.trans FX.out⟩
end Go.Proofs.Ytplhcfaonhkegaa

namespace Go.Proofs.Ytplhcfaonhkegaa
open Go.RowKit Go.Maps

theorem boolsS_at {S : Nat → Prop} {w : World} {b n cap : Nat} {bs : List Bool} {cur : Array Value} (h : w.heap[b]? = some (.cells cur 4 (0, 0))) (ht : cur.toList.take n = bs.map Value.bool) (hl : bs.length = n) (hc : n ≤ cap) (hm : cap ≤ maxLen) (hS : S b) : Sl kBool S w (.slice (some ⟨b, 0, none⟩) n cap) bs := by
  rcases bools_at h ht hl hc hm with ⟨e, _⟩ | ⟨a, c, e, h1, h2, h3, h4⟩
  · cases e
  · cases e
    exact .inr ⟨_, _, rfl, h1, h2, fun _ => ⟨rfl, hS⟩, fun i hi => by
      obtain ⟨cs, hr, hcs⟩ := h4 i hi
      exact ⟨cs, hr, hcs⟩⟩
/-- What is told of one that is done, with its blocks. -/
def DoneS (S : Nat → Prop) (z L d i : Nat) (m : List MItem) (x : MHap) (e : Ending) (w' : World) : Prop := match lAfter m x with
  | none => e = .returned (.tuple #[.agg #[.slice none 0 0, .slice none 0 0], .bool false])
  | some n => ∃ dv lv, e = .returned (.tuple #[.agg #[dv, lv], .bool true]) ∧ Sl kBool (fun b => z ≤ b) w' dv (lBits (d ||| 2 ^ i) L) ∧ Sl kItem (fun b => S b ∨ z ≤ b) w' lv n
/-- Behind the first part. -/
def CutS (S : Nat → Prop) (W : World) (z : Nat) (d : List MItem × (MRes × Int)) (m p e : Value) (wx : World) : Prop := ∃ P xv yu yv, m = xv ∧ p = .pointer (some ⟨P, 0, none⟩) ∧ e = .int .i64 d.2.2 ∧
  wx.heap[P]? = some (.cells (resCells d.2.1 yu yv).toArray 52 (0, 0)) ∧ Sl kItem (fun b => (S b ∧ b < z) ∨ W.heap.size ≤ b) wx xv d.1 ∧ Sl kByte All wx yu d.2.1.2.2.1 ∧ Sl kItem All wx yv d.2.1.2.2.2.1 ∧ Fr Non W wx
set_option maxRecDepth 100000 in
set_option maxHeartbeats 4000000 in
theorem rdo24S_any {S : Nat → Prop} {w : World} {u dv lv : Value} {l : List MHap} {m : List MItem} (hl : Sl kHap S w u l) (hL : l.length ≤ 100) (d : Nat) (hdv : Sl kBool All w dv (lBits d l.length)) (hlv : Sl kItem S w lv m) (hml : m.length ≤ 80000) (i : Nat) (hi : i < l.length) :
    Calls Try.prog 95 #[u, .agg #[dv, lv], .int .i64 i] w fun e w' => DoneS S w.heap.size l.length d i m l[i] e w' ∧ Fr Non w w' := by
  obtain ⟨va, vc, rfl, _, hx, _⟩ := hl.frm
  obtain ⟨da, dc, rfl, _, hdx, _⟩ := hdv.frm
  obtain ⟨ma, mc, rfl, _, hmx, _⟩ := hlv.frm
  unfold maxLen at hx hdx hmx
  rw [lBits_len] at hdv ⊢
  obtain ⟨gb, go, cs, a0, n0, a1, n1, a2, n2, rfl, hV, hk, h0, h1, h2, hld⟩ := hap_parts hl i hi
  have i0 : (0 : Int) ≤ (i : Int) := by omega
  have i2 : (i : Int) < (l.length : Int) := by omega
  obtain ⟨W, hW⟩ : ∃ W, ((w.alloc (.cells #[.slice da l.length dc, .slice ma m.length mc] 143)).alloc (.cells #[.slice none 0 0, .slice none 0 0] 143)) = W := ⟨_, rfl⟩
  have f0 : Fr Non w W := by rw [← hW]; exact ((Fr.refl _ _).alloc _).alloc _
  have b1 : W.heap[w.heap.size]? = some (.cells #[.slice da l.length dc, .slice ma m.length mc] 143 (0, 0)) := by rw [← hW]; exact alloc_at2 w _ _
  have b2 : W.heap[w.heap.size + 1]? = some (.cells #[.slice none 0 0, .slice none 0 0] 143 (0, 0)) := by rw [← hW]; exact alloc_at2' w _ _
  have HLD := Lib.hid (fun (y : World) (f : Fr Non W y) => hld y (f0.trans f))
  have HV := Lib.hid ((hV.mono fun _ _ _ => trivial : HapV All w _ _).stay f0)
  have HSA := Lib.hid (And.intro ((h1.mono fun _ _ _ => trivial : Sl kByte All w _ _).stay f0) ((h2.mono fun _ _ _ => trivial : Sl kItem All w _ _).stay f0))
  have HDV := Lib.hid (hdv.stay f0)
  have HDO := Lib.hid (fun (y : World) (f : Fr Non W y) => rdo_any ((hlv.mono (fun b hb hs => And.intro hs hb) : Sl kItem (fun b => S b ∧ b < w.heap.size) w _ _).stay (f0.trans f)) hml l[i].1.1 l[i].1.2.1 l[i].1.2.2.1 ((h0.mono (fun b hb hs => And.intro hs hb) : Sl kByte (fun b => S b ∧ b < w.heap.size) w _ _).stay (f0.trans f)) hk)
  have F0 := Lib.hid f0
  have B1 := Lib.hid b1
  have B2 := Lib.hid b2
  obtain ⟨x, hxx⟩ : ∃ x, l[i] = x := ⟨_, rfl⟩
  rw [hxx] at HLD HV HSA HDO ⊢
  have HA := Lib.hid (show lAfter m x = if (mDo m x.1).2.2 = 0 ∧ (hSure x = true → (mDo m x.1).2.1 = x.2.1) then some (mDo m x.1).1 else none from rfl)
  obtain ⟨D1, hD1⟩ : ∃ D, w.heap.size = D := ⟨_, rfl⟩
  rw [hD1] at B1 B2 HDO
  replace HDO := Lib.hid (show ∀ (y : World), Fr Non W y → Calls Try.prog 39 #[.slice ma m.length mc, .agg #[.int .i64 x.1.1, .int .u64 x.1.2.1, .int .u64 x.1.2.2.1, .slice a0 x.1.2.2.2.length n0]] y fun e w' =>
      ∃ xv yv, e = .returned (.tuple #[xv, yv, .int .i64 (mDo m x.1).2.2]) ∧ Sl kItem (fun b => (S b ∧ b < D1) ∨ y.heap.size ≤ b) w' xv (mDo m x.1).1 ∧ ResS (fun b => (S b ∧ b < D1) ∨ y.heap.size ≤ b) w' yv (mDo m x.1).2.1 ∧ Fr Non y w' from fun y f => HDO.out y f)
  obtain ⟨D, hD⟩ : ∃ D, mDo m x.1 = D := ⟨_, rfl⟩
  rw [hD] at HDO HA
  have HD1 := Lib.hid hD1
  clear hxx hD hl hdv hlv hV h0 h1 h2 hld f0 b1 b2 hk hdx hmx
  go_enter Try.func95, Try.ntmps95
  go_wp2_with fail
  clear hW hD1
  go_upto_region 1 with (fail)
  go_cut [8, 9, 10] (fun m p e wx => Hid (CutS S W D1 D m p e wx))
  case first =>
    go_wp2_with fail
    have fd : Fr Non W W.drew := (Fr.refl _ _).drew
    have q2 := fun (y : World) (f : Fr Non W y) => (box_facts (f.heap B1.out id)).1
    refine wp_drawT ((fun y => Fr Non W y)) (fun i => ([.free, .held, .free, .free, .free, .free, .held, .kept, .free, .free, .free, .free, .kept, .free, .last, .last] : List Way).getD i .last) (.soft .free 0 (.soft .held 1 (.soft .free 2 (.soft .free 3 (.soft .free 4 (.soft .free 5 (.soft .held 6 (.two 7 (.soft .free 8 (.soft .free 9 (.soft .free 10 (.soft .free 11 (.one 12 (.soft .free 13 .leaf)))))) 12 (.one 7 (.soft .free 8 (.soft .free 9 (.soft .free 10 (.soft .free 11 (.soft .free 13 .leaf)))))))))))))) 14 (by kernel_rfl) (by kernel_rfl) (fun _ _ _ _ _ h => h) ⟨fd, ?_⟩
    generalize W.drew = wd at fd ⊢
    repeat (first
      | (refine' wpTree_free (x := _) rfl (by rfl) ?_ ?_
         rotate_left
         · (intro w'; skip; go_simp; try rfl)
         simp only [List.getElem_toArray, List.getElem_cons_zero, List.getElem_cons_succ, Act.put, List.setIfInBounds_toArray, List.set_cons_zero, List.set_cons_succ])
      | (refine' wpTree_held (x := _) rfl (by rfl) (fun w' hS => held_of (HLD.out w' hS).2.1) ?_
         simp only [List.getElem_toArray, List.getElem_cons_zero, List.getElem_cons_succ, Act.put, List.setIfInBounds_toArray, List.set_cons_zero, List.set_cons_succ])
      | (refine' wpTree_held (x := _) rfl (by rfl) ?_ ?_
         rotate_left
         · (intro w' hS; skip; have q1 := q2 w' hS; clear hS; go_simp; try rfl)
         simp only [List.getElem_toArray, List.getElem_cons_zero, List.getElem_cons_succ, Act.put, List.setIfInBounds_toArray, List.set_cons_zero, List.set_cons_succ])
      | (refine' wpTree_skip rfl (by rfl) ?_
         simp only [List.getElem_toArray, List.getElem_cons_zero, List.getElem_cons_succ, Act.put, List.setIfInBounds_toArray, List.set_cons_zero, List.set_cons_succ])
      | (refine' wpTree_skipHeld rfl (by rfl) ?_
         simp only [List.getElem_toArray, List.getElem_cons_zero, List.getElem_cons_succ, Act.put, List.setIfInBounds_toArray, List.set_cons_zero, List.set_cons_succ]))
    refine wpTree_two ?_ ?_
    · skip
      refine' wpTree_one rfl ?_
      intro K hK
      go_simp
      refine (HDO.out _ fd).mono ?_
      rintro e w8 ⟨xv, yv, rfl, hx8, hy8, f8⟩
      obtain ⟨yu, yw, rfl, hyu, hyv, _, _, _⟩ := hy8
      obtain ⟨ys, hys⟩ : ∃ ys, resCells D.2.1 yu yw = ys := ⟨_, rfl⟩
      have hyl : ys.length = 15 := by rw [← hys]; rfl
      have hone : ∀ z ∈ ys, z.oneCell' = true := by
        obtain ⟨p1, p2, rfl, _⟩ := hyu.frm
        obtain ⟨p3, p4, rfl, _⟩ := hyv.frm
        rw [← hys]
        intro z hz
        simp only [resCells, refCells, List.cons_append, List.nil_append, List.mem_cons, List.not_mem_nil, or_false] at hz
        rcases hz with rfl | rfl | rfl | rfl | rfl | rfl | rfl | rfl | rfl | rfl | rfl | rfl | rfl | rfl | rfl <;> rfl
      have HX := Lib.hid hx8
      have HY := Lib.hid (And.intro hyu hyv)
      have HYS := Lib.hid hys
      have HYL := Lib.hid hyl
      have HONE := Lib.hid hone
      rw [hys]
      clear hx8 hyu hyv hys hyl hone
      go_simp
      refine hK _ _ ⟨fd.trans f8, ?_⟩
      clear hK K
      repeat (first
        | (refine' wpTree_free (x := _) rfl (by rfl) ?_ ?_
           rotate_left
           · (intro w'; go_simp; try rfl)
           simp only [List.getElem_toArray, List.getElem_cons_zero, List.getElem_cons_succ, Act.put, List.setIfInBounds_toArray, List.set_cons_zero, List.set_cons_succ])
        | (refine' wpTree_held (x := _) rfl (by rfl) ?_ ?_
           rotate_left
           · (intro w' hS; clear hS; go_simp; try rfl)
           simp only [List.getElem_toArray, List.getElem_cons_zero, List.getElem_cons_succ, Act.put, List.setIfInBounds_toArray, List.set_cons_zero, List.set_cons_succ])
        | (refine' wpTree_skip rfl (by rfl) ?_
           simp only [List.getElem_toArray, List.getElem_cons_zero, List.getElem_cons_succ, Act.put, List.setIfInBounds_toArray, List.set_cons_zero, List.set_cons_succ])
        | (refine' wpTree_skipHeld rfl (by rfl) ?_
           simp only [List.getElem_toArray, List.getElem_cons_zero, List.getElem_cons_succ, Act.put, List.setIfInBounds_toArray, List.set_cons_zero, List.set_cons_succ]))
      refine' wpTree_one rfl ?_
      intro K hK
      go_simp
      refine hK _ _ ⟨(fd.trans f8).alloc _, ?_⟩
      clear hK K
      repeat (first
        | (refine' wpTree_free (x := _) rfl (by rfl) ?_ ?_
           rotate_left
           · (intro w'; go_simp; try rfl)
           simp only [List.getElem_toArray, List.getElem_cons_zero, List.getElem_cons_succ, Act.put, List.setIfInBounds_toArray, List.set_cons_zero, List.set_cons_succ])
        | (refine' wpTree_held (x := _) rfl (by rfl) ?_ ?_
           rotate_left
           · (intro w' hS; clear hS; go_simp; try rfl)
           simp only [List.getElem_toArray, List.getElem_cons_zero, List.getElem_cons_succ, Act.put, List.setIfInBounds_toArray, List.set_cons_zero, List.set_cons_succ])
        | (refine' wpTree_skip rfl (by rfl) ?_
           simp only [List.getElem_toArray, List.getElem_cons_zero, List.getElem_cons_succ, Act.put, List.setIfInBounds_toArray, List.set_cons_zero, List.set_cons_succ])
        | (refine' wpTree_skipHeld rfl (by rfl) ?_
           simp only [List.getElem_toArray, List.getElem_cons_zero, List.getElem_cons_succ, Act.put, List.setIfInBounds_toArray, List.set_cons_zero, List.set_cons_succ]))
      refine wpTree_leaf ?_
      simp only [List.drop_succ_cons, List.drop_zero]
      have F8 := Lib.hid (fd.trans f8)
      have HWD := Lib.hid fd.size
      clear fd f8 HDO
      go_wp2_with (refine wpList_store_block rfl 52 _ _ rfl w8.heap.size 0 rfl (.agg ys.toArray) rfl _ 52 (alloc_at w8 _) ?hfit ?hinf ?hone ?_)
      case hinf => rw [show (Value.agg ys.toArray).cells.size = 15 by simp [Value.cells, HYL.out]]; kernel_rfl
      case hfit => simp [Value.cells, HYL.out]
      case hone => intro u hu; exact HONE.out u (by simpa [Value.cells] using hu)
      intro w9 hbx f9
      rw [putAt_whole _ _ (by simp [HYL.out])] at hbx
      have f10 : Fr Non w8 w9 := ((Fr.refl Non w8).alloc _).trans2 f9 (fun b hb he => by omega)
      clear f9
      go_wp2_with fail
      go_meet
      exact Lib.hid ⟨w8.heap.size, xv, yu, yw, rfl, rfl, rfl, by rw [HYS.out]; simpa [Value.cells] using hbx, (HX.out.stay f10).mono fun b _ hb => hb.imp id fun h => by have := HWD.out; omega, (HY.out.1.stay f10).mono fun _ _ _ => trivial, (HY.out.2.stay f10).mono fun _ _ _ => trivial, F8.out.trans f10⟩
    · skip
      refine' wpTree_one rfl ?_
      intro K hK
      go_simp
      refine hK _ _ ⟨fd.alloc _, ?_⟩
      clear hK K
      repeat (first
        | (refine' wpTree_free (x := _) rfl (by rfl) ?_ ?_
           rotate_left
           · (intro w'; go_simp; try rfl)
           simp only [List.getElem_toArray, List.getElem_cons_zero, List.getElem_cons_succ, Act.put, List.setIfInBounds_toArray, List.set_cons_zero, List.set_cons_succ])
        | (refine' wpTree_held (x := _) rfl (by rfl) ?_ ?_
           rotate_left
           · (intro w' hS; clear hS; go_simp; try rfl)
           simp only [List.getElem_toArray, List.getElem_cons_zero, List.getElem_cons_succ, Act.put, List.setIfInBounds_toArray, List.set_cons_zero, List.set_cons_succ])
        | (refine' wpTree_skip rfl (by rfl) ?_
           simp only [List.getElem_toArray, List.getElem_cons_zero, List.getElem_cons_succ, Act.put, List.setIfInBounds_toArray, List.set_cons_zero, List.set_cons_succ])
        | (refine' wpTree_skipHeld rfl (by rfl) ?_
           simp only [List.getElem_toArray, List.getElem_cons_zero, List.getElem_cons_succ, Act.put, List.setIfInBounds_toArray, List.set_cons_zero, List.set_cons_succ]))
      refine' wpTree_one rfl ?_
      intro K hK
      go_simp
      refine (HDO.out _ (fd.alloc _)).mono ?_
      rintro e w8 ⟨xv, yv, rfl, hx8, hy8, f8⟩
      obtain ⟨yu, yw, rfl, hyu, hyv, _, _, _⟩ := hy8
      obtain ⟨ys, hys⟩ : ∃ ys, resCells D.2.1 yu yw = ys := ⟨_, rfl⟩
      have hyl : ys.length = 15 := by rw [← hys]; rfl
      have hone : ∀ z ∈ ys, z.oneCell' = true := by
        obtain ⟨p1, p2, rfl, _⟩ := hyu.frm
        obtain ⟨p3, p4, rfl, _⟩ := hyv.frm
        rw [← hys]
        intro z hz
        simp only [resCells, refCells, List.cons_append, List.nil_append, List.mem_cons, List.not_mem_nil, or_false] at hz
        rcases hz with rfl | rfl | rfl | rfl | rfl | rfl | rfl | rfl | rfl | rfl | rfl | rfl | rfl | rfl | rfl <;> rfl
      have HX := Lib.hid hx8
      have HY := Lib.hid (And.intro hyu hyv)
      have HYS := Lib.hid hys
      have HYL := Lib.hid hyl
      have HONE := Lib.hid hone
      rw [hys]
      clear hx8 hyu hyv hys hyl hone
      go_simp
      refine hK _ _ ⟨(fd.alloc _).trans f8, ?_⟩
      clear hK K
      repeat (first
        | (refine' wpTree_free (x := _) rfl (by rfl) ?_ ?_
           rotate_left
           · (intro w'; go_simp; try rfl)
           simp only [List.getElem_toArray, List.getElem_cons_zero, List.getElem_cons_succ, Act.put, List.setIfInBounds_toArray, List.set_cons_zero, List.set_cons_succ])
        | (refine' wpTree_held (x := _) rfl (by rfl) ?_ ?_
           rotate_left
           · (intro w' hS; clear hS; go_simp; try rfl)
           simp only [List.getElem_toArray, List.getElem_cons_zero, List.getElem_cons_succ, Act.put, List.setIfInBounds_toArray, List.set_cons_zero, List.set_cons_succ])
        | (refine' wpTree_skip rfl (by rfl) ?_
           simp only [List.getElem_toArray, List.getElem_cons_zero, List.getElem_cons_succ, Act.put, List.setIfInBounds_toArray, List.set_cons_zero, List.set_cons_succ])
        | (refine' wpTree_skipHeld rfl (by rfl) ?_
           simp only [List.getElem_toArray, List.getElem_cons_zero, List.getElem_cons_succ, Act.put, List.setIfInBounds_toArray, List.set_cons_zero, List.set_cons_succ]))
      refine wpTree_leaf ?_
      simp only [List.drop_succ_cons, List.drop_zero]
      have F8 := Lib.hid ((fd.alloc _).trans f8)
      have BZ := Lib.hid (f8.heap (alloc_at wd _) id)
      have HSZ := Lib.hid fd.size
      clear fd f8 HDO
      go_wp2_with (refine wpList_store_block rfl 52 _ _ rfl wd.heap.size 0 rfl (.agg ys.toArray) rfl _ 52 BZ.out ?hfit ?hinf ?hone ?_)
      case hinf => rw [show (Value.agg ys.toArray).cells.size = 15 by simp [Value.cells, HYL.out]]; kernel_rfl
      case hfit => simp [Value.cells, HYL.out]
      case hone => intro u hu; exact HONE.out u (by simpa [Value.cells] using hu)
      intro w9 hbx f9
      rw [putAt_whole _ _ (by simp [HYL.out])] at hbx
      have hsz := HSZ.out
      have hap : ∀ b, b < w8.heap.size → ((S b ∧ b < D1) ∨ (wd.alloc (.cells #[.int .i64 0, .int .u64 0, .slice none 0 0, .slice none 0 0, .int .i64 0, .int .i64 0, .int .u64 0, .int .i64 0, .int .u64 0, .int .i64 0, .int .i64 0, .int .u64 0, .int .i64 0, .int .u64 0, .bool false] 52)).heap.size ≤ b) → ¬ b = wd.heap.size := fun b _ hb => by
        simp only [World.size_alloc] at hb
        have := lt_of_block B2.out
        omega
      have HX9 := Lib.hid (HX.out.frame f9 hap)
      have HY9 := Lib.hid (And.intro (HY.out.1.frame f9 hap) (HY.out.2.frame f9 hap))
      have F9 := Lib.hid (F8.out.trans2 f9 (fun b hb he => by omega))
      clear hap f9 hsz
      go_wp2_with fail
      go_meet
      exact Lib.hid ⟨wd.heap.size, xv, yu, yw, rfl, rfl, rfl, by rw [HYS.out]; simpa [Value.cells] using hbx, HX9.out.mono fun b _ hb => hb.imp id fun h => by have := HSZ.out; simp only [World.size_alloc] at h; omega, HY9.out.1.mono fun _ _ _ => trivial, HY9.out.2.mono fun _ _ _ => trivial, F9.out⟩
  case rest =>
    obtain ⟨P, xv, yu, yw, rfl, rfl, rfl, hb, hxv, hyu, hyv, hF⟩ := hcut.out
    obtain ⟨xa, xc, rfl, _⟩ := hxv.frm
    have HXV := Lib.hid hxv
    have HYU := Lib.hid (And.intro hyu hyv)
    have FX := Lib.hid hF
    have HPB := Lib.hid hb
    clear hcut hb hxv hyu hyv hF HDO
    obtain ⟨dn, dr, de⟩ := D
    simp only at HXV HYU HPB HA ⊢
    have fd : Fr Non wc wc.drew := (Fr.refl _ _).drew
    by_cases h0 : de = 0
    rotate_left
    · have g0 : (de != 0) = true := by simpa using h0
      have HN := Lib.hid (show lAfter m x = none by rw [HA.out, if_neg (fun h => h0 h.1)])
      go_wp2_with fail
      refine wp_draw [((fun y => Fr Non wc y), [(.free, 0), (.free, 1), (.free, 2), (.free, 3), (.free, 4), (.free, 5), (.held, 6), (.kept, 7), (.free, 8), (.held, 9), (.free, 10), (.free, 11), (.free, 12), (.free, 13), (.held, 14), (.kept, 15), (.free, 16), (.free, 17), (.free, 18)])] 19 (by kernel_rfl) (by kernel_rfl) (fun _ _ _ _ _ h => h) ⟨fd, ?_⟩
      generalize wc.drew = wd at fd ⊢
      repeat (first
        | (refine' wpPlan_free (v := _) rfl (by rfl) ?_ ?_
           rotate_left
           · (intro w'; skip; go_simp; try rfl)
           simp only [List.getElem_toArray, List.getElem_cons_zero, List.getElem_cons_succ, Act.put, List.setIfInBounds_toArray, List.set_cons_zero, List.set_cons_succ])
        | (refine' wpPlan_held (v := _) rfl (by rfl) ?_ ?_
           rotate_left
           · (intro w' hS; skip; clear hS; go_simp; try rfl)
           simp only [List.getElem_toArray, List.getElem_cons_zero, List.getElem_cons_succ, Act.put, List.setIfInBounds_toArray, List.set_cons_zero, List.set_cons_succ])
        | (refine' wpPlan_skip rfl (by rfl) ?_
           simp only [List.getElem_toArray, List.getElem_cons_zero, List.getElem_cons_succ, Act.put, List.setIfInBounds_toArray, List.set_cons_zero, List.set_cons_succ])
        | (refine' wpPlan_skipHeld rfl (by rfl) ?_
           simp only [List.getElem_toArray, List.getElem_cons_zero, List.getElem_cons_succ, Act.put, List.setIfInBounds_toArray, List.set_cons_zero, List.set_cons_succ]))
      refine' wpPlan_kept rfl ?_
      intro K hK
      go_simp
      refine hK _ _ ⟨fd, ?_⟩
      clear hK K
      repeat (first
        | (refine' wpPlan_free (v := _) rfl (by rfl) ?_ ?_
           rotate_left
           · (intro w'; skip; go_simp; try rfl)
           simp only [List.getElem_toArray, List.getElem_cons_zero, List.getElem_cons_succ, Act.put, List.setIfInBounds_toArray, List.set_cons_zero, List.set_cons_succ])
        | (refine' wpPlan_held (v := _) rfl (by rfl) ?_ ?_
           rotate_left
           · (intro w' hS; skip; clear hS; go_simp; try rfl)
           simp only [List.getElem_toArray, List.getElem_cons_zero, List.getElem_cons_succ, Act.put, List.setIfInBounds_toArray, List.set_cons_zero, List.set_cons_succ])
        | (refine' wpPlan_skip rfl (by rfl) ?_
           simp only [List.getElem_toArray, List.getElem_cons_zero, List.getElem_cons_succ, Act.put, List.setIfInBounds_toArray, List.set_cons_zero, List.set_cons_succ])
        | (refine' wpPlan_skipHeld rfl (by rfl) ?_
           simp only [List.getElem_toArray, List.getElem_cons_zero, List.getElem_cons_succ, Act.put, List.setIfInBounds_toArray, List.set_cons_zero, List.set_cons_succ]))
      refine' wpPlan_kept rfl ?_
      intro K hK
      go_simp
      refine hK _ _ ⟨fd, ?_⟩
      clear hK K
      repeat (first
        | (refine' wpPlan_free (v := _) rfl (by rfl) ?_ ?_
           rotate_left
           · (intro w'; skip; go_simp; try rfl)
           simp only [List.getElem_toArray, List.getElem_cons_zero, List.getElem_cons_succ, Act.put, List.setIfInBounds_toArray, List.set_cons_zero, List.set_cons_succ])
        | (refine' wpPlan_held (v := _) rfl (by rfl) ?_ ?_
           rotate_left
           · (intro w' hS; skip; clear hS; go_simp; try rfl)
           simp only [List.getElem_toArray, List.getElem_cons_zero, List.getElem_cons_succ, Act.put, List.setIfInBounds_toArray, List.set_cons_zero, List.set_cons_succ])
        | (refine' wpPlan_skip rfl (by rfl) ?_
           simp only [List.getElem_toArray, List.getElem_cons_zero, List.getElem_cons_succ, Act.put, List.setIfInBounds_toArray, List.set_cons_zero, List.set_cons_succ])
        | (refine' wpPlan_skipHeld rfl (by rfl) ?_
           simp only [List.getElem_toArray, List.getElem_cons_zero, List.getElem_cons_succ, Act.put, List.setIfInBounds_toArray, List.set_cons_zero, List.set_cons_succ]))
      refine wpPlan_end ?_
      simp only [wpSegs, List.drop_succ_cons, List.drop_zero]
      have FD := Lib.hid (FX.out.trans fd)
      clear fd
      have B2D := Lib.hid (FD.out.heap B2.out id)
      obtain ⟨q1, z1⟩ := box_facts B2D.out
      go_wp2_with fail
      have FE := Lib.hid (((F0.out.trans FD.out).setCell (p := ⟨D1 + 1, 0, none⟩) (.inr (by have := HD1.out; simp only; omega)) (.slice none 0 0)).setCell (p := ⟨D1 + 1, 1, none⟩) (.inr (by have := HD1.out; simp only; omega)) (.slice none 0 0))
      have g1 := heap_setCell_same _ _ 1 _ 143 (.slice none 0 0) (heap_setCell_same wd _ 0 _ 143 (.slice none 0 0) B2D.out)
      generalize (wd.setCell { block := D1 + 1, off := 0 } (Value.slice none 0 0)).setCell { block := D1 + 1, off := 1 } (Value.slice none 0 0) = wz at FE g1 ⊢
      have LZ := run_loadVar_row wz (D1 + 1) 143 143 _ (0, 0) _ g1 Try.underlying143 rfl (by kernel_rfl)
      clear q1 z1
      refine bodyPost_ret (v := .tuple #[.agg #[.slice none 0 0, .slice none 0 0], .bool false]) (by rw [results_cell_tmp rfl]; simp [asAddr, LZ]) rfl ⟨?_, FE.out⟩
      unfold DoneS
      rw [HN.out]

    subst h0
    obtain ⟨mu, hmu⟩ : ∃ b, hSure x = b := ⟨_, rfl⟩
    have HM := Lib.hid (fun (y : World) (f : Fr Non W y) => lrmust_any (w := y) (HV.out.stay f))
    rw [hmu] at HM HA
    clear hmu
    cases mu with
    | false =>
      have HN := Lib.hid (show lAfter m x = some dn by rw [HA.out, if_pos ⟨by trivial, fun h => by cases h⟩])
      go_wp2_with fail
      refine wp_draw [((fun y => Fr Non wc y), [(.free, 0), (.free, 1), (.free, 2), (.free, 3), (.free, 4), (.free, 5), (.held, 6), (.kept, 7), (.free, 8), (.held, 9), (.free, 10), (.free, 11), (.free, 12), (.free, 13), (.held, 14), (.kept, 15), (.free, 16), (.free, 17), (.free, 18)])] 19 (by kernel_rfl) (by kernel_rfl) (fun _ _ _ _ _ h => h) ⟨fd, ?_⟩
      generalize wc.drew = wd at fd ⊢
      repeat (first
        | (refine' wpPlan_free (v := _) rfl (by rfl) ?_ ?_
           rotate_left
           · (intro w'; skip; go_simp; try rfl)
           simp only [List.getElem_toArray, List.getElem_cons_zero, List.getElem_cons_succ, Act.put, List.setIfInBounds_toArray, List.set_cons_zero, List.set_cons_succ])
        | (refine' wpPlan_held (v := _) rfl (by rfl) (fun w' hS => held_of (HLD.out w' (FX.out.trans hS)).1) ?_
           simp only [List.getElem_toArray, List.getElem_cons_zero, List.getElem_cons_succ, Act.put, List.setIfInBounds_toArray, List.set_cons_zero, List.set_cons_succ])
        | (refine' wpPlan_held (v := _) rfl (by rfl) ?_ ?_
           rotate_left
           · (intro w' hS; skip; clear hS; go_simp; try rfl)
           simp only [List.getElem_toArray, List.getElem_cons_zero, List.getElem_cons_succ, Act.put, List.setIfInBounds_toArray, List.set_cons_zero, List.set_cons_succ])
        | (refine' wpPlan_skip rfl (by rfl) ?_
           simp only [List.getElem_toArray, List.getElem_cons_zero, List.getElem_cons_succ, Act.put, List.setIfInBounds_toArray, List.set_cons_zero, List.set_cons_succ])
        | (refine' wpPlan_skipHeld rfl (by rfl) ?_
           simp only [List.getElem_toArray, List.getElem_cons_zero, List.getElem_cons_succ, Act.put, List.setIfInBounds_toArray, List.set_cons_zero, List.set_cons_succ]))
      refine' wpPlan_kept rfl ?_
      intro K hK
      go_simp
      refine (HM.out _ (FX.out.trans fd)).mono ?_
      rintro e y1 ⟨rfl, g1⟩
      go_simp
      have fd1 := fd.trans g1
      refine hK _ _ ⟨fd1, ?_⟩
      clear hK K fd g1
      repeat (first
        | (refine' wpPlan_free (v := _) rfl (by rfl) ?_ ?_
           rotate_left
           · (intro w'; skip; go_simp; try rfl)
           simp only [List.getElem_toArray, List.getElem_cons_zero, List.getElem_cons_succ, Act.put, List.setIfInBounds_toArray, List.set_cons_zero, List.set_cons_succ])
        | (refine' wpPlan_held (v := _) rfl (by rfl) ?_ ?_
           rotate_left
           · (intro w' hS; skip; clear hS; go_simp; try rfl)
           simp only [List.getElem_toArray, List.getElem_cons_zero, List.getElem_cons_succ, Act.put, List.setIfInBounds_toArray, List.set_cons_zero, List.set_cons_succ])
        | (refine' wpPlan_skip rfl (by rfl) ?_
           simp only [List.getElem_toArray, List.getElem_cons_zero, List.getElem_cons_succ, Act.put, List.setIfInBounds_toArray, List.set_cons_zero, List.set_cons_succ])
        | (refine' wpPlan_skipHeld rfl (by rfl) ?_
           simp only [List.getElem_toArray, List.getElem_cons_zero, List.getElem_cons_succ, Act.put, List.setIfInBounds_toArray, List.set_cons_zero, List.set_cons_succ]))
      refine' wpPlan_kept rfl ?_
      intro K hK
      go_simp
      refine hK _ _ ⟨fd1, ?_⟩
      clear hK K
      repeat (first
        | (refine' wpPlan_free (v := _) rfl (by rfl) ?_ ?_
           rotate_left
           · (intro w'; skip; go_simp; try rfl)
           simp only [List.getElem_toArray, List.getElem_cons_zero, List.getElem_cons_succ, Act.put, List.setIfInBounds_toArray, List.set_cons_zero, List.set_cons_succ])
        | (refine' wpPlan_held (v := _) rfl (by rfl) ?_ ?_
           rotate_left
           · (intro w' hS; skip; clear hS; go_simp; try rfl)
           simp only [List.getElem_toArray, List.getElem_cons_zero, List.getElem_cons_succ, Act.put, List.setIfInBounds_toArray, List.set_cons_zero, List.set_cons_succ])
        | (refine' wpPlan_skip rfl (by rfl) ?_
           simp only [List.getElem_toArray, List.getElem_cons_zero, List.getElem_cons_succ, Act.put, List.setIfInBounds_toArray, List.set_cons_zero, List.set_cons_succ])
        | (refine' wpPlan_skipHeld rfl (by rfl) ?_
           simp only [List.getElem_toArray, List.getElem_cons_zero, List.getElem_cons_succ, Act.put, List.setIfInBounds_toArray, List.set_cons_zero, List.set_cons_succ]))
      refine wpPlan_end ?_
      simp only [wpSegs, List.drop_succ_cons, List.drop_zero]
      have FD := Lib.hid (FX.out.trans fd1)
      have HXD := Lib.hid (HXV.out.stay fd1)
      clear fd1
      have B1D := Lib.hid (FD.out.heap B1.out id)
      obtain ⟨q1, z1⟩ := box_facts B1D.out
      have hlt1 := lt_of_block B1D.out
      have HSRC := Lib.hid (show Src y1 1 (.slice da l.length dc) l.length ((lBits d l.length).map Value.bool) by have := bools_src (HDV.out.stay FD.out); rwa [lBits_len] at this)
      have HSZ := Lib.hid FD.out.size
      have HSW := Lib.hid (lt_of_block B2.out)
      go_wp2_with (at_builtin; refine wpList_append_g rfl _ _ eI4 rfl (.slice (some ⟨y1.heap.size, 0, none⟩) 0 0) 0 [] rfl ⟨rfl, .inr ⟨_, 0, #[], rfl, alloc_at y1 _, Nat.le_refl _, by unfold maxLen; omega, by simp, by simp⟩⟩ _ l.length _ rfl (HSRC.out.alloc _) ?k2 ?k3 ?_)
      case k2 => unfold maxLen; omega
      case k3 => omega
      intro v' w7 r1 r2 r3 _
      clear q1 z1
      have hne : l.length ≠ 0 := by omega
      obtain ⟨g, cap, cur, rfl, hg, hcap, hcm, _, htake⟩ := r1.2.resolve_left (fun h => hne h.2)
      rw [Nat.mul_one] at htake
      have hgw : y1.heap.size ≤ g := by
        rcases r3 with r3 | ⟨r3, _⟩
        · simp [Value.ownBlock] at r3; omega
        · simp [Value.ownBlock] at r3; omega
      have F7 := Lib.hid (((Fr.refl Non y1).alloc (.cells #[] 4)).trans2 r2 (fun b hb he => by simp [Value.ownBlock] at he; omega))
      have q5 : w7.cell? ⟨g, i, none⟩ = some (.bool (d.testBit i)) := by
        rw [(box_facts hg).1]
        have := congrArg (fun x => x[i]?) htake
        simp only [List.getElem?_take, hi, if_true, Array.getElem?_toList, List.getElem?_map] at this
        rw [this, List.getElem?_eq_getElem (by rw [lBits_len]; exact hi), lBits_get]
        rfl
      have z5 := (box_facts hg).2 i
      have B27 := F7.out.heap (FD.out.heap B2.out id) id
      obtain ⟨q1, z1⟩ := box_facts B27
      have hsw := HSW.out
      have hsz := HSZ.out
      have n1 : D1 + 1 < g := by omega
      have HG := Lib.hid hg
      have HTK := Lib.hid htake
      have HCP := Lib.hid (And.intro hcap hcm)
      have HB27 := Lib.hid B27
      have HGW := Lib.hid hgw
      clear r1 r2 r3 hg htake hcap hcm B27 hsw hsz hgw
      go_wp2_with fail
      have FE := Lib.hid (((((F0.out.trans FD.out).trans F7.out).setCell (p := ⟨g, i, none⟩) (.inr (by have := HD1.out; simp only; omega)) (.bool true)).setCell (p := ⟨D1 + 1, 0, none⟩) (.inr (by have := HD1.out; simp only; omega)) (.slice (some ⟨g, 0, none⟩) l.length cap)).setCell (p := ⟨D1 + 1, 1, none⟩) (.inr (by have := HD1.out; simp only; omega)) (.slice xa dn.length xc))
      have FG := Lib.hid (((((Fr.refl (fun b => b = g ∨ b = D1 + 1) w7).setCell (p := ⟨g, i, none⟩) (.inl (.inl rfl)) (.bool true)).setCell (p := ⟨D1 + 1, 0, none⟩) (.inl (.inr rfl)) (.slice (some ⟨g, 0, none⟩) l.length cap))).setCell (p := ⟨D1 + 1, 1, none⟩) (.inl (.inr rfl)) (.slice xa dn.length xc))
      have g2 := heap_setCell_same _ _ 1 _ 143 (.slice xa dn.length xc) (heap_setCell_same (w7.setCell ⟨g, i, none⟩ (.bool true)) _ 0 _ 143 (.slice (some ⟨g, 0, none⟩) l.length cap) ((Below.heap_setCell _ _ _ _ (by simp only; omega)).trans HB27.out))
      have g1 := (Below.heap_setCell ((w7.setCell ⟨g, i, none⟩ (.bool true)).setCell ⟨D1 + 1, 0, none⟩ (.slice (some ⟨g, 0, none⟩) l.length cap)) ⟨D1 + 1, 1, none⟩ (.slice xa dn.length xc) g (by simp only; omega)).trans ((Below.heap_setCell (w7.setCell ⟨g, i, none⟩ (.bool true)) ⟨D1 + 1, 0, none⟩ (.slice (some ⟨g, 0, none⟩) l.length cap) g (by simp only; omega)).trans (heap_setCell_same w7 g i cur 4 (.bool true) HG.out))
      generalize ((w7.setCell ⟨g, i, none⟩ (.bool true)).setCell ⟨D1 + 1, 0, none⟩ (.slice (some ⟨g, 0, none⟩) l.length cap)).setCell ⟨D1 + 1, 1, none⟩ (.slice xa dn.length xc) = wz at FE FG g1 g2 ⊢
      have LZ := run_loadVar_row wz (D1 + 1) 143 143 _ (0, 0) _ g2 Try.underlying143 rfl (by kernel_rfl)
      clear q1 z1 q5 z5
      refine bodyPost_ret (v := .tuple #[.agg #[.slice (some ⟨g, 0, none⟩) l.length cap, .slice xa dn.length xc], .bool true]) (by rw [results_cell_tmp rfl]; simp [asAddr, LZ]) rfl ⟨?_, FE.out⟩
      unfold DoneS
      rw [HN.out]
      refine ⟨_, _, rfl, ?_, ?_⟩
      · have hb := boolsS_at (S := fun b => w.heap.size ≤ b) g1 (bs := lBits (d ||| 2 ^ i) l.length) (n := l.length) (cap := cap) (by rw [Array.toList_setIfInBounds, List.take_set, HTK.out, lBits_set]) (lBits_len _ _) HCP.out.1 HCP.out.2 (by have := HD1.out; omega)
        exact hb
      · exact ((HXD.out.frame (Fr.trans2 (show Fr (fun b => b = D1 + 1) y1 w7 from F7.out.mono fun _ _ h => h.elim) FG.out (fun b hb he => by have := HGW.out; rcases he with he | he <;> omega)) (fun b hb hs => by have := HSZ.out; have := HSW.out; omega)).mono fun b _ hs => hs.imp (fun h => h.1) fun h => by have := HD1.out; have := HSW.out; omega)

    | true =>
      have HSR := Lib.hid (fun (y : World) (f : Fr Non wc y) => rsres_any (w := y) dr x.2.1 (HYU.out.1.stay f) (HYU.out.2.stay f) (HSA.out.1.stay (FX.out.trans f)) (HSA.out.2.stay (FX.out.trans f)))
      have LP := Lib.hid (fun (y : World) (f : Fr Non wc y) => box52 (f.heap HPB.out id) rfl)
      obtain ⟨xs, hxs⟩ : ∃ xs, resCells x.2.1 (.slice a1 x.2.1.2.2.1.length n1) (.slice a2 x.2.1.2.2.2.1.length n2) = xs := ⟨_, rfl⟩
      obtain ⟨ys, hys⟩ : ∃ ys, resCells dr yu yw = ys := ⟨_, rfl⟩
      rw [hxs] at HLD HSR
      rw [hys] at LP HSR
      clear hxs hys
      go_wp2_with fail
      refine wp_draw [((fun y => Fr Non wc y), [(.free, 0), (.free, 1), (.free, 2), (.free, 3), (.free, 4), (.free, 5), (.held, 6), (.kept, 7), (.free, 8), (.held, 9), (.free, 10), (.free, 11), (.free, 12), (.free, 13), (.held, 14), (.kept, 15), (.free, 16), (.free, 17), (.free, 18)])] 19 (by kernel_rfl) (by kernel_rfl) (fun _ _ _ _ _ h => h) ⟨fd, ?_⟩
      generalize wc.drew = wd at fd ⊢
      repeat (first
        | (refine' wpPlan_free (v := _) rfl (by rfl) ?_ ?_
           rotate_left
           · (intro w'; skip; go_simp; try rfl)
           simp only [List.getElem_toArray, List.getElem_cons_zero, List.getElem_cons_succ, Act.put, List.setIfInBounds_toArray, List.set_cons_zero, List.set_cons_succ])
        | (refine' wpPlan_held (v := _) rfl (by rfl) (fun w' hS => held_of (HLD.out w' (FX.out.trans hS)).1) ?_
           simp only [List.getElem_toArray, List.getElem_cons_zero, List.getElem_cons_succ, Act.put, List.setIfInBounds_toArray, List.set_cons_zero, List.set_cons_succ])
        | (refine' wpPlan_held (v := _) rfl (by rfl) ?_ ?_
           rotate_left
           · (intro w' hS; skip; clear hS; go_simp; try rfl)
           simp only [List.getElem_toArray, List.getElem_cons_zero, List.getElem_cons_succ, Act.put, List.setIfInBounds_toArray, List.set_cons_zero, List.set_cons_succ])
        | (refine' wpPlan_skip rfl (by rfl) ?_
           simp only [List.getElem_toArray, List.getElem_cons_zero, List.getElem_cons_succ, Act.put, List.setIfInBounds_toArray, List.set_cons_zero, List.set_cons_succ])
        | (refine' wpPlan_skipHeld rfl (by rfl) ?_
           simp only [List.getElem_toArray, List.getElem_cons_zero, List.getElem_cons_succ, Act.put, List.setIfInBounds_toArray, List.set_cons_zero, List.set_cons_succ]))
      refine' wpPlan_kept rfl ?_
      intro K hK
      go_simp
      refine (HM.out _ (FX.out.trans fd)).mono ?_
      rintro e y1 ⟨rfl, g1⟩
      go_simp
      have fd1 := fd.trans g1
      refine hK _ _ ⟨fd1, ?_⟩
      clear hK K fd g1
      repeat (first
        | (refine' wpPlan_free (v := _) rfl (by rfl) ?_ ?_
           rotate_left
           · (intro w'; skip; go_simp; try rfl)
           simp only [List.getElem_toArray, List.getElem_cons_zero, List.getElem_cons_succ, Act.put, List.setIfInBounds_toArray, List.set_cons_zero, List.set_cons_succ])
        | (refine' wpPlan_held (v := _) rfl (by rfl) (fun w' hS => held_of (LP.out w' hS)) ?_
           simp only [List.getElem_toArray, List.getElem_cons_zero, List.getElem_cons_succ, Act.put, List.setIfInBounds_toArray, List.set_cons_zero, List.set_cons_succ])
        | (refine' wpPlan_held (v := _) rfl (by rfl) (fun w' hS => held_of (HLD.out w' (FX.out.trans hS)).2.2) ?_
           simp only [List.getElem_toArray, List.getElem_cons_zero, List.getElem_cons_succ, Act.put, List.setIfInBounds_toArray, List.set_cons_zero, List.set_cons_succ])
        | (refine' wpPlan_held (v := _) rfl (by rfl) ?_ ?_
           rotate_left
           · (intro w' hS; skip; clear hS; go_simp; try rfl)
           simp only [List.getElem_toArray, List.getElem_cons_zero, List.getElem_cons_succ, Act.put, List.setIfInBounds_toArray, List.set_cons_zero, List.set_cons_succ])
        | (refine' wpPlan_skip rfl (by rfl) ?_
           simp only [List.getElem_toArray, List.getElem_cons_zero, List.getElem_cons_succ, Act.put, List.setIfInBounds_toArray, List.set_cons_zero, List.set_cons_succ])
        | (refine' wpPlan_skipHeld rfl (by rfl) ?_
           simp only [List.getElem_toArray, List.getElem_cons_zero, List.getElem_cons_succ, Act.put, List.setIfInBounds_toArray, List.set_cons_zero, List.set_cons_succ]))
      refine' wpPlan_kept rfl ?_
      intro K hK
      go_simp
      refine (HSR.out _ fd1).mono ?_
      rintro e y2 ⟨rfl, g2⟩
      go_simp
      have fd2 := fd1.trans g2
      refine hK _ _ ⟨fd2, ?_⟩
      clear hK K fd1 g2
      repeat (first
        | (refine' wpPlan_free (v := _) rfl (by rfl) ?_ ?_
           rotate_left
           · (intro w'; skip; go_simp; try rfl)
           simp only [List.getElem_toArray, List.getElem_cons_zero, List.getElem_cons_succ, Act.put, List.setIfInBounds_toArray, List.set_cons_zero, List.set_cons_succ])
        | (refine' wpPlan_held (v := _) rfl (by rfl) ?_ ?_
           rotate_left
           · (intro w' hS; skip; clear hS; go_simp; try rfl)
           simp only [List.getElem_toArray, List.getElem_cons_zero, List.getElem_cons_succ, Act.put, List.setIfInBounds_toArray, List.set_cons_zero, List.set_cons_succ])
        | (refine' wpPlan_skip rfl (by rfl) ?_
           simp only [List.getElem_toArray, List.getElem_cons_zero, List.getElem_cons_succ, Act.put, List.setIfInBounds_toArray, List.set_cons_zero, List.set_cons_succ])
        | (refine' wpPlan_skipHeld rfl (by rfl) ?_
           simp only [List.getElem_toArray, List.getElem_cons_zero, List.getElem_cons_succ, Act.put, List.setIfInBounds_toArray, List.set_cons_zero, List.set_cons_succ]))
      refine wpPlan_end ?_
      simp only [wpSegs, List.drop_succ_cons, List.drop_zero]
      by_cases hr : dr = x.2.1
      · have HN := Lib.hid (show lAfter m x = some dn by rw [HA.out, if_pos ⟨by trivial, fun _ => hr⟩])
        rw [decide_eq_true hr]
        have FD := Lib.hid (FX.out.trans fd2)
        have HXD := Lib.hid (HXV.out.stay fd2)
        clear fd2
        have B1D := Lib.hid (FD.out.heap B1.out id)
        obtain ⟨q1, z1⟩ := box_facts B1D.out
        have hlt1 := lt_of_block B1D.out
        have HSRC := Lib.hid (show Src y2 1 (.slice da l.length dc) l.length ((lBits d l.length).map Value.bool) by have := bools_src (HDV.out.stay FD.out); rwa [lBits_len] at this)
        have HSZ := Lib.hid FD.out.size
        have HSW := Lib.hid (lt_of_block B2.out)
        go_wp2_with (at_builtin; refine wpList_append_g rfl _ _ eI4 rfl (.slice (some ⟨y2.heap.size, 0, none⟩) 0 0) 0 [] rfl ⟨rfl, .inr ⟨_, 0, #[], rfl, alloc_at y2 _, Nat.le_refl _, by unfold maxLen; omega, by simp, by simp⟩⟩ _ l.length _ rfl (HSRC.out.alloc _) ?k2 ?k3 ?_)
        case k2 => unfold maxLen; omega
        case k3 => omega
        intro v' w7 r1 r2 r3 _
        clear q1 z1
        have hne : l.length ≠ 0 := by omega
        obtain ⟨g, cap, cur, rfl, hg, hcap, hcm, _, htake⟩ := r1.2.resolve_left (fun h => hne h.2)
        rw [Nat.mul_one] at htake
        have hgw : y2.heap.size ≤ g := by
          rcases r3 with r3 | ⟨r3, _⟩
          · simp [Value.ownBlock] at r3; omega
          · simp [Value.ownBlock] at r3; omega
        have F7 := Lib.hid (((Fr.refl Non y2).alloc (.cells #[] 4)).trans2 r2 (fun b hb he => by simp [Value.ownBlock] at he; omega))
        have q5 : w7.cell? ⟨g, i, none⟩ = some (.bool (d.testBit i)) := by
          rw [(box_facts hg).1]
          have := congrArg (fun x => x[i]?) htake
          simp only [List.getElem?_take, hi, if_true, Array.getElem?_toList, List.getElem?_map] at this
          rw [this, List.getElem?_eq_getElem (by rw [lBits_len]; exact hi), lBits_get]
          rfl
        have z5 := (box_facts hg).2 i
        have B27 := F7.out.heap (FD.out.heap B2.out id) id
        obtain ⟨q1, z1⟩ := box_facts B27
        have hsw := HSW.out
        have hsz := HSZ.out
        have n1 : D1 + 1 < g := by omega
        have HG := Lib.hid hg
        have HTK := Lib.hid htake
        have HCP := Lib.hid (And.intro hcap hcm)
        have HB27 := Lib.hid B27
        have HGW := Lib.hid hgw
        clear r1 r2 r3 hg htake hcap hcm B27 hsw hsz hgw
        go_wp2_with fail
        have FE := Lib.hid (((((F0.out.trans FD.out).trans F7.out).setCell (p := ⟨g, i, none⟩) (.inr (by have := HD1.out; simp only; omega)) (.bool true)).setCell (p := ⟨D1 + 1, 0, none⟩) (.inr (by have := HD1.out; simp only; omega)) (.slice (some ⟨g, 0, none⟩) l.length cap)).setCell (p := ⟨D1 + 1, 1, none⟩) (.inr (by have := HD1.out; simp only; omega)) (.slice xa dn.length xc))
        have FG := Lib.hid (((((Fr.refl (fun b => b = g ∨ b = D1 + 1) w7).setCell (p := ⟨g, i, none⟩) (.inl (.inl rfl)) (.bool true)).setCell (p := ⟨D1 + 1, 0, none⟩) (.inl (.inr rfl)) (.slice (some ⟨g, 0, none⟩) l.length cap))).setCell (p := ⟨D1 + 1, 1, none⟩) (.inl (.inr rfl)) (.slice xa dn.length xc))
        have g2 := heap_setCell_same _ _ 1 _ 143 (.slice xa dn.length xc) (heap_setCell_same (w7.setCell ⟨g, i, none⟩ (.bool true)) _ 0 _ 143 (.slice (some ⟨g, 0, none⟩) l.length cap) ((Below.heap_setCell _ _ _ _ (by simp only; omega)).trans HB27.out))
        have g1 := (Below.heap_setCell ((w7.setCell ⟨g, i, none⟩ (.bool true)).setCell ⟨D1 + 1, 0, none⟩ (.slice (some ⟨g, 0, none⟩) l.length cap)) ⟨D1 + 1, 1, none⟩ (.slice xa dn.length xc) g (by simp only; omega)).trans ((Below.heap_setCell (w7.setCell ⟨g, i, none⟩ (.bool true)) ⟨D1 + 1, 0, none⟩ (.slice (some ⟨g, 0, none⟩) l.length cap) g (by simp only; omega)).trans (heap_setCell_same w7 g i cur 4 (.bool true) HG.out))
        generalize ((w7.setCell ⟨g, i, none⟩ (.bool true)).setCell ⟨D1 + 1, 0, none⟩ (.slice (some ⟨g, 0, none⟩) l.length cap)).setCell ⟨D1 + 1, 1, none⟩ (.slice xa dn.length xc) = wz at FE FG g1 g2 ⊢
        have LZ := run_loadVar_row wz (D1 + 1) 143 143 _ (0, 0) _ g2 Try.underlying143 rfl (by kernel_rfl)
        clear q1 z1 q5 z5
        refine bodyPost_ret (v := .tuple #[.agg #[.slice (some ⟨g, 0, none⟩) l.length cap, .slice xa dn.length xc], .bool true]) (by rw [results_cell_tmp rfl]; simp [asAddr, LZ]) rfl ⟨?_, FE.out⟩
        unfold DoneS
        rw [HN.out]
        refine ⟨_, _, rfl, ?_, ?_⟩
        · have hb := boolsS_at (S := fun b => w.heap.size ≤ b) g1 (bs := lBits (d ||| 2 ^ i) l.length) (n := l.length) (cap := cap) (by rw [Array.toList_setIfInBounds, List.take_set, HTK.out, lBits_set]) (lBits_len _ _) HCP.out.1 HCP.out.2 (by have := HD1.out; omega)
          exact hb
        · exact ((HXD.out.frame (Fr.trans2 (show Fr (fun b => b = D1 + 1) y2 w7 from F7.out.mono fun _ _ h => h.elim) FG.out (fun b hb he => by have := HGW.out; rcases he with he | he <;> omega)) (fun b hb hs => by have := HSZ.out; have := HSW.out; omega)).mono fun b _ hs => hs.imp (fun h => h.1) fun h => by have := HD1.out; have := HSW.out; omega)
  
      · have HN := Lib.hid (show lAfter m x = none by rw [HA.out, if_neg (fun h => hr (h.2 (by trivial)))])
        rw [decide_eq_false hr]
        have FD := Lib.hid (FX.out.trans fd2)
        clear fd2
        have B2D := Lib.hid (FD.out.heap B2.out id)
        obtain ⟨q1, z1⟩ := box_facts B2D.out
        go_wp2_with fail
        have FE := Lib.hid (((F0.out.trans FD.out).setCell (p := ⟨D1 + 1, 0, none⟩) (.inr (by have := HD1.out; simp only; omega)) (.slice none 0 0)).setCell (p := ⟨D1 + 1, 1, none⟩) (.inr (by have := HD1.out; simp only; omega)) (.slice none 0 0))
        have g1 := heap_setCell_same _ _ 1 _ 143 (.slice none 0 0) (heap_setCell_same y2 _ 0 _ 143 (.slice none 0 0) B2D.out)
        generalize (y2.setCell { block := D1 + 1, off := 0 } (Value.slice none 0 0)).setCell { block := D1 + 1, off := 1 } (Value.slice none 0 0) = wz at FE g1 ⊢
        have LZ := run_loadVar_row wz (D1 + 1) 143 143 _ (0, 0) _ g1 Try.underlying143 rfl (by kernel_rfl)
        clear q1 z1
        refine bodyPost_ret (v := .tuple #[.agg #[.slice none 0 0, .slice none 0 0], .bool false]) (by rw [results_cell_tmp rfl]; simp [asAddr, LZ]) rfl ⟨?_, FE.out⟩
        unfold DoneS
        rw [HN.out]
  
end Go.Proofs.Ytplhcfaonhkegaa

namespace Go.Proofs.Ytplhcfaonhkegaa
open Go.RowKit Go.Maps

set_option maxRecDepth 100000 in
set_option maxHeartbeats 4000000 in
theorem beginS_any (w : World) (L : Nat) (hL : L ≤ 100) : Calls Try.prog 93 #[.int .i64 L] w fun e w' => ∃ dv, e = .returned (.agg #[dv, .slice none 0 0]) ∧ Sl kBool (fun b => w.heap.size ≤ b) w' dv (lBits 0 L) ∧ Fr Non w w' := by
  have l0 : (0 : Int) ≤ (L : Int) := by omega
  have l1 : (L : Int) ≤ 100 := by omega
  have HM := Lib.hid (fun (w : World) => make141 w L hL)
  go_enter Try.func93, Try.ntmps93
  go_wp2_with (refine wpList_make_w 141 (.int .i64 L) (.int .i64 L) _ (HM.out _) _ _ rfl rfl rfl (by rfl) ?_)
  have g1 := alloc_at2 w (.cells #[.slice (some ⟨w.heap.size + 1, 0, none⟩) L L, .slice none 0 0] 143) (.cells (Array.replicate L (.bool false)) 4)
  have g2 := alloc_at2' w (.cells #[.slice (some ⟨w.heap.size + 1, 0, none⟩) L L, .slice none 0 0] 143) (.cells (Array.replicate L (.bool false)) 4)
  have ff : Fr Non w ((w.alloc (.cells #[.slice (some ⟨w.heap.size + 1, 0, none⟩) L L, .slice none 0 0] 143)).alloc (.cells (Array.replicate L (.bool false)) 4)) := ((Fr.refl _ _).alloc _).alloc _
  generalize ((w.alloc (.cells #[.slice (some ⟨w.heap.size + 1, 0, none⟩) L L, .slice none 0 0] 143)).alloc (.cells (Array.replicate L (.bool false)) 4)) = wz at g1 g2 ff ⊢
  refine bodyPost_ret (results_cell_row rfl _ _ w.heap.size 143 _ _ _ rfl g1 rfl rfl (by kernel_rfl)) rfl ⟨_, by rfl, ?_, ff⟩
  rw [lBits_zero]
  exact boolsS_at g2 (by simp) (by simp) (Nat.le_refl _) (by unfold maxLen; omega) (by omega)
theorem lBits_eq {d1 d2 L : Nat} : lBits d1 L = lBits d2 L ↔ ∀ k, k < L → d1.testBit k = d2.testBit k := by
  constructor
  · intro h k hk
    have := congrArg (fun l => l[k]?) h
    simpa [lBits, hk] using this
  · intro h
    unfold lBits
    exact List.map_congr_left fun k hk => h k (List.mem_range.1 hk)
set_option maxRecDepth 100000 in
set_option maxHeartbeats 4000000 in
theorem rstate_same {w : World} {dv1 lv1 dv2 lv2 : Value} {L d1 d2 : Nat} {m1 m2 : List MItem} (hL : L ≤ 100) (h1 : Sl kBool All w dv1 (lBits d1 L)) (h2 : Sl kBool All w dv2 (lBits d2 L)) (h3 : Sl kItem All w lv1 m1) (h4 : Sl kItem All w lv2 m2) :
    Calls Try.prog 140 #[.agg #[dv1, lv1], .agg #[dv2, lv2]] w fun e w' => e = .returned (.bool (decide (lBits d1 L = lBits d2 L ∧ m1 = m2))) ∧ Fr Non w w' := by
  obtain ⟨da1, dc1, rfl, _, hdx1, _⟩ := h1.frm
  obtain ⟨da2, dc2, rfl, _, hdx2, _⟩ := h2.frm
  obtain ⟨ma1, mc1, rfl, _⟩ := h3.frm
  obtain ⟨ma2, mc2, rfl, _⟩ := h4.frm
  rw [lBits_len] at h1 h2 ⊢
  rw [lBits_len]
  obtain ⟨W, hW⟩ : ∃ W, ((w.alloc (.cells #[.slice da1 L dc1, .slice ma1 m1.length mc1] 143)).alloc (.cells #[.slice da2 L dc2, .slice ma2 m2.length mc2] 143)) = W := ⟨_, rfl⟩
  have f0 : Fr Non w W := by rw [← hW]; exact ((Fr.refl _ _).alloc _).alloc _
  have b1 : W.heap[w.heap.size]? = some (.cells #[.slice da1 L dc1, .slice ma1 m1.length mc1] 143 (0, 0)) := by rw [← hW]; exact alloc_at2 w _ _
  have b2 : W.heap[w.heap.size + 1]? = some (.cells #[.slice da2 L dc2, .slice ma2 m2.length mc2] 143 (0, 0)) := by rw [← hW]; exact alloc_at2' w _ _
  have H1 := Lib.hid (h1.stay f0)
  have H2 := Lib.hid (h2.stay f0)
  have HS := Lib.hid (fun (y : World) (f : Fr Non W y) => rsame_any ((h3.stay f0).stay f) ((h4.stay f0).stay f))
  have F0 := Lib.hid f0
  obtain ⟨D, hD⟩ : ∃ D, w.heap.size = D := ⟨_, rfl⟩
  rw [hD] at b1 b2
  have Q1 := Lib.hid (fun (y : World) (f : Fr Non W y) => (box_facts (f.heap b1 id)).1)
  have Q2 := Lib.hid (fun (y : World) (f : Fr Non W y) => (box_facts (f.heap b2 id)).1)
  obtain ⟨R, hR⟩ : ∃ R, decide (lBits d1 L = lBits d2 L ∧ m1 = m2) = R := ⟨_, rfl⟩
  have HR := Lib.hid hR
  rw [hR]
  clear h1 h2 h3 h4 f0 b1 b2 hR
  go_enter Try.func140, Try.ntmps140
  go_wp2_with fail
  clear hW
  go_loopw [5] (fun iv wr => ∃ (j : Nat), j ≤ L ∧ iv = .int .i64 j ∧ Hid (Fr Non W wr ∧ ∀ k, k < j → d1.testBit k = d2.testBit k)) (fun iv _ => L - (intOf iv).toNat)
  case atStart => exact ⟨0, by omega, rfl, Fr.refl _ _, fun k hk => by omega⟩
  case round =>
    obtain ⟨j, hj, rfl, HI⟩ := hrel
    have j0 : (0 : Int) ≤ (j : Int) := by omega
    have FR := Lib.hid HI.out.1
    have HK := Lib.hid HI.out.2
    have q1 := Q1.out wr FR.out
    have q2 := Q2.out wr FR.out
    clear HI
    by_cases hlt : j < L
    · have j1 : (j : Int) < (L : Int) := by omega
      obtain ⟨b1, o1, e, _, hc1⟩ := bool_held (H1.out.stay FR.out) j hlt
      subst e
      obtain ⟨b2, o2, e, _, hc2⟩ := bool_held (H2.out.stay FR.out) j hlt
      subst e
      have C1 := Lib.hid hc1
      have C2 := Lib.hid hc2
      have HD := Lib.hid (show ¬ d1.testBit j = d2.testBit j → R = false from fun h => by
        rw [← HR.out]
        exact decide_eq_false fun e => h (lBits_eq.1 e.1 j hlt))
      have HN := Lib.hid (show d1.testBit j = d2.testBit j → ∀ k, k < j + 1 → d1.testBit k = d2.testBit k from fun h k hk => by
        by_cases e : k = j
        · subst e; exact h
        · exact HK.out k (by omega))
      obtain ⟨x, hx⟩ : ∃ x, d1.testBit j = x := ⟨_, rfl⟩
      obtain ⟨y, hy⟩ : ∃ x, d2.testBit j = x := ⟨_, rfl⟩
      rw [hx] at C1
      rw [hy] at C2
      rw [hx, hy] at HD HN
      clear hc1 hc2 hx hy
      have fd : Fr Non wr wr.drew := (Fr.refl _ _).drew
      by_cases hxy : x = y
      · subst hxy
        go_wp2_with fail
        clear q1 q2
        refine wp_draw [((fun y => Fr Non wr y), [(.free, 0), (.held, 1), (.free, 2), (.free, 3), (.held, 4), (.free, 5), (.held, 6), (.free, 7), (.free, 8), (.held, 9), (.free, 10)])] 11 (by kernel_rfl) (by kernel_rfl) (fun _ _ _ _ _ h => h) ⟨fd, ?_⟩
        generalize wr.drew = wd at fd ⊢
        repeat (first
          | (refine' wpPlan_free (v := _) rfl (by rfl) ?_ ?_
             rotate_left
             · (intro w'; skip; go_simp; try rfl)
             simp only [List.getElem_toArray, List.getElem_cons_zero, List.getElem_cons_succ, Act.put, List.setIfInBounds_toArray, List.set_cons_zero, List.set_cons_succ])
          | (refine' wpPlan_held (v := _) rfl (by rfl) ?_ ?_
             rotate_left
             · (intro w' hS; skip; have q0 := C1.out w' hS; have q1 := C2.out w' hS; have q2 := Q1.out w' (FR.out.trans hS); have q3 := Q2.out w' (FR.out.trans hS); clear hS; go_simp; try rfl)
             simp only [List.getElem_toArray, List.getElem_cons_zero, List.getElem_cons_succ, Act.put, List.setIfInBounds_toArray, List.set_cons_zero, List.set_cons_succ])
          | (refine' wpPlan_skip rfl (by rfl) ?_
             simp only [List.getElem_toArray, List.getElem_cons_zero, List.getElem_cons_succ, Act.put, List.setIfInBounds_toArray, List.set_cons_zero, List.set_cons_succ])
          | (refine' wpPlan_skipHeld rfl (by rfl) ?_
             simp only [List.getElem_toArray, List.getElem_cons_zero, List.getElem_cons_succ, Act.put, List.setIfInBounds_toArray, List.set_cons_zero, List.set_cons_succ]))
        refine wpPlan_end ?_
        simp only [wpSegs, List.drop_succ_cons, List.drop_zero]
        cases x with
        | true =>
          go_wp2_with fail
          go_roundw
          case rel => exact ⟨j + 1, by omega, by go_num, FR.out.trans fd, HN.out (by trivial)⟩
          case measure => simp [intOf]; omega
        | false =>
          go_wp2_with fail
          go_roundw
          case rel => exact ⟨j + 1, by omega, by go_num, FR.out.trans fd, HN.out (by trivial)⟩
          case measure => simp [intOf]; omega
      · cases x with
        | true =>
          cases y with
          | true => exact absurd rfl hxy
          | false =>
            have HE := Lib.hid (HD.out hxy)
            go_wp2_with fail
            clear q1 q2
            refine wp_draw [((fun y => Fr Non wr y), [(.free, 0), (.held, 1), (.free, 2), (.free, 3), (.held, 4), (.free, 5), (.held, 6), (.free, 7), (.free, 8), (.held, 9), (.free, 10)])] 11 (by kernel_rfl) (by kernel_rfl) (fun _ _ _ _ _ h => h) ⟨fd, ?_⟩
            generalize wr.drew = wd at fd ⊢
            repeat (first
              | (refine' wpPlan_free (v := _) rfl (by rfl) ?_ ?_
                 rotate_left
                 · (intro w'; skip; go_simp; try rfl)
                 simp only [List.getElem_toArray, List.getElem_cons_zero, List.getElem_cons_succ, Act.put, List.setIfInBounds_toArray, List.set_cons_zero, List.set_cons_succ])
              | (refine' wpPlan_held (v := _) rfl (by rfl) ?_ ?_
                 rotate_left
                 · (intro w' hS; skip; have q0 := C1.out w' hS; have q1 := C2.out w' hS; have q2 := Q1.out w' (FR.out.trans hS); have q3 := Q2.out w' (FR.out.trans hS); clear hS; go_simp; try rfl)
                 simp only [List.getElem_toArray, List.getElem_cons_zero, List.getElem_cons_succ, Act.put, List.setIfInBounds_toArray, List.set_cons_zero, List.set_cons_succ])
              | (refine' wpPlan_skip rfl (by rfl) ?_
                 simp only [List.getElem_toArray, List.getElem_cons_zero, List.getElem_cons_succ, Act.put, List.setIfInBounds_toArray, List.set_cons_zero, List.set_cons_succ])
              | (refine' wpPlan_skipHeld rfl (by rfl) ?_
                 simp only [List.getElem_toArray, List.getElem_cons_zero, List.getElem_cons_succ, Act.put, List.setIfInBounds_toArray, List.set_cons_zero, List.set_cons_succ]))
            refine wpPlan_end ?_
            simp only [wpSegs, List.drop_succ_cons, List.drop_zero]
            go_wp2_with fail
            go_ret
            exact ⟨by rw [HE.out]; rfl, F0.out.trans (FR.out.trans fd)⟩
        | false =>
          cases y with
          | false => exact absurd rfl hxy
          | true =>
            have HE := Lib.hid (HD.out hxy)
            go_wp2_with fail
            clear q1 q2
            refine wp_draw [((fun y => Fr Non wr y), [(.free, 0), (.held, 1), (.free, 2), (.free, 3), (.held, 4), (.free, 5), (.held, 6), (.free, 7), (.free, 8), (.held, 9), (.free, 10)])] 11 (by kernel_rfl) (by kernel_rfl) (fun _ _ _ _ _ h => h) ⟨fd, ?_⟩
            generalize wr.drew = wd at fd ⊢
            repeat (first
              | (refine' wpPlan_free (v := _) rfl (by rfl) ?_ ?_
                 rotate_left
                 · (intro w'; skip; go_simp; try rfl)
                 simp only [List.getElem_toArray, List.getElem_cons_zero, List.getElem_cons_succ, Act.put, List.setIfInBounds_toArray, List.set_cons_zero, List.set_cons_succ])
              | (refine' wpPlan_held (v := _) rfl (by rfl) ?_ ?_
                 rotate_left
                 · (intro w' hS; skip; have q0 := C1.out w' hS; have q1 := C2.out w' hS; have q2 := Q1.out w' (FR.out.trans hS); have q3 := Q2.out w' (FR.out.trans hS); clear hS; go_simp; try rfl)
                 simp only [List.getElem_toArray, List.getElem_cons_zero, List.getElem_cons_succ, Act.put, List.setIfInBounds_toArray, List.set_cons_zero, List.set_cons_succ])
              | (refine' wpPlan_skip rfl (by rfl) ?_
                 simp only [List.getElem_toArray, List.getElem_cons_zero, List.getElem_cons_succ, Act.put, List.setIfInBounds_toArray, List.set_cons_zero, List.set_cons_succ])
              | (refine' wpPlan_skipHeld rfl (by rfl) ?_
                 simp only [List.getElem_toArray, List.getElem_cons_zero, List.getElem_cons_succ, Act.put, List.setIfInBounds_toArray, List.set_cons_zero, List.set_cons_succ]))
            refine wpPlan_end ?_
            simp only [wpSegs, List.drop_succ_cons, List.drop_zero]
            go_wp2_with fail
            go_ret
            exact ⟨by rw [HE.out]; rfl, F0.out.trans (FR.out.trans fd)⟩
    · obtain rfl : j = L := by omega
      have HE := Lib.hid (show R = decide (m1 = m2) by
        rw [← HR.out]
        exact decide_eq_decide.2 ⟨fun h => h.2, fun h => ⟨lBits_eq.2 HK.out, h⟩⟩)
      go_wp2_with fail
      refine (HS.out _ FR.out).mono ?_
      rintro e w5 ⟨rfl, f5⟩
      go_wp2_with fail
      go_ret
      exact ⟨by rw [HE.out]; rfl, F0.out.trans (FR.out.trans f5)⟩
end Go.Proofs.Ytplhcfaonhkegaa
