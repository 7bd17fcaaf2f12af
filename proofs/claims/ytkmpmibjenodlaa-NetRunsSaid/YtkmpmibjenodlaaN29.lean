/-
  Net: both networks side by side.
-/
import Derived.Test.YtkmpmibjenodlaaN28
import Derived.Test.YtkmpmibjenodlaaE
namespace Go.Proofs.Ytkmpmibjenodlaa
open Go.RowKit Go.Maps

def RefX (w : World) (R : List Nat) (rb k : Nat) (st : NetSt) : Prop := ∃ lv us, RefAt w rb lv us k st ∧ R = refFp rb lv us
def PostR (w : World) (R : List Nat) (rb k : Nat) (st : NetSt) (w' : World) : Prop := Fr (fun b => b ∈ R) w w' ∧ ∃ R', RefX w' R' rb k st ∧ ∀ b ∈ R', b ∈ R ∨ w.heap.size ≤ b

theorem RefX.fr {T : Nat → Prop} {w w' : World} {R : List Nat} {rb k : Nat} {st : NetSt} (h : RefX w R rb k st) (f : Fr T w w') (hT : ∀ b ∈ R, ¬ T b) : RefX w' R rb k st := by
  obtain ⟨lv, us, h, rfl⟩ := h
  exact ⟨lv, us, h.fr f hT, rfl⟩
theorem RefX.lt {w : World} {R : List Nat} {rb k : Nat} {st : NetSt} (h : RefX w R rb k st) : ∀ b ∈ R, b < w.heap.size := by
  obtain ⟨lv, us, h, rfl⟩ := h
  exact h.lt
theorem RefX.mono {w : World} {R : List Nat} {rb k k' : Nat} {st : NetSt} (h : RefX w R rb k st) (hk : k ≤ k') (hs : k' ≤ 1000000) : RefX w R rb k' st := by
  obtain ⟨lv, us, h, rfl⟩ := h
  exact ⟨lv, us, h.mono hk hs, rfl⟩
theorem RefPost.x {w w' : World} {rb : Nat} {lv : Value} {us : List Value} {k : Nat} {st : NetSt} (h : RefPost w rb lv us k st w') : PostR w (refFp rb lv us) rb k st w' := by
  obtain ⟨f, lv', us', h, hs⟩ := h
  exact ⟨f, _, ⟨lv', us', h, rfl⟩, hs⟩

section
variable {w : World} {R : List Nat} {rb k : Nat} {st : NetSt} (h : RefX w R rb k st)
include h
theorem r_put (hk : k < 1000000) (p : Parcel) (v : Value) (hp : Src w 1 v p.b.length (bcs p.b)) :
    Calls Try.prog 30 #[.pointer (some ⟨rb, 0, none⟩), .agg #[.bool p.fa, .int .i64 p.fn, .bool p.ta, .int .i64 p.tn, v]] w fun e w' =>
      e = .returned (.int .i64 (nPut st p).1) ∧ PostR w R rb (k + 1) (nPut st p).2 w' := by
  obtain ⟨lv, us, h, rfl⟩ := h
  exact (ref_put h hk p v hp).mono fun e w' ⟨h1, h2⟩ => ⟨h1, h2.x⟩
theorem r_take (hk : k < 1000000) (i : Int) :
    Calls Try.prog 31 #[.pointer (some ⟨rb, 0, none⟩), .int .i64 i] w fun e w' =>
      ∃ a c, e = .returned (.tuple #[.agg (pcs (pAt st i) (.slice a (pAt st i).b.length c)).toArray, .int .i64 (cAt st i)]) ∧ Src w' 1 (.slice a (pAt st i).b.length c) (pAt st i).b.length (bcs (pAt st i).b) ∧
        PostR w R rb (k + 1) (nTake st i) w' := by
  obtain ⟨lv, us, h, rfl⟩ := h
  exact (ref_take h hk i).mono fun e w' ⟨a, c, h1, h2, h3, h4⟩ => ⟨a, c, h1, h2, h3.x⟩
theorem r_twin (hk : k < 1000000) (i : Int) :
    Calls Try.prog 32 #[.pointer (some ⟨rb, 0, none⟩), .int .i64 i] w fun e w' =>
      ∃ a c, e = .returned (.tuple #[.agg (pcs (pAt st i) (.slice a (pAt st i).b.length c)).toArray, .int .i64 (cAt st i)]) ∧ Src w' 1 (.slice a (pAt st i).b.length c) (pAt st i).b.length (bcs (pAt st i).b) ∧
        PostR w R rb (k + 1) (nTwin st i) w' := by
  obtain ⟨lv, us, h, rfl⟩ := h
  exact (ref_twin h hk i).mono fun e w' ⟨a, c, h1, h2, h3, h4⟩ => ⟨a, c, h1, h2, h3.x⟩
theorem r_drop (hk : k < 1000000) (i : Int) :
    Calls Try.prog 33 #[.pointer (some ⟨rb, 0, none⟩), .int .i64 i] w fun e w' => e = .returned (.int .i64 (cAt st i)) ∧ PostR w R rb (k + 1) (nDrop st i) w' := by
  obtain ⟨lv, us, h, rfl⟩ := h
  exact (ref_drop h hk i).mono fun e w' ⟨h1, h2⟩ => ⟨h1, h2.x⟩
theorem r_swap (hk : k < 1000000) (i j : Int) :
    Calls Try.prog 34 #[.pointer (some ⟨rb, 0, none⟩), .int .i64 i, .int .i64 j] w fun e w' => e = .returned (.int .i64 (cSwap st i j)) ∧ PostR w R rb (k + 1) (nSwap st i j) w' := by
  obtain ⟨lv, us, h, rfl⟩ := h
  exact (ref_swap h hk i j).mono fun e w' ⟨h1, h2⟩ => ⟨h1, h2.x⟩
theorem r_cut (hk : k < 1000000) (a : Bool) (n : Int) :
    Calls Try.prog 35 #[.pointer (some ⟨rb, 0, none⟩), .agg #[.bool a, .int .i64 n]] w fun e w' =>
      e = .returned (.tuple #[.int .i64 (kCut st a n), .int .i64 (cCut n)]) ∧ PostR w R rb (k + 1) (nCut st a n) w' := by
  obtain ⟨lv, us, h, rfl⟩ := h
  exact (ref_cut h hk a n).mono fun e w' ⟨h1, h2⟩ => ⟨h1, h2.x⟩
theorem r_at (i : Int) :
    Calls Try.prog 36 #[.pointer (some ⟨rb, 0, none⟩), .int .i64 i] w fun e w' =>
      ∃ a c, e = .returned (.tuple #[.agg (pcs (pAt st i) (.slice a (pAt st i).b.length c)).toArray, .int .i64 (cAt st i)]) ∧ Src w' 1 (.slice a (pAt st i).b.length c) (pAt st i).b.length (bcs (pAt st i).b) ∧
        Fr Non w w' := by
  obtain ⟨lv, us, h, rfl⟩ := h
  exact (ref_at h i).mono fun e w' ⟨a, c, h1, h2, h3, h4⟩ => ⟨a, c, h1, h2, h3⟩
theorem r_to (ta : Bool) (tn : Int) :
    Calls Try.prog 38 #[.pointer (some ⟨rb, 0, none⟩), .agg #[.bool ta, .int .i64 tn]] w fun e w' => ∃ a c, e = .returned (.slice a (toIdx ta tn st.l st.l.length).length c) ∧
      GRow w' 3 1 (.slice a (toIdx ta tn st.l st.l.length).length c) (toIdx ta tn st.l st.l.length).length (ics (toIdx ta tn st.l st.l.length)) ∧ Fr Non w w' := by
  obtain ⟨lv, us, h, rfl⟩ := h
  exact ref_to h ta tn
end
theorem x_to {w : World} {N : List Nat} {bn k : Nat} {st : NetSt} (h : NetX w N bn k st) (ta : Bool) (tn : Int) :
    Calls Try.prog 24 #[.pointer (some ⟨bn, 0, none⟩), .agg #[.bool ta, .int .i64 tn]] w fun e w' => ∃ a c, e = .returned (.slice a (toIdx ta tn st.l st.l.length).length c) ∧
      GRow w' 3 1 (.slice a (toIdx ta tn st.l st.l.length).length c) (toIdx ta tn st.l st.l.length).length (ics (toIdx ta tn st.l st.l.length)) ∧ Fr Non w w' ∧ st.l.length ≤ 4096 := by
  obtain ⟨bm, lv, vs, k', hk', hn, rfl, hs⟩ := h
  exact (to_any hn ta tn).mono fun e w' ⟨a, c, h1, h2, h3, _⟩ => ⟨a, c, h1, h2, h3, hn.full⟩

structure Both (w0 w : World) (N R : List Nat) (bn rb kn kr : Nat) (sn sr : NetSt) : Prop where
  fr : Fr Non w0 w
  net : NetX w N bn kn sn
  ref : RefX w R rb kr sr
  n1 : ∀ b ∈ N, w0.heap.size ≤ b
  r1 : ∀ b ∈ R, w0.heap.size ≤ b
  dj : ∀ b ∈ N, b ∉ R

section
variable {w0 w w' : World} {N R : List Nat} {bn rb kn kr kn' kr' : Nat} {sn sr sn' sr' : NetSt} (h : Both w0 w N R bn rb kn kr sn sr)
include h
theorem Both.quiet (f : Fr Non w w') : Both w0 w' N R bn rb kn kr sn sr :=
  ⟨h.fr.trans f, h.net.fr f (fun _ _ => id), h.ref.fr f (fun _ _ => id), h.n1, h.r1, h.dj⟩
theorem Both.netp (hp : PostX w N bn kn' sn' w') : ∃ N', Both w0 w' N' R bn rb kn' kr sn' sr := by
  obtain ⟨f, N', n, hs⟩ := hp
  refine ⟨N', h.fr.trans2 f (fun b hb hm => by have := h.n1 b hm; omega), n, h.ref.fr f (fun b hb hn => h.dj b hn hb), fun b hb => ?_, h.r1, fun b hb hr => ?_⟩
  · rcases hs b hb with hb | hb
    · exact h.n1 b hb
    · have := h.fr.size; omega
  · rcases hs b hb with hb | hb
    · exact h.dj b hb hr
    · have := h.ref.lt b hr; omega
theorem Both.refp (hp : PostR w R rb kr' sr' w') : ∃ R', Both w0 w' N R' bn rb kn kr' sn sr' := by
  obtain ⟨f, R', n, hs⟩ := hp
  refine ⟨R', h.fr.trans2 f (fun b hb hm => by have := h.r1 b hm; omega), h.net.fr f (fun b hb hn => h.dj b hb hn), n, h.n1, fun b hb => ?_, fun b hb hr => ?_⟩
  · rcases hs b hb with hb | hb
    · exact h.r1 b hb
    · have := h.fr.size; omega
  · rcases hs b hr with hr | hr
    · exact h.dj b hb hr
    · have := h.net.lt b hb; omega
theorem Both.mono (h1 : kn ≤ kn') (h2 : kr ≤ kr') (h3 : kr' ≤ 1000000) : Both w0 w N R bn rb kn' kr' sn sr :=
  ⟨h.fr, h.net.mono h1, h.ref.mono h2 h3, h.n1, h.r1, h.dj⟩
end

/-- What a step leaves. -/
def Stepped (w0 : World) (bn rb k : Nat) (w' : World) : Prop := ∃ N R st, Both w0 w' N R bn rb k k st st

section
variable {w0 w : World} {N R : List Nat} {bn rb k : Nat} {st : NetSt} (B : Both w0 w N R bn rb k k st st) (hk : k < 1000000) (fa ta : Bool) (fn tn i m : Int) (ua : Option Addr) (uc : Nat) (bs : List UInt8)
  (hv : Sl kByte (Old w0) w0 (.slice ua bs.length uc) bs) (hl : bs.length ≤ maxLen)
include B hk hv hl

set_option maxRecDepth 100000 in
set_option maxHeartbeats 4000000 in
theorem step1 : Calls Try.prog 20 #[.pointer (some ⟨bn, 0, none⟩), .pointer (some ⟨rb, 0, none⟩), .agg #[.int .i64 1, .bool fa, .int .i64 fn, .bool ta, .int .i64 tn, .slice ua bs.length uc, .int .i64 i, .int .i64 m]] w fun e w' =>
    e = .returned (.bool true) ∧ Fr (fun b => b ∈ N ∨ b ∈ R) w w' ∧ Stepped w0 bn rb (k + 1) w' := by
  go_enter Try.func20, Try.ntmps20
  go_wp2_with fail
  have f1 : Fr (fun b => b ∈ N ∨ b ∈ R) w (w.alloc (.cells #[.int .i64 1, .bool fa, .int .i64 fn, .bool ta, .int .i64 tn, .slice ua bs.length uc, .int .i64 i, .int .i64 m] 32)) := (Fr.refl _ _).alloc _
  have b1 := alloc_at w (.cells #[.int .i64 1, .bool fa, .int .i64 fn, .bool ta, .int .i64 tn, .slice ua bs.length uc, .int .i64 i, .int .i64 m] 32)
  have B1 := B.quiet ((Fr.refl Non w).alloc (.cells #[.int .i64 1, .bool fa, .int .i64 fn, .bool ta, .int .i64 tn, .slice ua bs.length uc, .int .i64 i, .int .i64 m] 32))
  have hN : w.heap.size ∉ N := fun e => by have := B.net.lt _ e; omega
  have hR : w.heap.size ∉ R := fun e => by have := B.ref.lt _ e; omega
  generalize w.alloc (.cells #[.int .i64 1, .bool fa, .int .i64 fn, .bool ta, .int .i64 tn, .slice ua bs.length uc, .int .i64 i, .int .i64 m] 32) = w1 at f1 b1 B1 ⊢
  refine wp_draw [((fun x => x.heap[w.heap.size]? = some (.cells #[.int .i64 1, .bool fa, .int .i64 fn, .bool ta, .int .i64 tn, .slice ua bs.length uc, .int .i64 i, .int .i64 m] 32 (0, 0))), [(.free, 0), (.free, 1), (.held, 2), (.free, 5), (.free, 6), (.held, 7), (.kept, 3), (.kept, 4), (.kept, 8), (.kept, 9), (.free, 10), (.free, 11)])] 12 (by kernel_rfl) (by kernel_rfl) (fun _ _ _ _ _ h => h) ⟨b1, ?_⟩
  have Bd := B1.quiet (Fr.refl Non w1).drew
  have bd : w1.drew.heap[w.heap.size]? = some (.cells #[.int .i64 1, .bool fa, .int .i64 fn, .bool ta, .int .i64 tn, .slice ua bs.length uc, .int .i64 i, .int .i64 m] 32 (0, 0)) := b1
  have fd := f1.drew
  clear b1 B1 f1
  generalize w1.drew = wd at Bd bd fd ⊢
  repeat (first
    | (refine' wpPlan_free (v := _) rfl (by rfl) ?_ ?_
       rotate_left
       · (intro w'; go_simp; try rfl)
       simp only [List.getElem_toArray, List.getElem_cons_zero, List.getElem_cons_succ, Act.put, List.setIfInBounds_toArray, List.set_cons_zero, List.set_cons_succ])
    | (refine' wpPlan_held (v := _) rfl (by rfl) ?_ ?_
       rotate_left
       · (intro w' hS; obtain ⟨q1, _⟩ := box_facts hS; clear hS; go_simp; try rfl)
       simp only [List.getElem_toArray, List.getElem_cons_zero, List.getElem_cons_succ, Act.put, List.setIfInBounds_toArray, List.set_cons_zero, List.set_cons_succ])
    | (refine' wpPlan_skip rfl (by rfl) ?_
       simp only [List.getElem_toArray, List.getElem_cons_zero, List.getElem_cons_succ, Act.put, List.setIfInBounds_toArray, List.set_cons_zero, List.set_cons_succ])
    | (refine' wpPlan_skipHeld rfl (by rfl) ?_
       simp only [List.getElem_toArray, List.getElem_cons_zero, List.getElem_cons_succ, Act.put, List.setIfInBounds_toArray, List.set_cons_zero, List.set_cons_succ]))
  refine' wpPlan_kept rfl ?_
  intro K hK
  go_simp
  refine (cut_any (hv.frame Bd.fr (fun _ _ _ => id)) hl fa ta fn tn).mono ?_
  rintro e w2 ⟨qa, qc, rfl, hq, f2, _⟩
  go_simp
  have b2 := f2.heap bd id
  refine hK _ _ ⟨b2, ?_⟩
  have B2 := Bd.quiet f2
  clear hK K
  repeat (first
    | (refine' wpPlan_free (v := _) rfl (by rfl) ?_ ?_
       rotate_left
       · (intro w'; go_simp; try rfl)
       simp only [List.getElem_toArray, List.getElem_cons_zero, List.getElem_cons_succ, Act.put, List.setIfInBounds_toArray, List.set_cons_zero, List.set_cons_succ])
    | (refine' wpPlan_held (v := _) rfl (by rfl) ?_ ?_
       rotate_left
       · (intro w' hS; obtain ⟨q1, _⟩ := box_facts hS; clear hS; go_simp; try rfl)
       simp only [List.getElem_toArray, List.getElem_cons_zero, List.getElem_cons_succ, Act.put, List.setIfInBounds_toArray, List.set_cons_zero, List.set_cons_succ])
    | (refine' wpPlan_skip rfl (by rfl) ?_
       simp only [List.getElem_toArray, List.getElem_cons_zero, List.getElem_cons_succ, Act.put, List.setIfInBounds_toArray, List.set_cons_zero, List.set_cons_succ])
    | (refine' wpPlan_skipHeld rfl (by rfl) ?_
       simp only [List.getElem_toArray, List.getElem_cons_zero, List.getElem_cons_succ, Act.put, List.setIfInBounds_toArray, List.set_cons_zero, List.set_cons_succ]))
  refine' wpPlan_kept rfl ?_
  intro K hK
  go_simp
  refine (x_put B2.net hk ⟨fa, fn, ta, tn, cutB bs⟩ _ hq).mono ?_
  rintro e w3 ⟨rfl, hp⟩
  obtain ⟨N3, B3⟩ := B2.netp hp
  have b3 := hp.1.heap b2 hN
  go_simp
  refine hK _ _ ⟨b3, ?_⟩
  clear hK K
  repeat (first
    | (refine' wpPlan_free (v := _) rfl (by rfl) ?_ ?_
       rotate_left
       · (intro w'; go_simp; try rfl)
       simp only [List.getElem_toArray, List.getElem_cons_zero, List.getElem_cons_succ, Act.put, List.setIfInBounds_toArray, List.set_cons_zero, List.set_cons_succ])
    | (refine' wpPlan_held (v := _) rfl (by rfl) ?_ ?_
       rotate_left
       · (intro w' hS; obtain ⟨q1, _⟩ := box_facts hS; clear hS; go_simp; try rfl)
       simp only [List.getElem_toArray, List.getElem_cons_zero, List.getElem_cons_succ, Act.put, List.setIfInBounds_toArray, List.set_cons_zero, List.set_cons_succ])
    | (refine' wpPlan_skip rfl (by rfl) ?_
       simp only [List.getElem_toArray, List.getElem_cons_zero, List.getElem_cons_succ, Act.put, List.setIfInBounds_toArray, List.set_cons_zero, List.set_cons_succ])
    | (refine' wpPlan_skipHeld rfl (by rfl) ?_
       simp only [List.getElem_toArray, List.getElem_cons_zero, List.getElem_cons_succ, Act.put, List.setIfInBounds_toArray, List.set_cons_zero, List.set_cons_succ]))
  refine' wpPlan_kept rfl ?_
  intro K hK
  go_simp
  refine (cut_any (hv.frame B3.fr (fun _ _ _ => id)) hl fa ta fn tn).mono ?_
  rintro e w4 ⟨ra, rc, rfl, hr, f4, _⟩
  go_simp
  have b4 := f4.heap b3 id
  refine hK _ _ ⟨b4, ?_⟩
  have B4 := B3.quiet f4
  clear hK K
  repeat (first
    | (refine' wpPlan_free (v := _) rfl (by rfl) ?_ ?_
       rotate_left
       · (intro w'; go_simp; try rfl)
       simp only [List.getElem_toArray, List.getElem_cons_zero, List.getElem_cons_succ, Act.put, List.setIfInBounds_toArray, List.set_cons_zero, List.set_cons_succ])
    | (refine' wpPlan_held (v := _) rfl (by rfl) ?_ ?_
       rotate_left
       · (intro w' hS; obtain ⟨q1, _⟩ := box_facts hS; clear hS; go_simp; try rfl)
       simp only [List.getElem_toArray, List.getElem_cons_zero, List.getElem_cons_succ, Act.put, List.setIfInBounds_toArray, List.set_cons_zero, List.set_cons_succ])
    | (refine' wpPlan_skip rfl (by rfl) ?_
       simp only [List.getElem_toArray, List.getElem_cons_zero, List.getElem_cons_succ, Act.put, List.setIfInBounds_toArray, List.set_cons_zero, List.set_cons_succ])
    | (refine' wpPlan_skipHeld rfl (by rfl) ?_
       simp only [List.getElem_toArray, List.getElem_cons_zero, List.getElem_cons_succ, Act.put, List.setIfInBounds_toArray, List.set_cons_zero, List.set_cons_succ]))
  refine' wpPlan_kept rfl ?_
  intro K hK
  go_simp
  refine (r_put B4.ref hk ⟨fa, fn, ta, tn, cutB bs⟩ _ hr).mono ?_
  rintro e w5 ⟨rfl, hp5⟩
  obtain ⟨R5, B5⟩ := B4.refp hp5
  have b5 := hp5.1.heap b4 hR
  go_simp
  refine hK _ _ ⟨b5, ?_⟩
  clear hK K
  generalize nPut st ⟨fa, fn, ta, tn, cutB bs⟩ = r at B5 ⊢
  repeat (first
    | (refine' wpPlan_free (v := _) rfl (by rfl) ?_ ?_
       rotate_left
       · (intro w'; go_simp; try rfl)
       simp only [List.getElem_toArray, List.getElem_cons_zero, List.getElem_cons_succ, Act.put, List.setIfInBounds_toArray, List.set_cons_zero, List.set_cons_succ])
    | (refine' wpPlan_held (v := _) rfl (by rfl) ?_ ?_
       rotate_left
       · (intro w' hS; obtain ⟨q1, _⟩ := box_facts hS; clear hS; go_simp; try rfl)
       simp only [List.getElem_toArray, List.getElem_cons_zero, List.getElem_cons_succ, Act.put, List.setIfInBounds_toArray, List.set_cons_zero, List.set_cons_succ])
    | (refine' wpPlan_skip rfl (by rfl) ?_
       simp only [List.getElem_toArray, List.getElem_cons_zero, List.getElem_cons_succ, Act.put, List.setIfInBounds_toArray, List.set_cons_zero, List.set_cons_succ])
    | (refine' wpPlan_skipHeld rfl (by rfl) ?_
       simp only [List.getElem_toArray, List.getElem_cons_zero, List.getElem_cons_succ, Act.put, List.setIfInBounds_toArray, List.set_cons_zero, List.set_cons_succ]))
  refine wpPlan_end ?_
  simp only [wpSegs, List.drop_succ_cons, List.drop_zero]
  go_wp2_with fail
  go_ret
  exact ⟨by trivial, (((fd.trans (f2.mono (fun _ _ => False.elim))).trans2 hp.1 (fun _ _ h => .inl h)).trans (f4.mono (fun _ _ => False.elim))).trans2 hp5.1 (fun _ _ h => .inr h), _, _, _, B5⟩
end
end Go.Proofs.Ytkmpmibjenodlaa
