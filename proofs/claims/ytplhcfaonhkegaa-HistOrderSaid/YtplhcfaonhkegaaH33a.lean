/-
  Drawn regions whose sets are handed over; HistOrder: the tests of one that happened, where another is ahead of it.
-/
import Derived.Test.YtplhcfaonhkegaaE
import Derived.Test.YtplhcfaonhkegaaH29
namespace Go.Proofs.Ytplhcfaonhkegaa
open Go

/-- As headOk, with the sets given. -/
def headOkL (ops : Array Oper) (Ls : Nat → Array Bool) (p : Plan) : Plan → Array Bool → Option (Array Bool)
  | [], listed => some listed
  | (.held, i) :: rest, listed => if (Region.ready .any ops listed).contains i && Region.free .any ops listed i && heldOk ops p i listed (Ls i) && decide (p.way i = .held) then headOkL ops Ls p rest (listed.setIfInBounds i true) else none
  | (.free, i) :: rest, listed => if (Region.ready .any ops listed).contains i && Region.free .any ops listed i && decide (p.way i = .free) then headOkL ops Ls p rest (listed.setIfInBounds i true) else none
  | (.kept, i) :: rest, listed => if Region.ready .any ops listed = [i] ∧ p.way i = .kept then headOkL ops Ls p rest (listed.setIfInBounds i true) else none
  | (.last, _) :: _, _ => none

section
variable {P : Program} {ops : Array Oper} {Q : Exit → Act → World → Prop} {S : World → Prop} {Ls : Nat → Array Bool}

theorem headOkL_size (p0 : Plan) : ∀ (p : Plan) (listed l : Array Bool), listed.size = ops.size → headOkL ops Ls p0 p listed = some l → l.size = ops.size
  | [], listed, l, hs, h => by simp only [headOkL, Option.some.injEq] at h; subst h; exact hs
  | (.held, i) :: rest, listed, l, hs, h => by
    simp only [headOkL] at h
    split at h
    · exact headOkL_size p0 rest _ l (by simpa using hs) h
    · cases h
  | (.free, i) :: rest, listed, l, hs, h => by
    simp only [headOkL] at h
    split at h
    · exact headOkL_size p0 rest _ l (by simpa using hs) h
    · cases h
  | (.kept, i) :: rest, listed, l, hs, h => by
    simp only [headOkL] at h
    split at h
    · exact headOkL_size p0 rest _ l (by simpa using hs) h
    · cases h
  | (.last, _) :: _, _, _, _, h => by simp [headOkL] at h

theorem wpX_planL {p0 : Plan} (hsel : Region.noSelect ops = true) (hQ : ∀ c (a : Act) (d : Nat) v w, Q (.panic c) { a with tmps := a.tmps.setIfInBounds d v } w → Q (.panic c) a w)
    {T : Act → World → Prop} {g : Nat} {last : Array Bool} (hT : ∀ a w, T a w → wpX P ops Q S p0.way g last a w) :
    ∀ (p : Plan) (listed : Array Bool) (a : Act) (w : World), listed.size = ops.size → headOkL ops Ls p0 p listed = some last → S w → wpPlan P ops Q S T p a w → wpX P ops Q S p0.way (p.length + g) listed a w := by
  intro p
  induction p with
  | nil =>
    intro listed a w _ hl _ h
    simp only [headOkL, Option.some.injEq] at hl
    subst hl
    simpa using hT a w h
  | cons x rest ih =>
    intro listed a w hsz hl hS h
    obtain ⟨b, i⟩ := x
    rw [show ((b, i) :: rest).length + g = (rest.length + g) + 1 from by simp; omega]
    have hsz' : (listed.setIfInBounds i true).size = ops.size := by simpa using hsz
    cases b with
    | held =>
      simp only [headOkL] at hl
      split at hl
      · rename_i hc
        simp only [Bool.and_eq_true, decide_eq_true_eq] at hc
        obtain ⟨⟨⟨hc1, hc2⟩, hc3⟩, hc4⟩ := hc
        obtain ⟨o, v, ho, hy, hr⟩ := h
        have hh := heldOk_spec hsz hc3
        exact wpX_first ho (Region.noSelect_spec hsel) (fun c a w => put_panic hQ c a o.dst v w) (.inl ⟨hc4, rfl⟩) _ (fun _ => hh.1) _ listed a w (fun _ => hh.2) (Region.free_spec ho hc2) (by simpa using hc1) hy hS (ih _ _ _ hsz' hl hS hr)
      · cases hl
    | free =>
      simp only [headOkL] at hl
      split at hl
      · rename_i hc
        simp only [Bool.and_eq_true, decide_eq_true_eq] at hc
        obtain ⟨⟨hc1, hc2⟩, hc4⟩ := hc
        obtain ⟨o, v, ho, hy, hr⟩ := h
        exact wpX_first ho (Region.noSelect_spec hsel) (fun c a w => put_panic hQ c a o.dst v w) (.inr ⟨hc4, rfl⟩) #[] (fun h => by rw [hc4] at h; cases h) _ listed a w (fun h => by rw [hc4] at h; cases h) (Region.free_spec ho hc2) (by simpa using hc1) hy trivial (ih _ _ _ hsz' hl hS hr)
      · cases hl
    | kept =>
      simp only [headOkL] at hl
      split at hl
      · rename_i hc
        obtain ⟨hc, hc4⟩ := hc
        refine ⟨fun h0 => (by rw [h0] at hc; cases hc), fun j hj => ?_⟩
        rw [hc] at hj
        simp only [List.mem_singleton] at hj
        subst hj
        exact wpOp_mono (fun a' w' h' => ⟨fun _ => h'.1, fun h => (by rw [hc4] at h; cases h), ih _ _ _ hsz' hl h'.1 h'.2⟩) h
      · cases hl
    | last => simp [headOkL] at hl

/-- One part alone, with its sets. -/
def planOkL (ops : Array Oper) (Ls : Nat → Array Bool) (p : Plan) (n : Nat) : Bool :=
  Region.noSelect ops && decide (n ≤ ops.size) && decide (p.length = n) &&
  match headOkL ops Ls p p (Array.replicate ops.size false) with
  | some listed => (List.range ops.size).all (fun j => listed.getD j true || decide (p.way j = .last)) && Region.seqB .any ops (ops.size - n) n listed
  | none => false

theorem wp_drawL {id : Nat} {a : Act} {w : World} (S : World → Prop) (p : Plan) (n : Nat) (Ls : Nat → Array Bool) (hm : P.follows .mixedOrders = true) (hok : planOkL ops Ls p n = true)
    (hQ : ∀ c (a : Act) (d : Nat) v w, Q (.panic c) { a with tmps := a.tmps.setIfInBounds d v } w → Q (.panic c) a w)
    (h : S w.drew ∧ wpPlan P ops Q S (wpSegsX P ops Q n []) p a w.drew) : (Code.region id ops true).wp P Q a w := by
  unfold planOkL at hok
  simp only [Bool.and_eq_true, decide_eq_true_eq] at hok
  obtain ⟨⟨⟨hsel, hn⟩, hlen⟩, hrest⟩ := hok
  split at hrest
  · rename_i l hl
    simp only [Bool.and_eq_true] at hrest
    obtain ⟨hall, hseq⟩ := hrest
    have hlsz : l.size = ops.size := headOkL_size p p _ l (by simp) hl
    have hlast : ∀ j, l.getD j true = false → p.way j = .last := fun j hj => by
      have hjlt : j < ops.size := by
        rw [← hlsz]
        rcases Nat.lt_or_ge j l.size with h' | h'
        · exact h'
        · simp [Array.getElem?_eq_none h'] at hj
      have := List.all_eq_true.1 hall j (List.mem_range.2 hjlt)
      simpa [hj] using this
    refine wp_region_any hm ?_
    have hT : ∀ a w, wpSegsX P ops Q n [] a w → wpX P ops Q S p.way (segsLen [] + (ops.size - n)) l a w := fun a w hh =>
      wpX_segsX hsel hn hQ [] [] l l S p.way a w hlsz rfl hseq hlast hh
    have h1 := wpX_planL (P := P) (S := S) (Ls := Ls) hsel hQ hT p (Array.replicate ops.size false) a w.drew (by simp) hl h.1 h.2
    rw [show p.length + (segsLen [] + (ops.size - n)) = ops.size from by simp only [segsLen]; omega] at h1
    exact wpAny_of_X _ _ _ _ h1
  · cases hrest
end
#print axioms wp_drawL
end Go.Proofs.Ytplhcfaonhkegaa

namespace Go.Proofs.Ytplhcfaonhkegaa
open Go.RowKit Go.Maps

/-- The region of a number, out of a function's code. -/
def regionOf (n : Nat) : Code → Option Code
  | .region id ops d => if id = n then some (.region id ops d) else none
  | .seq a b => match regionOf n a with
    | some c => some c
    | none => regionOf n b
  | .loop c => regionOf n c
  | .block _ c => regionOf n c
  | .cond _ a b => match regionOf n a with
    | some c => some c
    | none => regionOf n b
  | _ => none
noncomputable def code25 : Code := ((Try.f10.body.bind (regionOf 25)).getD .skip)

set_option maxRecDepth 1000000 in
set_option maxHeartbeats 4000000 in
theorem r25_pt {wr wc : World} {B O M j p n vn : Nat} {F T : Int} (j0 : (0 : Int) ≤ (j : Int)) (j1 : (j : Int) < (n : Int))
    (Q : Hid (wr.cell? ⟨B, O + j * 23 + 19, none⟩ = some (.int .i64 F) ∧ wr.cell? ⟨B, O + j * 23 + 20, none⟩ = some (.int .i64 T) ∧ wr.cell? ⟨B, O + j * 23 + 21, none⟩ = some (.bool true)))
    (HLK : Hid (∀ y, Fr Non wr y → (Instr.lookup 81 (.map (some M)) (.int .i64 F) false).run Try.prog y = .ok (.bool false) y)) (fd : Fr Non wr wc.drew) (g1 : decide ((p : Int) ≤ F) = false) (g2 : decide ((p : Int) ≤ T) = false)
    {m : Nat} {y : Int} (QP : Hid (wr.cell? ⟨B, O + m * 23 + 19, none⟩ = some (.int .i64 y))) (g0 : decide (F ≤ y) = false) (_ : (0 : Int) < (j : Int)) (W1 : IntKind.i64.wrap ((j : Int) - 1) = (m : Int)) (m0 : (0 : Int) ≤ (m : Int)) (m1 : (m : Int) < (n : Int)) (gd : decide (0 < j) = true)
    (c0 c1 c2 c3 c5 c6 c7 c11 c12 c13 c14 c15 c16 c17 c18 c19 c20 c21 c22 c23 c24 c25 c26 c27 c28 c29 c30 c31 c32 c33 c34 c35 c36 c37 c38 c39 c40 c41 c42 c43 c44 c45 c46 c47 c48 c49 c50 c51 c52 c53 c54 c55 c56 c57 c58 c59 c60 c61 c62 c63 c64 c65 c66 c67 c68 c69 c70 c71 c72 c73 c74 c75 c76 c77 c78 c79 c80 c81 c82 c83 c84 c85 c86 c87 c88 c89 c90 c91 c92 c93 c94 c95 c96 c97 c98 c99 c100 c101 c102 c103 c104 c105 c106 c107 c108 c109 c110 c111 c112 c113 c114 c115 c116 c117 c118 c119 c120 c121 c122 c123 c124 c125 c126 c127 c128 c129 c130 c131 c132 c133 c134 c135 c136 c137 c138 c139 c140 c141 c142 c143 c144 c145 c146 c147 c148 c149 c150 c151 c152 c153 c154 c155 c156 c157 c158 c159 c160 c161 c162 c163 c164 c165 c166 c167 c168 c169 c170 c171 c172 c173 c174 c175 c176 c177 c178 c179 c180 c181 c182 c183 c184 c185 c186 c187 c188 c189 c190 c191 c192 c193 c194 : Value) (K : Act → World → Prop) (Q0 : Exit → Act → World → Prop) (hQ : ∀ c (a : Act) (d : Nat) v w, Q0 (.panic c) { a with tmps := a.tmps.setIfInBounds d v } w → Q0 (.panic c) a w)
    (hK : ∀ (u90 u91 u92 u93 u94 u95 u96 u97 u98 u99 u100 u101 u102 u103 u104 u105 u106 u107 u108 u109 u110 u111 u112 u113 u114 u115 u116 u117 u118 u119 u120 u121 u122 u123 u124 u125 u126 u127 u128 u129 u130 u131 u132 u133 u134 u135 u136 u137 u138 u139 u140 u141 u142 u143 u144 u145 u146 u147 u148 u149 u150 u151 u152 u153 u154 u155 u156 : Value) (wx : World), Fr Non wr wx → K ⟨#[c0, c1, c2, c3, .int .i64 p, c5, c6, c7, .slice (some ⟨B, O, none⟩) n vn, .map (some M), .int .i64 j, c11, c12, c13, c14, c15, c16, c17, c18, c19, c20, c21, c22, c23, c24, c25, c26, c27, c28, c29, c30, c31, c32, c33, c34, c35, c36, c37, c38, c39, c40, c41, c42, c43, c44, c45, c46, c47, c48, c49, c50, c51, c52, c53, c54, c55, c56, c57, c58, c59, c60, c61, c62, c63, c64, c65, c66, c67, c68, c69, c70, c71, c72, c73, c74, c75, c76, c77, c78, c79, c80, c81, c82, c83, c84, c85, c86, c87, c88, c89, u90, u91, u92, u93, u94, u95, u96, u97, u98, u99, u100, u101, u102, u103, u104, u105, u106, u107, u108, u109, u110, u111, u112, u113, u114, u115, u116, u117, u118, u119, u120, u121, u122, u123, u124, u125, u126, u127, u128, u129, u130, u131, u132, u133, u134, u135, u136, u137, u138, u139, u140, u141, u142, u143, u144, u145, u146, u147, u148, u149, u150, u151, u152, u153, u154, u155, u156, .bool false, c158, c159, c160, c161, c162, c163, c164, c165, c166, c167, c168, c169, c170, c171, c172, c173, c174, c175, c176, c177, c178, c179, c180, c181, c182, c183, c184, c185, c186, c187, c188, c189, c190, c191, c192, c193, c194], []⟩ wx) :
    Code.wp Try.prog code25 (Exit.then K Q0) ⟨#[c0, c1, c2, c3, .int .i64 p, c5, c6, c7, .slice (some ⟨B, O, none⟩) n vn, .map (some M), .int .i64 j, c11, c12, c13, c14, c15, c16, c17, c18, c19, c20, c21, c22, c23, c24, c25, c26, c27, c28, c29, c30, c31, c32, c33, c34, c35, c36, c37, c38, c39, c40, c41, c42, c43, c44, c45, c46, c47, c48, c49, c50, c51, c52, c53, c54, c55, c56, c57, c58, c59, c60, c61, c62, c63, c64, c65, c66, c67, c68, c69, c70, c71, c72, c73, c74, c75, c76, c77, c78, c79, c80, c81, c82, c83, c84, c85, c86, c87, c88, c89, c90, c91, c92, c93, c94, c95, c96, c97, c98, c99, c100, c101, c102, c103, c104, c105, c106, c107, c108, c109, c110, c111, c112, c113, c114, c115, c116, c117, c118, c119, c120, c121, c122, c123, c124, c125, c126, c127, c128, c129, c130, c131, c132, c133, c134, c135, c136, c137, c138, c139, c140, c141, c142, c143, c144, c145, c146, c147, c148, c149, c150, c151, c152, c153, c154, c155, c156, c157, c158, c159, c160, c161, c162, c163, c164, c165, c166, c167, c168, c169, c170, c171, c172, c173, c174, c175, c176, c177, c178, c179, c180, c181, c182, c183, c184, c185, c186, c187, c188, c189, c190, c191, c192, c193, c194], []⟩ wc := by
  have HK := Lib.hid hK
  clear hK
  conv => arg 2; whnf
  go_wp2_with fail
  try simp only [List.append_eq, List.cons_append, List.nil_append]
  refine wp_drawL ((fun y => Fr Non wr y)) [(.free, 0), (.free, 1), (.free, 2), (.free, 3), (.free, 4), (.free, 5), (.free, 6), (.held, 7), (.free, 8), (.free, 9), (.free, 10), (.free, 11), (.free, 12), (.held, 13), (.free, 14), (.free, 15), (.free, 16), (.free, 17), (.free, 18), (.free, 19), (.free, 20), (.free, 21), (.held, 22), (.held, 23), (.free, 24), (.free, 25), (.free, 26), (.free, 27), (.free, 28), (.free, 29), (.held, 30), (.free, 31), (.free, 32), (.free, 33), (.free, 34), (.free, 35), (.free, 36), (.held, 37), (.free, 38), (.free, 39), (.free, 40), (.free, 41), (.held, 42), (.free, 43), (.free, 44), (.free, 45), (.free, 46), (.free, 47), (.free, 48), (.free, 49), (.free, 50), (.held, 51), (.free, 52), (.free, 53), (.free, 54), (.free, 55), (.free, 56), (.free, 57), (.free, 58), (.free, 59), (.held, 60), (.free, 61), (.free, 62), (.free, 63), (.free, 64), (.free, 65), (.free, 66), (.free, 67)] 68 (fun i => ([#[], #[], #[], #[], #[], #[], #[], #[true, true, true, true, true, true, true, false, true, true, true, true, true, true, false, false, false, false, false, false, false, false, false, false, false, false, false, false, false, false, false, false, false, false, false, false, false, false, false, false, false, false, false, false, false, false, false, false, false, false, false, false, false, false, false, false, false, false, false, false, false, false, false, false, false, false, false, false], #[], #[], #[], #[], #[], #[true, true, true, true, true, true, true, true, true, true, true, true, true, false, false, false, false, false, false, false, false, false, false, false, false, false, false, false, false, false, false, false, false, false, false, false, false, false, false, false, false, false, false, false, false, false, false, false, false, false, false, false, false, false, false, false, false, false, false, false, false, false, false, false, false, false, false, false], #[], #[], #[], #[], #[], #[], #[], #[], #[true, true, true, true, true, true, true, true, true, true, true, true, true, true, true, true, true, true, true, true, true, true, false, false, false, false, false, false, false, false, false, false, false, false, false, false, false, false, false, false, false, false, false, false, false, false, false, false, false, false, false, false, false, false, false, false, false, false, false, false, false, false, false, false, false, false, false, false], #[true, true, true, true, true, true, true, true, true, true, true, true, true, true, true, true, true, true, true, true, true, true, true, false, false, false, false, false, false, false, false, false, false, false, false, false, false, false, false, false, false, false, false, false, false, false, false, false, false, false, false, false, false, false, false, false, false, false, false, false, false, false, false, false, false, false, false, false], #[], #[], #[], #[], #[], #[], #[true, true, true, true, true, true, true, true, true, true, true, true, true, true, true, true, true, true, true, true, true, true, true, true, true, true, true, true, true, true, false, false, false, false, false, false, false, false, false, false, false, false, false, false, false, false, false, false, false, false, false, false, false, false, false, false, false, false, false, false, false, false, false, false, false, false, false, false], #[], #[], #[], #[], #[], #[], #[true, true, true, true, true, true, true, true, true, true, true, true, true, true, true, true, true, true, true, true, true, true, true, true, true, true, true, true, true, true, true, true, true, true, true, true, true, false, true, true, true, true, true, false, false, false, false, false, false, false, false, false, false, false, false, false, false, false, false, false, false, false, false, false, false, false, false, false], #[], #[], #[], #[], #[true, true, true, true, true, true, true, true, true, true, true, true, true, true, true, true, true, true, true, true, true, true, true, true, true, true, true, true, true, true, true, true, true, true, true, true, true, true, true, true, true, true, false, false, false, false, false, false, false, false, false, false, false, false, false, false, false, false, false, false, false, false, false, false, false, false, false, false], #[], #[], #[], #[], #[], #[], #[], #[], #[true, true, true, true, true, true, true, true, true, true, true, true, true, true, true, true, true, true, true, true, true, true, true, true, true, true, true, true, true, true, true, true, true, true, true, true, true, true, true, true, true, true, true, true, true, true, true, true, true, true, true, false, true, false, false, false, false, false, false, false, false, false, false, false, false, false, false, false], #[], #[], #[], #[], #[], #[], #[], #[], #[true, true, true, true, true, true, true, true, true, true, true, true, true, true, true, true, true, true, true, true, true, true, true, true, true, true, true, true, true, true, true, true, true, true, true, true, true, true, true, true, true, true, true, true, true, true, true, true, true, true, true, true, true, true, true, true, true, true, true, true, false, true, false, false, false, false, false, false], #[], #[], #[], #[], #[], #[], #[]] : List (Array Bool)).getD i #[]) (by kernel_rfl) (by kernel_rfl) (fun c a d v w h => hQ c a d v w h) ⟨fd, ?_⟩
  generalize wc.drew = wd at fd ⊢
  repeat (first
    | (refine' wpPlan_free (v := _) rfl (by rfl) ?_ ?_
       rotate_left
       · (intro w'; skip; go_simp; try rfl)
       simp only [List.getElem_toArray, List.getElem_cons_zero, List.getElem_cons_succ, Act.put, List.setIfInBounds_toArray, List.set_cons_zero, List.set_cons_succ])
    | (refine' wpPlan_held (v := _) rfl (by rfl) ?_ ?_
       rotate_left
       · (intro w' hS; skip; (have q19 := hS.cell Q.out.1 id; have q20 := hS.cell Q.out.2.1 id; have q21 := hS.cell Q.out.2.2 id; have qp := hS.cell QP.out id; have hlk := HLK.out w' hS; clear hS); go_simp; try rfl)
       simp only [List.getElem_toArray, List.getElem_cons_zero, List.getElem_cons_succ, Act.put, List.setIfInBounds_toArray, List.set_cons_zero, List.set_cons_succ])
    | (refine' wpPlan_skip rfl (by rfl) ?_
       simp only [List.getElem_toArray, List.getElem_cons_zero, List.getElem_cons_succ, Act.put, List.setIfInBounds_toArray, List.set_cons_zero, List.set_cons_succ])
    | (refine' wpPlan_skipHeld rfl (by rfl) ?_
       simp only [List.getElem_toArray, List.getElem_cons_zero, List.getElem_cons_succ, Act.put, List.setIfInBounds_toArray, List.set_cons_zero, List.set_cons_succ]))
  refine wpPlan_end ?_
  simp only [wpSegsX, List.drop_succ_cons, List.drop_zero]
  go_wp2_with fail
  exact HK.out _ _ _ _ _ _ _ _ _ _ _ _ _ _ _ _ _ _ _ _ _ _ _ _ _ _ _ _ _ _ _ _ _ _ _ _ _ _ _ _ _ _ _ _ _ _ _ _ _ _ _ _ _ _ _ _ _ _ _ _ _ _ _ _ _ _ _ wd fd

end Go.Proofs.Ytplhcfaonhkegaa
