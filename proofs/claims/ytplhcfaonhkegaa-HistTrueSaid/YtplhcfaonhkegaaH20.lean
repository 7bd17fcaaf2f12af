/-
  alive: a range that lacks a key.
-/
import Derived.Test.YtplhcfaonhkegaaH19
import Derived.Test.YtplhcfaonhkegaaH11
namespace Go.Proofs.Ytplhcfaonhkegaa
open Go.RowKit Go.Maps

def al1 : MCall := (1, 5, 0, [118])
def al2 : MCall := (5, 0, 9, [])
def als : MHist := (4, [(1, false, (al1, mErr 0, 0, 1, false, false)), (2, false, (al2, mErr 0, 2, 3, false, false))])
theorem als1 : hCall (0, []) 1 al1 = (0, 1, [hNote 1 al1 0]) := by rfl
theorem als2 : hReply (1, [hNote 1 al1 0]) 1 (mErr 0) = (0, 2, [(1, false, (al1, mErr 0, 0, 1, false, false))]) := by rfl
theorem als3 : hCall (2, [(1, false, (al1, mErr 0, 0, 1, false, false))]) 2 al2 = (0, 3, [(1, false, (al1, mErr 0, 0, 1, false, false)), hNote 2 al2 2]) := by rfl
theorem als4 : hReply (3, [(1, false, (al1, mErr 0, 0, 1, false, false)), hNote 2 al2 2]) 2 (mErr 0) = (0, als) := by rfl
theorem als_ranges : hRanges (hAll als.2) 0 (hAll als.2) = [1] := by decide
theorem als_points : (hPoints (hAll als.2)).length = 1 := by decide
/-- Colors: what is old as before, what is new of color 0. -/
def clr (w : World) (c : Nat → Nat) : Nat → Nat := fun b => if b < w.heap.size then c b else 0
theorem clr_old {w : World} {c : Nat → Nat} {b : Nat} (h : b < w.heap.size) : clr w c b = c b := if_pos h
theorem clr_new {w : World} {c : Nat → Nat} {b : Nat} (h : w.heap.size ≤ b) : clr w c b = 0 := if_neg (by omega)
theorem HistAt.clr {c : Nat → Nat} {k : Nat} {w w' : World} {hb : Nat} {s : MHist} (h : HistAt c k w hb s) (f : Fr Non w w') : HistAt (clr w c) k w' hb s := h.fr f (fun _ _ h => h.elim) (fun _ hb => clr_old hb)
/-- The bare result. -/
theorem rd_res0 {S : Nat → Prop} {w : World} : kRes.rd S w [.int .i64 0, .int .u64 0, .slice none 0 0, .slice none 0 0, .int .i64 0, .int .i64 0, .int .u64 0, .int .i64 0, .int .u64 0, .int .i64 0, .int .i64 0, .int .u64 0, .int .i64 0, .int .u64 0, .bool false] (mErr 0) :=
  cells_res (by decide) (by simp) (.inl ⟨rfl, rfl⟩) (by simp) (.inl ⟨rfl, rfl⟩) (by simp)
theorem rd_call {S : Nat → Prop} {w : World} {k key high : Int} {bs : List UInt8} {v : Value} (h1 : (Lit.int .i64 k).wf = true) (h2 : (Lit.int .u64 key).wf = true) (h3 : (Lit.int .u64 high).wf = true) (h : Sl kByte S w v bs) (hB : bs.length ≤ reachBytes) :
    kCall.rd S w [.int .i64 k, .int .u64 key, .int .u64 high, v] (k, key, high, bs) :=
  ⟨[_], _, rfl, ⟨rfl, h1⟩, [_], _, rfl, ⟨rfl, h2⟩, [_], _, rfl, ⟨rfl, h3⟩, ⟨v, rfl, h, by simpa using hB⟩⟩

/-- A history that the call has made: what was there at its beginning is of color 0. -/
def AtW (w wi : World) (hb : Nat) (s : MHist) : Prop := ∃ c, HistAt c 1 wi hb s ∧ Fr Non w wi ∧ ∀ b, b < w.heap.size → c b = 0
theorem AtW.fr {w wi wj : World} {hb : Nat} {s : MHist} (h : AtW w wi hb s) (f : Fr Non wi wj) : AtW w wj hb s := by
  obtain ⟨c, h1, h2, h3⟩ := h
  exact ⟨_, h1.clr f, h2.trans f, fun b hb => by rw [clr_old (Nat.lt_of_lt_of_le hb h2.size)]; exact h3 b hb⟩
theorem AtW.frame {w wi : World} {hb : Nat} {s : MHist} (h : AtW w wi hb s) : Fr Non w wi := by obtain ⟨_, _, h, _⟩ := h; exact h
theorem AtW.ends {w wi : World} {hb : Nat} {r : Int × MHist} {c : Nat → Nat} {e : Ending} {w' : World} (f : Fr Non w wi) (h0 : ∀ b, b < w.heap.size → c b = 0) (h : CallEnd c 1 wi hb r e w') : e = .returned (.int .i64 r.1) ∧ AtW w w' hb r.2 := by
  obtain ⟨h1, h2, c', h3, h4⟩ := h
  refine ⟨h1, c', h3, f.trans2 h2 (fun b hb e => by rw [h0 b hb] at e; cases e), fun b hb => by rw [h4 b (Nat.lt_of_lt_of_le hb f.size)]; exact h0 b hb⟩
theorem AtW.call {w wm wi : World} {hb : Nat} {s : MHist} (h : AtW w wm hb s) (f : Fr Non wm wi) (hok : HistOk s) (q : Int) (hid : (Lit.int .i64 q).wf = true) (x : MCall) (va : Option Addr) (vc : Nat)
    (hx : kCall.rd (fun b => b < w.heap.size ∨ wm.heap.size ≤ b) wi [.int .i64 x.1, .int .u64 x.2.1, .int .u64 x.2.2.1, .slice va x.2.2.2.length vc] x) :
    Calls Try.prog 45 #[.pointer (some ⟨hb, 0, none⟩), .int .i64 q, .agg #[.int .i64 x.1, .int .u64 x.2.1, .int .u64 x.2.2.1, .slice va x.2.2.2.length vc]] wi fun e w' => e = .returned (.int .i64 (hCall s q x).1) ∧ AtW w w' hb (hCall s q x).2 := by
  obtain ⟨c, h1, h2, h3⟩ := h
  have h0 : ∀ b, b < w.heap.size → clr wm c b = 0 := fun b hb => by rw [clr_old (Nat.lt_of_lt_of_le hb h2.size)]; exact h3 b hb
  refine (hcall_at (by decide) (h1.clr f) hok q hid x va vc (kCall.mono hx fun b _ hb => ?_)).mono fun e w' h => AtW.ends (h2.trans f) h0 h
  rcases hb with hb | hb
  · exact h0 b hb
  · exact clr_new hb
theorem AtW.reply {w wm wi : World} {hb : Nat} {s : MHist} (h : AtW w wm hb s) (f : Fr Non wm wi) (hok : HistOk s) (q : Int) (hid : (Lit.int .i64 q).wf = true) (r : MRes) (rcs : List Value)
    (hr : kRes.rd (fun b => b < w.heap.size ∨ wm.heap.size ≤ b) wi rcs r) :
    Calls Try.prog 46 #[.pointer (some ⟨hb, 0, none⟩), .int .i64 q, .agg rcs.toArray] wi fun e w' => e = .returned (.int .i64 (hReply s q r).1) ∧ AtW w w' hb (hReply s q r).2 := by
  obtain ⟨c, h1, h2, h3⟩ := h
  have h0 : ∀ b, b < w.heap.size → clr wm c b = 0 := fun b hb => by rw [clr_old (Nat.lt_of_lt_of_le hb h2.size)]; exact h3 b hb
  refine (reply_at (by decide) (h1.clr f) hok q hid r rcs (kRes.mono hr fun b _ hb => ?_)).mono fun e w' h => AtW.ends (h2.trans f) h0 h
  rcases hb with hb | hb
  · exact h0 b hb
  · exact clr_new hb
theorem AtW.kill {w wm wi : World} {hb : Nat} {s : MHist} (h : AtW w wm hb s) (f : Fr Non wm wi) (hok : HistOk s) (key : Int) (hkey : 0 ≤ key ∧ key ≤ 18446744073709551615) (sure : Bool) :
    Calls Try.prog 51 #[.pointer (some ⟨hb, 0, none⟩), .int .u64 key, .bool sure] wi fun e w' => e = .returned (.int .i64 (hKill s key sure).1) ∧ AtW w w' hb (hKill s key sure).2 := by
  obtain ⟨c, h1, h2, h3⟩ := h
  have h0 : ∀ b, b < w.heap.size → clr wm c b = 0 := fun b hb => by rw [clr_old (Nat.lt_of_lt_of_le hb h2.size)]; exact h3 b hb
  exact (kill_at (by decide) (h1.clr f) hok key hkey sure).mono fun e w' h => AtW.ends (h2.trans f) h0 h
theorem AtW.new (w : World) : Calls Try.prog 43 #[] w fun e w' => ∃ hb, e = .returned (.pointer (some ⟨hb, 0, none⟩)) ∧ AtW w w' hb (0, []) :=
  (new_any w 1 (fun _ => 0)).mono fun _ _ ⟨hb, h1, h2, _, c, h4, h5⟩ => ⟨hb, h1, c, h4, h2, h5⟩
theorem AtW.all {w wi : World} {hb : Nat} {s : MHist} (h : AtW w wi hb s) (hok : HistOk s) :
    Calls Try.prog 47 #[.pointer (some ⟨hb, 0, none⟩)] wi fun e w' => ∃ v, e = .returned v ∧ Build kHap 76 w' v (hAll s.2) ∧ Fr Non wi w' ∧ AtW w w' hb s := by
  obtain ⟨c, h1, _⟩ := id h
  exact (all_at h1 hok).mono fun e w' ⟨v, g1, g2, g3, _⟩ => ⟨v, g1, g2, g3, h.fr g3⟩
theorem AtW.opens {w wi : World} {hb : Nat} {s : MHist} (h : AtW w wi hb s) (hok : HistOk s) :
    Calls Try.prog 57 #[.pointer (some ⟨hb, 0, none⟩)] wi fun e w' => ∃ v, e = .returned v ∧ GRow w' 3 1 v (hOpens s.2).length (ints (hOpens s.2)) ∧ Fr Non wi w' ∧ AtW w w' hb s := by
  obtain ⟨c, h1, _⟩ := id h
  exact (open_at h1 hok).mono fun e w' ⟨v, g1, g2, g3⟩ => ⟨v, g1, g2, g3, h.fr g3⟩

set_option maxRecDepth 100000 in
set_option maxHeartbeats 4000000 in
theorem alive_any (w : World) : Calls Try.prog 50 #[] w fun e w' => e = .returned (.bool true) ∧ Fr Non w w' := by
  have kc := fun (w : World) (C : Array Value) (n c : Nat) => Lib.run_convert_bytes_const (P := Try.prog) w 37 5 C n c Try.underlying37 Try.underlying5
  go_enter Try.func50, Try.ntmps50
  go_wp2_with fail
  refine (AtW.new w).mono ?_
  rintro e w1 ⟨hb, rfl, h1⟩
  have H1 := Lib.hid h1
  clear h1
  go_wp2_with fail
  have hx1 : kCall.rd (fun b => b < w.heap.size ∨ w1.heap.size ≤ b) (w1.alloc (.cells #[.int .u8 118] 5 (1, 2))) [.int .i64 1, .int .u64 5, .int .u64 0, .slice (some ⟨w1.heap.size, 0, none⟩) 1 1] al1 :=
    rd_call (by decide) (by decide) (by decide) (.inr ⟨_, 1, rfl, by decide, by unfold maxLen; decide, fun _ => ⟨rfl, .inr (Nat.le_refl _)⟩, fun i hi => ⟨[.int .u8 118], by
      simp at hi; subst hi; rfl, fun j hj => by
      simp at hi hj; subst hi hj
      rw [cell_of_row _ w1.heap.size _ _ _ _ (alloc_at w1 _)]; rfl⟩⟩) (by decide)
  have HX1 := Lib.hid hx1
  clear hx1 kc
  refine (H1.out.call ((Fr.refl _ _).alloc _) HistOk.nil 1 (by decide) al1 (some ⟨w1.heap.size, 0, none⟩) 1 HX1.out).mono ?_
  rintro e w2 ⟨he, h2⟩
  have ok1 := HistOk.nil.call 1 al1
  rw [als1] at he h2 ok1
  subst he
  have H2 := Lib.hid h2
  have OK1 := Lib.hid ok1
  clear h2 ok1
  go_wp2_with fail
  refine (H2.out.reply (Fr.refl _ _) OK1.out 1 (by decide) (mErr 0) _ rd_res0).mono ?_
  rintro e w3 ⟨he, h3⟩
  have ok2 := OK1.out.reply 1 (mErr 0)
  rw [als2] at he h3 ok2
  subst he
  have H3 := Lib.hid h3
  have OK2 := Lib.hid ok2
  clear h3 ok2
  go_wp2_with fail
  refine (H3.out.call (Fr.refl _ _) OK2.out 2 (by decide) al2 none 0 (rd_call (by decide) (by decide) (by decide) (.inl ⟨rfl, rfl⟩) (by simp))).mono ?_
  rintro e w4 ⟨he, h4⟩
  have ok3 := OK2.out.call 2 al2
  rw [als3] at he h4 ok3
  subst he
  have H4 := Lib.hid h4
  have OK3 := Lib.hid ok3
  clear h4 ok3
  go_wp2_with fail
  refine (H4.out.reply (Fr.refl _ _) OK3.out 2 (by decide) (mErr 0) _ rd_res0).mono ?_
  rintro e w5 ⟨he, h5⟩
  have ok4 := OK3.out.reply 2 (mErr 0)
  rw [als4] at he h5 ok4
  subst he
  have H5 := Lib.hid h5
  have OK4 := Lib.hid ok4
  clear h5 ok4
  go_wp2_with fail
  refine (H5.out.all OK4.out).mono ?_
  rintro e w6 ⟨v6, rfl, hv6, f6, h6⟩
  have HV6 := Lib.hid hv6
  have H6 := Lib.hid h6
  obtain ⟨va, vn, rfl⟩ := hv6.form
  obtain ⟨L, hL⟩ : ∃ L, hAll als.2 = L := ⟨_, rfl⟩
  rw [hL] at HV6 ⊢
  have HL := Lib.hid hL
  clear hv6 h6 hL f6
  go_wp2_with fail
  refine (ranges_any HV6.out.sl (by rw [← HL.out]; decide) (by rw [← HL.out]; decide)).mono ?_
  rintro e w7 ⟨v7, rfl, hv7, f7, _⟩
  rw [show hRanges L 0 L = [1] by rw [← HL.out]; exact als_ranges] at hv7
  have hlen : L.length = 2 := by rw [← HL.out]; rfl
  rcases id hv7.2 with ⟨_, h0⟩ | ⟨g7, cap7, cur7, rfl, hg7, _, _, _, _⟩
  · cases h0
  have c7 : w7.cell? ⟨g7, 0, none⟩ = some (.int .i64 1) := hv7.cells (g := g7) rfl 0 _ rfl
  have B7 := HV6.out.fr f7
  obtain ⟨cs6, hg6, _⟩ := id B7
  rcases id hg6.2 with ⟨_, h0⟩ | ⟨g6, cap6, cur6, e6, _, _, _, _, _⟩
  · omega
  cases e6
  obtain ⟨c19, c20⟩ : w7.cell? ⟨g6, 42, none⟩ = some (.int .i64 2) ∧ w7.cell? ⟨g6, 43, none⟩ = some (.int .i64 3) := by
    obtain ⟨b, o, a0, n0, a1, n1, a2, n2, hbo, hcell, _⟩ := hap_at B7.sl 1 (by omega)
    cases hbo
    have hX : L[1]'(by omega) = (al2, mErr 0, 2, 3, false, false) := by
      have : ∀ (L : List MHap) (h : 1 < L.length), hAll als.2 = L → L[1] = (al2, mErr 0, 2, 3, false, false) := by
        rintro L h rfl; rfl
      exact this L _ HL.out
    exact ⟨hcell 19 _ (by rw [hX]; rfl), hcell 20 _ (by rw [hX]; rfl)⟩
  have HPT := Lib.hid (points_any B7.sl (by omega))
  have HB7 := Lib.hid B7
  have f67 := H6.out.frame.trans f7
  have HPL := Lib.hid (show (hPoints L).length = 1 by rw [← HL.out]; exact als_points)
  clear hv7 hg7 B7 hg6
  rw [hlen] at HPT ⊢
  have HLN := Lib.hid hlen
  clear hlen
  go_wp2_with fail
  refine HPT.out.mono ?_
  rintro e w8 ⟨v8, rfl, hv8, f8, _⟩
  obtain ⟨pa, pc, rfl⟩ := hv8.form
  rw [HPL.out]
  clear hv8
  go_wp2_with fail
  go_ret
  exact ⟨by trivial, f67.trans f8⟩
end Go.Proofs.Ytplhcfaonhkegaa
