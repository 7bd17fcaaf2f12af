/-
  Rows of what happened: their cells; slices.IndexFunc and ContainsFunc over them.
-/
import Derived.Test.YtplhcfaonhkegaaH1
import Derived.Test.YtplhcfaonhkegaaM17
import Derived.Test.YtplhcfaonhkegaaH
namespace Go.Proofs.Ytplhcfaonhkegaa
open Go.RowKit Go.Maps

theorem hap_cells {S : Nat → Prop} {w : World} {cs : List Value} {x : MHap} (h : kHap.rd S w cs x) :
    ∃ a0 n0 a1 n1 a2 n2, cs = hapCells x (.slice a0 x.1.2.2.2.length n0) (.slice a1 x.2.1.2.2.1.length n1) (.slice a2 x.2.1.2.2.2.1.length n2) ∧
      Sl kByte S w (.slice a0 x.1.2.2.2.length n0) x.1.2.2.2 ∧ Sl kByte S w (.slice a1 x.2.1.2.2.1.length n1) x.2.1.2.2.1 ∧ Sl kItem S w (.slice a2 x.2.1.2.2.2.1.length n2) x.2.1.2.2.2.1 := by
  obtain ⟨_, _, rfl, h1, _, _, rfl, h2, _, _, rfl, ⟨rfl, _⟩, _, _, rfl, ⟨rfl, _⟩, _, _, rfl, rfl, rfl⟩ := h
  obtain ⟨u, rfl, hu, _⟩ := call_cells h1
  obtain ⟨v1, v2, rfl, hv1, _, hv2, _⟩ := res_cells h2
  obtain ⟨a0, n0, rfl, _⟩ := hu.frm
  obtain ⟨a1, n1, rfl, _⟩ := hv1.frm
  obtain ⟨a2, n2, rfl, _⟩ := hv2.frm
  refine ⟨a0, n0, a1, n1, a2, n2, ?_, hu, hv1, hv2⟩
  simp [hapCells]
theorem hap_at {S : Nat → Prop} {w : World} {a : Option Addr} {n c : Nat} {l : List MHap} (h : Sl kHap S w (.slice a n c) l) (i : Nat) (hi : i < l.length) :
    ∃ b o a0 n0 a1 n1 a2 n2, a = some ⟨b, o, none⟩ ∧ (∀ j v, (hapCells l[i] (.slice a0 l[i].1.2.2.2.length n0) (.slice a1 l[i].2.1.2.2.1.length n1) (.slice a2 l[i].2.1.2.2.2.1.length n2))[j]? = some v → w.cell? ⟨b, o + i * 23 + j, none⟩ = some v) ∧
      Sl kByte S w (.slice a0 l[i].1.2.2.2.length n0) l[i].1.2.2.2 ∧ Sl kByte S w (.slice a1 l[i].2.1.2.2.1.length n1) l[i].2.1.2.2.1 ∧ Sl kItem S w (.slice a2 l[i].2.1.2.2.2.1.length n2) l[i].2.1.2.2.2.1 := by
  obtain ⟨b, o, cs, rfl, _, _, _, hr, hc⟩ := h.at i hi
  obtain ⟨a0, n0, a1, n1, a2, n2, rfl, h0, h1, h2⟩ := hap_cells hr
  refine ⟨b, o, a0, n0, a1, n1, a2, n2, rfl, fun j v hv => ?_, h0, h1, h2⟩
  obtain ⟨hj, rfl⟩ := List.getElem?_eq_some_iff.1 hv
  exact hc j hj

/-- One of a row, loaded: a value that is it. -/
theorem hap_load {S : Nat → Prop} {w : World} {a : Option Addr} {n c : Nat} {l : List MHap} (h : Sl kHap S w (.slice a n c) l) (i : Nat) (hi : i < l.length) :
    ∃ b o v, a = some ⟨b, o, none⟩ ∧ HapV S w v l[i] ∧ (Instr.loadAt 76 (.pointer (some ⟨b, o + i * 23, none⟩))).run Try.prog w = .ok v w := by
  obtain ⟨b, o, a0, n0, a1, n1, a2, n2, rfl, hc, h0, h1, h2⟩ := hap_at h i hi
  refine ⟨b, o, _, rfl, ⟨a0, n0, a1, n1, a2, n2, rfl, h0, h1, h2⟩, ?_⟩
  exact run_loadAt_list _ _ Try.underlying76 rfl (by simp only [hapCells, resCells, refCells, List.cons_append, List.nil_append]; kernel_rfl) hc

/-- The first place at which it holds. -/
def firstAt (p : MHap → Bool) : Int → List MHap → Int
  | _, [] => -1
  | n, x :: l => if p x then n else firstAt p (n + 1) l
theorem firstAt_any (p : MHap → Bool) : ∀ (l : List MHap) (n : Int), 0 ≤ n → decide (0 ≤ firstAt p n l) = l.any p
  | [], n, _ => by simp [firstAt]
  | x :: l, n, hn => by
    rw [firstAt, List.any_cons]
    cases hx : p x with
    | true => simp [hn]
    | false => simpa using firstAt_any p l (n + 1) (by omega)

set_option maxRecDepth 100000 in
set_option maxHeartbeats 4000000 in
theorem indexHap_any {w : World} {u : Value} {l : List MHap} (hl : Sl kHap All w u l) (g : Nat) (q1 q2 : Value) (p : MHap → Bool) (eg : ∀ args w, (callFunc g args).run Try.prog w = .ok (.enter g args) w)
    (hg : ∀ (W : World) (v : Value) (x : MHap), Fr Non w W → x ∈ l → HapV All W v x → Calls Try.prog g #[v, q1, q2] W fun e w' => e = .returned (.bool (p x)) ∧ Fr Non W w') :
    Calls Try.prog 121 #[u, .func (.func g) #[] #[q1, q2]] w fun e w' => e = .returned (.int .i64 (firstAt p 0 l)) ∧ Fr Non w w' := by
  obtain ⟨va, vc, rfl, _, hx, _⟩ := hl.frm
  unfold maxLen at hx
  have HL := Lib.hid hl
  have HG := Lib.hid hg
  clear hl hg
  go_enter Try.func121, Try.ntmps121
  go_wp2_with fail
  go_loopw [8] (fun i wr => ∃ (j : Nat), j ≤ l.length ∧ i = .int .i64 j ∧ Hid (Fr Non w wr ∧ firstAt p 0 l = firstAt p j (l.drop j))) (fun i _ => l.length - (intOf i).toNat)
  case atStart => exact ⟨0, by omega, rfl, Fr.refl _ _, by simp⟩
  case round =>
    obtain ⟨j, hj, rfl, HI⟩ := hrel
    by_cases hlt : j < l.length
    · have f1 := HI.out.1
      obtain ⟨B, O, V, rfl, hV, hld⟩ := hap_load (HL.out.stay f1) j hlt
      have HD := Lib.hid (drop_at hlt)
      have hcall := HG.out wr V l[j] f1 (List.getElem_mem hlt) hV
      obtain ⟨x, hx⟩ : ∃ x, l[j] = x := ⟨_, rfl⟩
      rw [hx] at HD hcall
      clear hx hV
      obtain ⟨t, ht⟩ : ∃ t, p x = t := ⟨_, rfl⟩
      rw [ht] at hcall
      have HT := Lib.hid ht
      have HCALL := Lib.hid hcall
      have HLD := Lib.hid hld
      clear ht hcall hld
      have j0 : (0 : Int) ≤ (j : Int) := by omega
      have j1 : (j : Int) < (l.length : Int) := by omega
      go_wp2_with (refine wpList_load_v rfl 76 _ rfl _ rfl V HLD.out ?_)
      refine HCALL.out.mono ?_
      rintro e w4 ⟨rfl, f4⟩
      cases t with
      | true =>
        go_wp2_with fail
        go_ret
        exact ⟨by rw [HI.out.2, HD.out, firstAt, if_pos HT.out]; rfl, f1.trans f4⟩
      | false =>
        go_wp2_with fail
        go_roundw
        case rel => exact ⟨j + 1, by omega, by go_num, f1.trans f4, by rw [HI.out.2, HD.out, firstAt, if_neg (by rw [HT.out]; simp)]; rfl⟩
        case measure => simp [intOf]; omega
    · obtain rfl : j = l.length := by omega
      obtain ⟨h1, h2⟩ := HI.out
      go_wp2_with fail
      go_ret
      exact ⟨by rw [h2, List.drop_length, firstAt]; rfl, h1⟩

theorem containsHap_any {w : World} {u : Value} {l : List MHap} (hl : Sl kHap All w u l) (g : Nat) (q1 q2 : Value) (p : MHap → Bool) (eg : ∀ args w, (callFunc g args).run Try.prog w = .ok (.enter g args) w)
    (hg : ∀ (W : World) (v : Value) (x : MHap), Fr Non w W → x ∈ l → HapV All W v x → Calls Try.prog g #[v, q1, q2] W fun e w' => e = .returned (.bool (p x)) ∧ Fr Non W w') :
    Calls Try.prog 100 #[u, .func (.func g) #[] #[q1, q2]] w fun e w' => e = .returned (.bool (l.any p)) ∧ Fr Non w w' := by
  obtain ⟨va, vc, rfl, _, hx, _⟩ := hl.frm
  have h := indexHap_any hl g q1 q2 p eg hg
  have ha := firstAt_any p l 0 (Int.le_refl 0)
  obtain ⟨n, hn⟩ : ∃ n, firstAt p 0 l = n := ⟨_, rfl⟩
  rw [hn] at h ha
  rw [← ha]
  have H := Lib.hid h
  clear h ha hn hg
  go_enter Try.func100, Try.ntmps100
  go_wp2_with fail
  refine H.out.mono ?_
  rintro e w4 ⟨rfl, f4⟩
  go_wp2_with fail
  go_ret
  exact ⟨by trivial, f4⟩
end Go.Proofs.Ytplhcfaonhkegaa
