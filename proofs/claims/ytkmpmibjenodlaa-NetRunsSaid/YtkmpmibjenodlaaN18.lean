/-
  Net: the law's helper: cut.
-/
import Derived.Test.YtkmpmibjenodlaaN17
import Derived.Test.YtkmpmibjenodlaaR
namespace Go.Proofs.Ytkmpmibjenodlaa
open Go.RowKit Go.Maps

theorem sl_src {S : Nat → Prop} {w : World} {v : Value} {l : List UInt8} (h : Sl kByte S w v l) : Src w 1 v l.length (bcs l) := by
  refine ⟨by simp [bcs], fun u hu => by obtain ⟨x, _, rfl⟩ := List.mem_map.1 hu; rfl, ?_⟩
  rcases h with ⟨rfl, rfl⟩ | ⟨a, c, rfl, h1, h2, h3, h4⟩
  · exact .inl ⟨rfl, rfl⟩
  · refine .inr ⟨a, c, rfl, fun j u hu => ?_⟩
    have hj : j < l.length := by have := (List.getElem?_eq_some_iff.1 hu).1; simpa [bcs] using this
    obtain ⟨b, o, sp⟩ := a
    have hne : l ≠ [] := by intro e; subst e; simp at hj
    obtain ⟨hsp, _⟩ := h3 hne
    simp only at hsp
    subst hsp
    rw [addr_add']
    obtain ⟨cs, hr, hc⟩ := h4 j hj
    have hcs : cs = [Value.int .u8 (l[j].toNat : Int)] := hr
    subst hcs
    have h0 := hc 0 (by simp)
    have hsz : kByte.sz = 1 := rfl
    rw [hsz] at h0
    simp only [Nat.mul_one, Nat.add_zero, List.getElem_cons_zero] at h0
    rw [h0]
    simp [bcs, hj] at hu
    rw [hu]

def cutB (l : List UInt8) : List UInt8 := if 100 < l.length ∧ l.length ≤ 262144 then l.take 100 else l
theorem cutB_yes {l : List UInt8} (h : 100 < l.length ∧ l.length ≤ 262144) : cutB l = l.take 100 := if_pos h
theorem cutB_no {l : List UInt8} (h : ¬ (100 < l.length ∧ l.length ≤ 262144)) : cutB l = l := if_neg h

set_option maxRecDepth 100000 in
set_option maxHeartbeats 4000000 in
theorem cut_any {S : Nat → Prop} {w : World} {v : Value} {l : List UInt8} (h : Sl kByte S w v l) (hl : l.length ≤ maxLen) (fa ta : Bool) (fn tn : Int) :
    Calls Try.prog 9 #[.agg #[.bool fa, .int .i64 fn, .bool ta, .int .i64 tn, v]] w fun e w' =>
      ∃ a c, e = .returned (.agg #[.bool fa, .int .i64 fn, .bool ta, .int .i64 tn, .slice a (cutB l).length c]) ∧ Src w' 1 (.slice a (cutB l).length c) (cutB l).length (bcs (cutB l)) ∧ Fr Non w w' ∧
        ∀ x, a = some x → l = [] ∨ S x.block := by
  have hsrc := sl_src h
  obtain ⟨va, vc, hv⟩ := src_form hsrc
  subst hv
  unfold maxLen at hl
  have hS : ∀ x, va = some x → l = [] ∨ S x.block := by
    intro x hx
    subst hx
    rcases h with ⟨he, _⟩ | ⟨a, c, he, _, _, h3, _⟩
    · cases he
    · cases he
      by_cases hn : l = []
      · exact .inl hn
      · exact .inr (h3 hn).2
  by_cases hc : 100 < l.length ∧ l.length ≤ 262144
  · rcases h with ⟨_, rfl⟩ | ⟨a, c, he, h1, h2, h3, h4⟩
    · simp at hc
    · cases he
      have hne : l ≠ [] := by intro e; subst e; simp at hc
      obtain ⟨b, o, sp⟩ := a
      obtain ⟨hsp, hSb⟩ := h3 hne
      simp only at hsp
      subst hsp
      have c0 : (100 : Int) < (l.length : Int) := by omega
      have c1 : (l.length : Int) ≤ 262144 := by omega
      have c2 : (100 : Int) ≤ (vc : Int) := by omega
      unfold maxLen at h2
      have c3 : vc ≤ 2 ^ 63 - 1 := h2
      rw [cutB_yes hc]
      have ht : (l.take 100).length = 100 := by simp; omega
      rw [ht]
      have hs2 : Src w 1 (.slice (some ⟨b, o, none⟩) 100 vc) 100 (bcs (l.take 100)) := by
        refine ⟨by simp [bcs]; omega, fun u hu => hsrc.2.1 u ?_, .inr ⟨_, _, rfl, fun j u hu => ?_⟩⟩
        · obtain ⟨x, hx, rfl⟩ := List.mem_map.1 hu
          exact List.mem_map.2 ⟨x, List.mem_of_mem_take hx, rfl⟩
        · rcases hsrc.2.2 with ⟨he, _⟩ | ⟨ad, c', he, hcc⟩
          · cases he
          · cases he
            refine hcc j u ?_
            have hj : j < 100 := by have := (List.getElem?_eq_some_iff.1 hu).1; simp [bcs] at this; omega
            unfold bcs at hu ⊢
            rw [List.map_take, List.getElem?_take_of_lt hj] at hu
            exact hu
      go_enter Try.func9, Try.ntmps9
      go_wp2_with fail
      refine bodyPost_ret (v := .agg #[.bool fa, .int .i64 fn, .bool ta, .int .i64 tn, .slice (some ⟨b, o, none⟩) 100 vc]) (by simp [results, Try.results9, go_sem]) rfl ⟨_, _, rfl, (hs2.alloc _).alloc _, ((Fr.refl _ _).alloc _).alloc _, fun x hx => ?_⟩
      cases hx
      first | exact hSb | exact .inr hSb
  · rw [cutB_no hc]
    have f0 : Fr Non w ((w.alloc (.cells #[.bool fa, .int .i64 fn, .bool ta, .int .i64 tn, .slice va l.length vc] 30)).alloc (.cells #[.bool fa, .int .i64 fn, .bool ta, .int .i64 tn, .slice va l.length vc] 30)) := ((Fr.refl _ _).alloc _).alloc _
    by_cases h1 : 100 < l.length
    · have c0 : (100 : Int) < (l.length : Int) := by omega
      have c1 : ¬ (l.length : Int) ≤ 262144 := by omega
      go_enter Try.func9, Try.ntmps9
      go_wp2_with fail
      exact bodyPost_ret (v := .agg #[.bool fa, .int .i64 fn, .bool ta, .int .i64 tn, .slice va l.length vc]) (by simp [results, Try.results9, go_sem]) rfl ⟨_, _, rfl, (hsrc.alloc _).alloc _, f0, hS⟩
    · have c0 : ¬ (100 : Int) < (l.length : Int) := by omega
      go_enter Try.func9, Try.ntmps9
      go_wp2_with fail
      exact bodyPost_ret (v := .agg #[.bool fa, .int .i64 fn, .bool ta, .int .i64 tn, .slice va l.length vc]) (by simp [results, Try.results9, go_sem]) rfl ⟨_, _, rfl, (hsrc.alloc _).alloc _, f0, hS⟩
end Go.Proofs.Ytkmpmibjenodlaa
