/-
  Model, the reference: insert, without, between.
-/
import Derived.Test.YtplhcfaonhkegaaM7
namespace Go.Proofs.Ytplhcfaonhkegaa
open Go.RowKit Go.Maps

/-- A slice of one's own whose data lie in certain blocks. -/
def BuildS {α : Type} (S : Nat → Prop) (k : Kd α) (e : TypeId) (w : World) (v : Value) (l : List α) : Prop :=
  ∃ cs, GRow w e k.sz v l.length cs ∧ Row k (fun b => v.ownBlock ≠ some b ∧ S b) w cs l
section
variable {α : Type} {k : Kd α} {e : TypeId} {S S' T : Nat → Prop} {w w' : World} {v : Value} {l : List α}
theorem BuildS.fr (h : BuildS S k e w v l) (f : Fr Non w w') : BuildS S k e w' v l := by
  obtain ⟨cs, g, hr⟩ := h
  exact ⟨cs, g.keep fun b hb => f.block b (g.lt b hb) id, hr.fr (fun b hb _ => f.block b hb id) (fun _ _ h => h)⟩
theorem BuildS.mono (h : BuildS S k e w v l) (hS : ∀ b, b < w.heap.size → S b → S' b) : BuildS S' k e w v l := by
  obtain ⟨cs, g, hr⟩ := h
  exact ⟨cs, g, hr.fr (fun _ _ _ => rfl) (fun b hb h => ⟨h.1, hS b hb h.2⟩)⟩
theorem BuildS.apart (h : BuildS S k e w v l) (f : Fr T w w') (h1 : ∀ b, v.ownBlock = some b → ¬ T b) (h2 : ∀ b, S b → ¬ T b) : BuildS S k e w' v l := by
  obtain ⟨cs, g, hr⟩ := h
  exact ⟨cs, g.keep fun b hb => f.block b (g.lt b hb) (h1 b hb), hr.fr (fun b hb hs => f.block b hb (h2 b hs.2)) (fun _ _ h => h)⟩
theorem BuildS.build (h : BuildS S k e w v l) : Build k e w v l := by
  obtain ⟨cs, g, hr⟩ := h
  exact ⟨cs, g, hr.fr (fun _ _ _ => rfl) (fun _ _ h => h.1)⟩
theorem Build.old (h : Build k e w v l) : BuildS (fun b => b < w.heap.size) k e w v l := by
  obtain ⟨cs, g, hr⟩ := h
  exact ⟨cs, g, hr.fr (fun _ _ _ => rfl) (fun b hb h => ⟨h, hb⟩)⟩
theorem BuildS.nil (S : Nat → Prop) (k : Kd α) (e : TypeId) (w : World) : BuildS S k e w (.slice none 0 0) [] := ⟨[], GRow.nil _ _ _, rfl⟩
theorem BuildS.form (h : BuildS S k e w v l) : ∃ a c, v = .slice a l.length c := h.build.form
theorem BuildS.lt (h : BuildS S k e w v l) : ∀ b, v.ownBlock = some b → b < w.heap.size := h.build.lt
theorem BuildS.slS (h : BuildS S k e w v l) (hS : ∀ b, S b → S' b) (hv : ∀ b, v.ownBlock = some b → S' b) : Sl k S' w v l := by
  obtain ⟨cs, g, hr⟩ := h
  rcases id g.2 with ⟨rfl, h0⟩ | ⟨b, cap, cur, rfl, _, h1, h2, _⟩
  · exact .inl ⟨rfl, List.eq_nil_of_length_eq_zero h0⟩
  · refine .inr ⟨_, _, rfl, h1, h2, fun _ => ⟨rfl, hv b rfl⟩, ?_⟩
    have hr' : Row k S' w cs l := hr.fr (fun _ _ _ => rfl) (fun b _ h => hS b h.2)
    refine Elems.of_row hr' fun j u hu => ?_
    rw [Nat.zero_add]
    exact g.cells rfl j u hu
theorem BuildS.push {v' : Value} {cs c : List Value} {x : α} (hr : Row k (fun b => v.ownBlock ≠ some b ∧ S b) w cs l) (hx : k.rd (fun b => v.ownBlock ≠ some b ∧ S b) w c x)
    (g : GRow w' e k.sz v' (l.length + 1) (cs ++ c)) (f : Fr (fun b => v.ownBlock = some b) w w')
    (hv : v'.ownBlock = v.ownBlock ∨ ∃ n, v'.ownBlock = some n ∧ w.heap.size ≤ n) : BuildS S k e w' v' (l ++ [x]) := by
  refine ⟨cs ++ c, by simpa using g, ?_⟩
  have h2 := hr.append (Row.single hx)
  refine h2.fr (fun b hb hs => f.block b hb hs.1) (fun b hb hs => ⟨?_, hs.2⟩)
  rcases hv with hv | ⟨n, hv, hn⟩
  · rw [hv]; exact hs.1
  · intro e
    rw [hv] at e
    have := Option.some.inj e
    omega
end

/-- An item more, out of what lay there. -/
theorem BuildS.item {S : Nat → Prop} {w0 wa w' : World} {v v' : Value} {l : List MItem} {cs : List Value} {x : MItem} {u : Value} (hr : Row kItem (fun b => v.ownBlock ≠ some b ∧ S b) wa cs l) (hu : Sl kByte S w0 u x.2) (hul : x.2.length ≤ reachBytes)
    (h0 : 0 ≤ x.1 ∧ x.1 ≤ 18446744073709551615) (f : Fr Non w0 wa) (hv : ∀ b, v.ownBlock = some b → w0.heap.size ≤ b) (r1 : GRow w' 60 2 v' (l.length + 1) (cs ++ [.int .u64 x.1, u]))
    (r2 : Fr (fun b => v.ownBlock = some b) wa w') (r3 : v'.ownBlock = v.ownBlock ∨ ∃ n, v'.ownBlock = some n ∧ wa.heap.size ≤ n) :
    BuildS S kItem 60 w' v' (l ++ [x]) ∧ Fr Non w0 w' ∧ ∀ b, v'.ownBlock = some b → w0.heap.size ≤ b := by
  have hu2 : Sl kByte (fun b => S b ∧ b < w0.heap.size) w0 u x.2 := hu.mono fun _ hb h => ⟨h, hb⟩
  refine ⟨BuildS.push hr (cells_item ((hu2.stay f).mono fun b _ hb => ⟨fun hx => ?_, hb.1⟩) hul h0.1 h0.2) r1 r2 r3, f.trans2 r2 (fun b hb hx => ?_), fun b hb => ?_⟩
  · have := hv b hx; have := hb.2; omega
  · have := hv b hx; omega
  · rcases r3 with r3 | ⟨n, r3, hn⟩
    · exact hv b (r3 ▸ hb)
    · have e1 := Option.some.inj (r3.symm.trans hb)
      have := f.size
      omega

theorem mOut_hit {x : MItem} {l : List MItem} : mOut x.1 (x :: l) = mOut x.1 l := by rw [mOut, if_pos rfl]
theorem mOut_next {k : Int} {x : MItem} {l : List MItem} (h : x.1 ≠ k) : mOut k (x :: l) = x :: mOut k l := by rw [mOut, if_neg h]
theorem mBet_no {a b : Int} {x : MItem} {l : List MItem} (h : ¬ (a ≤ x.1 ∧ x.1 ≤ b)) : mBetween a b (x :: l) = mBetween a b l := by rw [mBetween, if_neg h]
theorem mBet_yes {a b : Int} {x : MItem} {l : List MItem} (h : a ≤ x.1 ∧ x.1 ≤ b) : mBetween a b (x :: l) = x :: mBetween a b l := by rw [mBetween, if_pos h]
theorem mIns_put {x y : MItem} {l : List MItem} (h : x.1 < y.1) : mIns x false (y :: l) = x :: y :: mIns x true l := by
  have e : mIns x true l = l := by rw [mIns]
  rw [e, mIns, if_pos h]
theorem mIns_next {x y : MItem} {l : List MItem} (h : ¬ x.1 < y.1) : mIns x false (y :: l) = y :: mIns x false l := by rw [mIns, if_neg h]
theorem mIns_true {x y : MItem} {l : List MItem} : mIns x true (y :: l) = y :: mIns x true l := by rw [mIns, mIns]

set_option maxRecDepth 100000 in
set_option maxHeartbeats 4000000 in
theorem without_any {S : Nat → Prop} {w : World} {v : Value} {l : List MItem} (h : Sl kItem S w v l) (hB : l.length * 32 ≤ reachBytes) (k : Int) :
    Calls Try.prog 77 #[v, .int .u64 k] w fun e w' => ∃ a c, e = .returned (.slice a (mOut k l).length c) ∧ Sl kItem (fun b => S b ∨ w.heap.size ≤ b) w' (.slice a (mOut k l).length c) (mOut k l) ∧ Fr Non w w' := by
  have hr : reachBytes ≤ 140737488355328 := by decide
  obtain ⟨va, vc, rfl, _, hm, _⟩ := h.frm
  unfold maxLen at hm
  have HS := Lib.hid h
  clear h
  go_enter Try.func77, Try.ntmps77
  go_wp2_with fail
  go_loopw [5, 6] (fun v i wr => ∃ (j : Nat), j ≤ l.length ∧ i = .int .i64 j ∧ Hid (∃ out, mOut k l = out ++ mOut k (l.drop j) ∧ out.length ≤ j ∧ BuildS S kItem 60 wr v out ∧ Fr Non w wr ∧ ∀ b, v.ownBlock = some b → w.heap.size ≤ b)) (fun _ i _ => l.length - (intOf i).toNat)
  case atStart => exact ⟨0, by omega, rfl, [], by simp, by simp, BuildS.nil _ _ _ _, Fr.refl _ _, by simp [Value.ownBlock]⟩
  case round =>
    obtain ⟨j, hj, rfl, HI⟩ := hrel
    obtain ⟨out, ho, hol, hb, f1, hv⟩ := HI.out
    have HO := Lib.hid ho
    clear ho
    by_cases hlt : j < l.length
    · obtain ⟨B, O, u, rfl, _, _, c0, c1, hu, hul, k0, k1⟩ := item_at (HS.out.stay f1) j hlt
      obtain ⟨B', O', u', hBO, _, _, d0, d1, hu0, _, _, _⟩ := item_at HS.out j hlt
      cases hBO
      have huu : u' = u := Option.some.inj ((f1.cell d1 id).symm.trans c1)
      subst huu
      clear d0 d1
      have HD := Lib.hid (drop_at hlt)
      have hk0 := And.intro k0 k1
      obtain ⟨x, hx⟩ : ∃ x, l[j] = x := ⟨_, rfl⟩
      rw [hx] at c0 hu0 hul HD hk0
      clear hx hu k0 k1
      obtain ⟨ua, uc, rfl, _⟩ := hu0.frm
      have HU := Lib.hid hu0
      have HK := Lib.hid hk0
      have j0 : (0 : Int) ≤ (j : Int) := by omega
      have j1 : (j : Int) < (l.length : Int) := by omega
      clear hu0 hk0
      by_cases hk : x.1 = k
      · subst hk
        go_wp2_with fail
        go_roundw
        case rel => exact ⟨j + 1, by omega, by go_num, out, by rw [HO.out, HD.out, mOut_hit], by omega, hb, f1, hv⟩
        case measure => simp [intOf]; omega
      · have G1 : (x.1 == k) = false := by simpa using hk
        have G2 : (x.1 != k) = true := by simpa using hk
        obtain ⟨cs, g, hr5⟩ := hb.fr ((Fr.refl Non wr).alloc (.cells #[.int .u64 x.1, .slice ua x.2.length uc] 60))
        go_wp2_with (at_builtin; refine wpList_append_g rfl _ _ eI60 rfl _ _ _ rfl g _ 1 [.int .u64 x.1, .slice ua x.2.length uc] rfl (Src.block (m := 1) (alloc_at wr _) rfl (by simp [Value.oneCell'])) ?k2 ?k3 ?_)
        case k2 => unfold maxLen; omega
        case k3 => omega
        intro v' w5 r1 r2 r3
        go_wp2_with fail
        go_roundw
        case rel =>
          obtain ⟨hb2, f2, hv2⟩ := BuildS.item (w0 := w) hr5 HU.out hul HK.out (f1.alloc _) hv r1 r2 (r3.imp id fun h => ⟨_, h.1, by simp⟩)
          exact ⟨j + 1, by omega, by go_num, out ++ [x], by rw [HO.out, HD.out, mOut_next hk]; simp, by simp; omega, hb2, f2, hv2⟩
        case measure => simp [intOf]; omega
    · obtain rfl : j = l.length := by omega
      have ho := HO.out
      rw [List.drop_length, mOut, List.append_nil] at ho
      obtain ⟨a1, c1, rfl⟩ := hb.form
      have HO2 := Lib.hid ho
      clear ho
      go_wp2_with fail
      go_ret
      rw [HO2.out]
      exact ⟨a1, c1, by trivial, hb.slS (fun _ h => .inl h) (fun b h => .inr (hv b h)), f1⟩

set_option maxRecDepth 100000 in
set_option maxHeartbeats 4000000 in
theorem between_any {S : Nat → Prop} {w : World} {v : Value} {l : List MItem} (h : Sl kItem S w v l) (hB : l.length * 32 ≤ reachBytes) (k m : Int) :
    Calls Try.prog 109 #[v, .int .u64 k, .int .u64 m] w fun e w' => ∃ a c, e = .returned (.slice a (mBetween k m l).length c) ∧ Sl kItem (fun b => S b ∨ w.heap.size ≤ b) w' (.slice a (mBetween k m l).length c) (mBetween k m l) ∧ Fr Non w w' := by
  have hr : reachBytes ≤ 140737488355328 := by decide
  obtain ⟨va, vc, rfl, _, hm, _⟩ := h.frm
  unfold maxLen at hm
  have HS := Lib.hid h
  clear h
  go_enter Try.func109, Try.ntmps109
  go_wp2_with fail
  go_loopw [7, 8] (fun v i wr => ∃ (j : Nat), j ≤ l.length ∧ i = .int .i64 j ∧ Hid (∃ out, mBetween k m l = out ++ mBetween k m (l.drop j) ∧ out.length ≤ j ∧ BuildS S kItem 60 wr v out ∧ Fr Non w wr ∧ ∀ b, v.ownBlock = some b → w.heap.size ≤ b)) (fun _ i _ => l.length - (intOf i).toNat)
  case atStart => exact ⟨0, by omega, rfl, [], by simp, by simp, BuildS.nil _ _ _ _, Fr.refl _ _, by simp [Value.ownBlock]⟩
  case round =>
    obtain ⟨j, hj, rfl, HI⟩ := hrel
    obtain ⟨out, ho, hol, hb, f1, hv⟩ := HI.out
    have HO := Lib.hid ho
    clear ho
    by_cases hlt : j < l.length
    · obtain ⟨B, O, u, rfl, _, _, c0, c1, hu, hul, k0, k1⟩ := item_at (HS.out.stay f1) j hlt
      obtain ⟨B', O', u', hBO, _, _, d0, d1, hu0, _, _, _⟩ := item_at HS.out j hlt
      cases hBO
      have huu : u' = u := Option.some.inj ((f1.cell d1 id).symm.trans c1)
      subst huu
      clear d0 d1
      have HD := Lib.hid (drop_at hlt)
      have hk0 := And.intro k0 k1
      obtain ⟨x, hx⟩ : ∃ x, l[j] = x := ⟨_, rfl⟩
      rw [hx] at c0 hu0 hul HD hk0
      clear hx hu k0 k1
      obtain ⟨ua, uc, rfl, _⟩ := hu0.frm
      have HU := Lib.hid hu0
      have HK := Lib.hid hk0
      have j0 : (0 : Int) ≤ (j : Int) := by omega
      have j1 : (j : Int) < (l.length : Int) := by omega
      clear hu0 hk0
      by_cases hk : k ≤ x.1 ∧ x.1 ≤ m
      · have G1 := hk.1
        have G2 := hk.2
        have HKK := Lib.hid hk
        clear hk
        obtain ⟨cs, g, hr5⟩ := hb.fr ((Fr.refl Non wr).alloc (.cells #[.int .u64 x.1, .slice ua x.2.length uc] 60))
        go_wp2_with (at_builtin; refine wpList_append_g rfl _ _ eI60 rfl _ _ _ rfl g _ 1 [.int .u64 x.1, .slice ua x.2.length uc] rfl (Src.block (m := 1) (alloc_at wr _) rfl (by simp [Value.oneCell'])) ?k2 ?k3 ?_)
        case k2 => unfold maxLen; omega
        case k3 => omega
        intro v' w5 r1 r2 r3
        go_wp2_with fail
        go_roundw
        case rel =>
          obtain ⟨hb2, f2, hv2⟩ := BuildS.item (w0 := w) hr5 HU.out hul HK.out (f1.alloc _) hv r1 r2 (r3.imp id fun h => ⟨_, h.1, by simp⟩)
          exact ⟨j + 1, by omega, by go_num, out ++ [x], by rw [HO.out, HD.out, mBet_yes HKK.out]; simp, by simp; omega, hb2, f2, hv2⟩
        case measure => simp [intOf]; omega
      · have HKK := Lib.hid hk
        by_cases h1 : k ≤ x.1
        · have h2 : ¬ x.1 ≤ m := fun e => hk ⟨h1, e⟩
          clear hk
          go_wp2_with fail
          go_roundw
          case rel => exact ⟨j + 1, by omega, by go_num, out, by rw [HO.out, HD.out, mBet_no HKK.out], by omega, hb, f1, hv⟩
          case measure => simp [intOf]; omega
        · clear hk
          go_wp2_with fail
          go_roundw
          case rel => exact ⟨j + 1, by omega, by go_num, out, by rw [HO.out, HD.out, mBet_no HKK.out], by omega, hb, f1, hv⟩
          case measure => simp [intOf]; omega
    · obtain rfl : j = l.length := by omega
      have ho := HO.out
      rw [List.drop_length, mBetween, List.append_nil] at ho
      obtain ⟨a1, c1, rfl⟩ := hb.form
      have HO2 := Lib.hid ho
      clear ho
      go_wp2_with fail
      go_ret
      rw [HO2.out]
      exact ⟨a1, c1, by trivial, hb.slS (fun _ h => .inl h) (fun b h => .inr (hv b h)), f1⟩

set_option maxRecDepth 100000 in
set_option maxHeartbeats 4000000 in
theorem insert_any {S : Nat → Prop} {w : World} {v : Value} {l : List MItem} (h : Sl kItem S w v l) (hB : l.length * 32 ≤ reachBytes) (z : MItem) {zv : Value} (hz : Sl kByte S w zv z.2) (hzl : z.2.length ≤ reachBytes) (hzk : 0 ≤ z.1 ∧ z.1 ≤ 18446744073709551615) :
    Calls Try.prog 76 #[v, .agg #[.int .u64 z.1, zv]] w fun e w' => ∃ a c, e = .returned (.slice a (mIns z false l).length c) ∧ Sl kItem (fun b => S b ∨ w.heap.size ≤ b) w' (.slice a (mIns z false l).length c) (mIns z false l) ∧ Fr Non w w' := by
  have hr : reachBytes ≤ 140737488351232 := by decide
  obtain ⟨va, vc, rfl, _, hm, _⟩ := h.frm
  obtain ⟨za, zc, rfl, _⟩ := hz.frm
  unfold maxLen at hm
  have HS := Lib.hid h
  have HZ := Lib.hid hz
  have HZK := Lib.hid hzk
  clear h hz hzk
  have f0 : Fr Non w (w.alloc (.cells #[.int .u64 z.1, .slice za z.2.length zc] 60)) := (Fr.refl _ _).alloc _
  have hw0 : w.heap.size < (w.alloc (.cells #[.int .u64 z.1, .slice za z.2.length zc] 60)).heap.size := by simp
  have z0 := alloc_at w (.cells #[.int .u64 z.1, .slice za z.2.length zc] 60)
  go_enter Try.func76, Try.ntmps76
  go_wp2_with fail
  generalize w.alloc (.cells #[.int .u64 z.1, .slice za z.2.length zc] 60) = w1 at f0 z0 hw0 ⊢
  go_loopw [5, 6, 7] (fun v p i wr => ∃ (j : Nat) (put : Bool), j ≤ l.length ∧ p = .bool put ∧ i = .int .i64 j ∧ Hid (∃ out, mIns z false l = out ++ mIns z put (l.drop j) ∧ (out.length ≤ j + 1 ∧ (put = false → out.length ≤ j)) ∧ BuildS S kItem 60 wr v out ∧ Fr Non w1 wr ∧ ∀ b, v.ownBlock = some b → w1.heap.size ≤ b)) (fun _ _ i _ => l.length - (intOf i).toNat)
  case atStart => exact ⟨0, false, by omega, rfl, rfl, [], by simp, ⟨by simp, fun _ => by simp⟩, BuildS.nil _ _ _ _, Fr.refl _ _, by simp [Value.ownBlock]⟩
  case round =>
    obtain ⟨j, put, hj, rfl, rfl, HI⟩ := hrel
    obtain ⟨out, ho, ⟨hol, hol0⟩, hb, f1, hv⟩ := HI.out
    have HL0 := Lib.hid hol0
    clear hol0
    have HO := Lib.hid ho
    clear ho
    obtain ⟨q1, _⟩ := f1.box z0 id
    by_cases hlt : j < l.length
    · obtain ⟨B, O, u, rfl, _, _, c0, c1, hu, hul, k0, k1⟩ := item_at ((HS.out.stay f0).stay f1) j hlt
      obtain ⟨B', O', u', hBO, _, _, d0, d1, hu0, _, _, _⟩ := item_at (HS.out.stay f0) j hlt
      cases hBO
      have huu : u' = u := Option.some.inj ((f1.cell d1 id).symm.trans c1)
      subst huu
      clear d0 d1
      have HD := Lib.hid (drop_at hlt)
      have hk0 := And.intro k0 k1
      obtain ⟨x, hx⟩ : ∃ x, l[j] = x := ⟨_, rfl⟩
      rw [hx] at c0 hu0 hul HD hk0
      clear hx hu k0 k1
      obtain ⟨ua, uc, rfl, _⟩ := hu0.frm
      have HU := Lib.hid hu0
      have HK := Lib.hid hk0
      have j0 : (0 : Int) ≤ (j : Int) := by omega
      have j1 : (j : Int) < (l.length : Int) := by omega
      clear hu0 hk0
      have HC := Lib.hid (And.intro c0 (And.intro c1 q1))
      have fd : Fr Non wr wr.drew := (Fr.refl _ _).drew
      cases put with
      | true =>
        go_wp2_with fail
        refine wp_draw [((fun w' => w' = wr.drew), [(.free, 0), (.free, 1), (.free, 2), (.free, 3), (.free, 4), (.free, 5), (.free, 6), (.held, 7), (.free, 8), (.held, 9), (.free, 10), (.free, 11)])] 12 (by kernel_rfl) (by kernel_rfl) (fun _ _ _ _ _ h => h) ⟨rfl, ?_⟩
        repeat (first
          | (refine' wpPlan_free (v := _) rfl (by rfl) ?_ ?_
             rotate_left
             · (intro w'; go_simp; try rfl)
             simp only [List.getElem_toArray, List.getElem_cons_zero, List.getElem_cons_succ, Act.put, List.setIfInBounds_toArray, List.set_cons_zero, List.set_cons_succ])
          | (refine' wpPlan_held (v := _) rfl (by rfl) ?_ ?_
             rotate_left
             · (intro w' hS; subst hS; go_simp; try rfl)
             simp only [List.getElem_toArray, List.getElem_cons_zero, List.getElem_cons_succ, Act.put, List.setIfInBounds_toArray, List.set_cons_zero, List.set_cons_succ])
          | (refine' wpPlan_skip rfl (by rfl) ?_
             simp only [List.getElem_toArray, List.getElem_cons_zero, List.getElem_cons_succ, Act.put, List.setIfInBounds_toArray, List.set_cons_zero, List.set_cons_succ])
          | (refine' wpPlan_skipHeld rfl (by rfl) ?_
             simp only [List.getElem_toArray, List.getElem_cons_zero, List.getElem_cons_succ, Act.put, List.setIfInBounds_toArray, List.set_cons_zero, List.set_cons_succ]))
        repeat (first
          | (refine' wpPlan_free (v := _) rfl (by rfl) ?_ ?_
             rotate_left
             · (intro w'; go_simp; try rfl)
             simp only [List.getElem_toArray, List.getElem_cons_zero, List.getElem_cons_succ, Act.put, List.setIfInBounds_toArray, List.set_cons_zero, List.set_cons_succ])
          | (refine' wpPlan_held (v := _) rfl (by rfl) ?_ ?_
             rotate_left
             · (intro w' hS; go_simp; try rfl)
             simp only [List.getElem_toArray, List.getElem_cons_zero, List.getElem_cons_succ, Act.put, List.setIfInBounds_toArray, List.set_cons_zero, List.set_cons_succ])
          | (refine' wpPlan_skip rfl (by rfl) ?_
             simp only [List.getElem_toArray, List.getElem_cons_zero, List.getElem_cons_succ, Act.put, List.setIfInBounds_toArray, List.set_cons_zero, List.set_cons_succ])
          | (refine' wpPlan_skipHeld rfl (by rfl) ?_
             simp only [List.getElem_toArray, List.getElem_cons_zero, List.getElem_cons_succ, Act.put, List.setIfInBounds_toArray, List.set_cons_zero, List.set_cons_succ]))
        refine wpPlan_end ?_
        simp only [wpSegs, List.drop_succ_cons, List.drop_zero]
        have c0 := fd.cell HC.out.1 id
        have c1 := fd.cell HC.out.2.1 id
        obtain ⟨cs, g, hr5⟩ := (hb.fr fd).fr ((Fr.refl Non wr.drew).alloc (.cells #[.int .u64 x.1, .slice ua x.2.length uc] 60))
        have f2 := f1.trans fd
        clear fd q1
        generalize wr.drew = wd at c0 c1 g hr5 f2 ⊢
        go_wp2_with (at_builtin; refine wpList_append_g rfl _ _ eI60 rfl _ _ _ rfl g _ 1 [.int .u64 x.1, .slice ua x.2.length uc] rfl (Src.block (m := 1) (alloc_at wd _) rfl (by simp [Value.oneCell'])) ?k2 ?k3 ?_)
        case k2 => unfold maxLen; omega
        case k3 => omega
        intro v' w5 r1 r2 r3
        go_wp2_with fail
        go_roundw
        case rel =>
          obtain ⟨hb2, f3, hv2⟩ := BuildS.item (w0 := w1) hr5 HU.out hul HK.out (f2.alloc _) hv r1 r2 (r3.imp id fun h => ⟨_, h.1, by simp⟩)
          exact ⟨j + 1, true, by omega, rfl, by go_num, out ++ [x], by rw [HO.out, HD.out, mIns_true]; simp, ⟨by simp; omega, fun h => by cases h⟩, hb2, f3, hv2⟩
        case measure => simp [intOf]; omega
      | false =>
        by_cases hk : z.1 < x.1
        · have G1 := Lib.hid (decide_eq_true hk)
          go_wp2_with fail
          refine wp_draw [((fun w' => w' = wr.drew), [(.free, 0), (.free, 1), (.free, 2), (.free, 3), (.free, 4), (.free, 5), (.free, 6), (.held, 7), (.free, 8), (.held, 9), (.free, 10), (.free, 11)])] 12 (by kernel_rfl) (by kernel_rfl) (fun _ _ _ _ _ h => h) ⟨rfl, ?_⟩
          repeat (first
            | (refine' wpPlan_free (v := _) rfl (by rfl) ?_ ?_
               rotate_left
               · (intro w'; have g1 := G1.out; go_simp; try rfl)
               simp only [List.getElem_toArray, List.getElem_cons_zero, List.getElem_cons_succ, Act.put, List.setIfInBounds_toArray, List.set_cons_zero, List.set_cons_succ])
            | (refine' wpPlan_held (v := _) rfl (by rfl) ?_ ?_
               rotate_left
               · (intro w' hS; have g1 := G1.out; subst hS; go_simp; try rfl)
               simp only [List.getElem_toArray, List.getElem_cons_zero, List.getElem_cons_succ, Act.put, List.setIfInBounds_toArray, List.set_cons_zero, List.set_cons_succ])
            | (refine' wpPlan_skip rfl (by rfl) ?_
               simp only [List.getElem_toArray, List.getElem_cons_zero, List.getElem_cons_succ, Act.put, List.setIfInBounds_toArray, List.set_cons_zero, List.set_cons_succ])
            | (refine' wpPlan_skipHeld rfl (by rfl) ?_
               simp only [List.getElem_toArray, List.getElem_cons_zero, List.getElem_cons_succ, Act.put, List.setIfInBounds_toArray, List.set_cons_zero, List.set_cons_succ]))
          repeat (first
            | (refine' wpPlan_free (v := _) rfl (by rfl) ?_ ?_
               rotate_left
               · (intro w'; have g1 := G1.out; go_simp; try rfl)
               simp only [List.getElem_toArray, List.getElem_cons_zero, List.getElem_cons_succ, Act.put, List.setIfInBounds_toArray, List.set_cons_zero, List.set_cons_succ])
            | (refine' wpPlan_held (v := _) rfl (by rfl) ?_ ?_
               rotate_left
               · (intro w' hS; have g1 := G1.out; go_simp; try rfl)
               simp only [List.getElem_toArray, List.getElem_cons_zero, List.getElem_cons_succ, Act.put, List.setIfInBounds_toArray, List.set_cons_zero, List.set_cons_succ])
            | (refine' wpPlan_skip rfl (by rfl) ?_
               simp only [List.getElem_toArray, List.getElem_cons_zero, List.getElem_cons_succ, Act.put, List.setIfInBounds_toArray, List.set_cons_zero, List.set_cons_succ])
            | (refine' wpPlan_skipHeld rfl (by rfl) ?_
               simp only [List.getElem_toArray, List.getElem_cons_zero, List.getElem_cons_succ, Act.put, List.setIfInBounds_toArray, List.set_cons_zero, List.set_cons_succ]))
          refine wpPlan_end ?_
          simp only [wpSegs, List.drop_succ_cons, List.drop_zero]
          have q2 := (fd.box (f1.heap z0 id) id).1
          obtain ⟨cs, g, hr5⟩ := (hb.fr fd).fr ((Fr.refl Non wr.drew).alloc (.cells #[.int .u64 z.1, .slice za z.2.length zc] 60))
          have f2 := f1.trans fd
          clear q1 c0 c1
          have HC2 := Lib.hid (And.intro (fd.cell HC.out.1 id) (fd.cell HC.out.2.1 id))
          have hzd : wr.heap.size = wr.drew.heap.size := rfl
          generalize wr.drew = wd at q2 g hr5 f2 HC2 ⊢
          go_wp2_with (at_builtin; refine wpList_append_g rfl _ _ eI60 rfl _ _ _ rfl g _ 1 [.int .u64 z.1, .slice za z.2.length zc] rfl (Src.block (m := 1) (alloc_at wd _) rfl (by simp [Value.oneCell'])) ?k2 ?k3 ?_)
          case k2 => unfold maxLen; omega
          case k3 => omega
          intro v' w5 r1 r2 r3
          obtain ⟨hb2, f3, hv2⟩ := BuildS.item (w0 := w1) hr5 (HZ.out.stay f0) hzl HZK.out (f2.alloc _) hv r1 r2 (r3.imp id fun h => ⟨_, h.1, by simp⟩)
          have hB1 : B < w1.heap.size := World.block_lt_of_cell? w1 _ (by
            obtain ⟨_, _, _, hBO, _, _, d0, _⟩ := item_at (HS.out.stay f0) j hlt
            cases hBO
            exact d0)
          have f35 : ∀ b, b < w1.heap.size → w5.heap[b]? = wd.heap[b]? := fun b hb => (f3.block b hb id).trans (f2.block b hb id).symm
          have c0 : w5.cell? ⟨B, O + j * 2, none⟩ = some (.int .u64 x.1) := (World.cell?_of_block (w := wd) (f35 B hB1)).trans HC2.out.1
          have c1 : w5.cell? ⟨B, O + j * 2 + 1, none⟩ = some (.slice ua x.2.length uc) := (World.cell?_of_block (w := wd) (f35 B hB1)).trans HC2.out.2
          obtain ⟨cs6, g6, hr6⟩ := hb2.fr ((Fr.refl Non w5).alloc (.cells #[.int .u64 x.1, .slice ua x.2.length uc] 60))
          have hlen2 : (out ++ [z]).length ≤ j + 1 := by have := HL0.out (by trivial); simp; omega
          generalize hE : out ++ [z] = out2 at g6 hr6 hlen2 hb2
          have HE := Lib.hid hE
          clear hE
          go_wp2_with (at_builtin; refine wpList_append_g rfl _ _ eI60 rfl _ _ _ rfl g6 _ 1 [.int .u64 x.1, .slice ua x.2.length uc] rfl (Src.block (m := 1) (alloc_at w5 _) rfl (by simp [Value.oneCell'])) ?k5 ?k6 ?_)
          case k5 => unfold maxLen; omega
          case k6 => omega
          intro v7 w7 t1 t2 t3
          go_wp2_with fail
          go_roundw
          case rel =>
            obtain ⟨hb4, f4, hv4⟩ := BuildS.item (w0 := w1) hr6 HU.out hul HK.out (f3.alloc _) hv2 t1 t2 (t3.imp id fun h => ⟨_, h.1, by simp⟩)
            exact ⟨j + 1, true, by omega, rfl, by go_num, out2 ++ [x], by rw [HO.out, HD.out, mIns_put hk, ← HE.out]; simp, ⟨by simp; omega, fun h => by cases h⟩, hb4, f4, hv4⟩
          case measure => simp [intOf]; omega
        · have G1 := Lib.hid (decide_eq_false hk)
          go_wp2_with fail
          refine wp_draw [((fun w' => w' = wr.drew), [(.free, 0), (.free, 1), (.free, 2), (.free, 3), (.free, 4), (.free, 5), (.free, 6), (.held, 7), (.free, 8), (.held, 9), (.free, 10), (.free, 11)])] 12 (by kernel_rfl) (by kernel_rfl) (fun _ _ _ _ _ h => h) ⟨rfl, ?_⟩
          repeat (first
            | (refine' wpPlan_free (v := _) rfl (by rfl) ?_ ?_
               rotate_left
               · (intro w'; have g1 := G1.out; go_simp; try rfl)
               simp only [List.getElem_toArray, List.getElem_cons_zero, List.getElem_cons_succ, Act.put, List.setIfInBounds_toArray, List.set_cons_zero, List.set_cons_succ])
            | (refine' wpPlan_held (v := _) rfl (by rfl) ?_ ?_
               rotate_left
               · (intro w' hS; have g1 := G1.out; subst hS; go_simp; try rfl)
               simp only [List.getElem_toArray, List.getElem_cons_zero, List.getElem_cons_succ, Act.put, List.setIfInBounds_toArray, List.set_cons_zero, List.set_cons_succ])
            | (refine' wpPlan_skip rfl (by rfl) ?_
               simp only [List.getElem_toArray, List.getElem_cons_zero, List.getElem_cons_succ, Act.put, List.setIfInBounds_toArray, List.set_cons_zero, List.set_cons_succ])
            | (refine' wpPlan_skipHeld rfl (by rfl) ?_
               simp only [List.getElem_toArray, List.getElem_cons_zero, List.getElem_cons_succ, Act.put, List.setIfInBounds_toArray, List.set_cons_zero, List.set_cons_succ]))
          repeat (first
            | (refine' wpPlan_free (v := _) rfl (by rfl) ?_ ?_
               rotate_left
               · (intro w'; have g1 := G1.out; go_simp; try rfl)
               simp only [List.getElem_toArray, List.getElem_cons_zero, List.getElem_cons_succ, Act.put, List.setIfInBounds_toArray, List.set_cons_zero, List.set_cons_succ])
            | (refine' wpPlan_held (v := _) rfl (by rfl) ?_ ?_
               rotate_left
               · (intro w' hS; have g1 := G1.out; go_simp; try rfl)
               simp only [List.getElem_toArray, List.getElem_cons_zero, List.getElem_cons_succ, Act.put, List.setIfInBounds_toArray, List.set_cons_zero, List.set_cons_succ])
            | (refine' wpPlan_skip rfl (by rfl) ?_
               simp only [List.getElem_toArray, List.getElem_cons_zero, List.getElem_cons_succ, Act.put, List.setIfInBounds_toArray, List.set_cons_zero, List.set_cons_succ])
            | (refine' wpPlan_skipHeld rfl (by rfl) ?_
               simp only [List.getElem_toArray, List.getElem_cons_zero, List.getElem_cons_succ, Act.put, List.setIfInBounds_toArray, List.set_cons_zero, List.set_cons_succ]))
          refine wpPlan_end ?_
          simp only [wpSegs, List.drop_succ_cons, List.drop_zero]
          have c0 := fd.cell HC.out.1 id
          have c1 := fd.cell HC.out.2.1 id
          obtain ⟨cs, g, hr5⟩ := (hb.fr fd).fr ((Fr.refl Non wr.drew).alloc (.cells #[.int .u64 x.1, .slice ua x.2.length uc] 60))
          have f2 := f1.trans fd
          clear fd q1
          generalize wr.drew = wd at c0 c1 g hr5 f2 ⊢
          have g1 := G1.out
          go_wp2_with (at_builtin; refine wpList_append_g rfl _ _ eI60 rfl _ _ _ rfl g _ 1 [.int .u64 x.1, .slice ua x.2.length uc] rfl (Src.block (m := 1) (alloc_at wd _) rfl (by simp [Value.oneCell'])) ?k2 ?k3 ?_)
          case k2 => unfold maxLen; omega
          case k3 => omega
          intro v' w5 r1 r2 r3
          go_wp2_with fail
          go_roundw
          case rel =>
            obtain ⟨hb2, f3, hv2⟩ := BuildS.item (w0 := w1) hr5 HU.out hul HK.out (f2.alloc _) hv r1 r2 (r3.imp id fun h => ⟨_, h.1, by simp⟩)
            exact ⟨j + 1, false, by omega, rfl, by go_num, out ++ [x], by rw [HO.out, HD.out, mIns_next (by omega)]; simp, ⟨by simp; omega, fun _ => by have := HL0.out (by trivial); simp; omega⟩, hb2, f3, hv2⟩
          case measure => simp [intOf]; omega
    · obtain rfl : j = l.length := by omega
      cases put with
      | true =>
        have ho := HO.out
        rw [List.drop_length, mIns, List.append_nil] at ho
        obtain ⟨a1, c1, rfl⟩ := hb.form
        have HO2 := Lib.hid ho
        clear ho
        go_wp2_with fail
        go_ret
        rw [HO2.out]
        exact ⟨a1, c1, by trivial, hb.slS (fun _ h => .inl h) (fun b h => .inr (by have := hv b h; omega)), f0.trans f1⟩
      | false =>
        have HO2 := Lib.hid (show mIns z false l = out ++ [z] by have ho := HO.out; rw [List.drop_length, mIns] at ho; exact ho)
        obtain ⟨cs, g, hr5⟩ := hb.fr ((Fr.refl Non wr).alloc (.cells #[.int .u64 z.1, .slice za z.2.length zc] 60))
        go_wp2_with (at_builtin; refine wpList_append_g rfl _ _ eI60 rfl _ _ _ rfl g _ 1 [.int .u64 z.1, .slice za z.2.length zc] rfl (Src.block (m := 1) (alloc_at wr _) rfl (by simp [Value.oneCell'])) ?k2 ?k3 ?_)
        case k2 => unfold maxLen; omega
        case k3 => omega
        intro v' w5 r1 r2 r3
        obtain ⟨hb2, f3, hv2⟩ := BuildS.item (w0 := w1) hr5 (HZ.out.stay f0) hzl HZK.out (f1.alloc _) hv r1 r2 (r3.imp id fun h => ⟨_, h.1, by simp⟩)
        have hlen2 : (out ++ [z]).length = out.length + 1 := by simp
        obtain ⟨a1, c1, rfl⟩ := r1.form
        go_wp2_with fail
        go_ret
        rw [HO2.out]
        exact ⟨a1, c1, by rw [hlen2]; rfl, by rw [hlen2]; exact hb2.slS (fun _ h => .inl h) (fun b h => .inr (by have := hv2 b h; omega)), f0.trans f3⟩
end Go.Proofs.Ytplhcfaonhkegaa
