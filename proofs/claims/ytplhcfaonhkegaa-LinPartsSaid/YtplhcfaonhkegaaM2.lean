/-
  Model: own, owned.
-/
import Derived.Test.YtplhcfaonhkegaaM1
namespace Go.Proofs.Ytplhcfaonhkegaa
open Go.RowKit Go.Maps

theorem item_at {S : Nat → Prop} {w : World} {a : Option Addr} {n c : Nat} {l : List MItem} (h : Sl kItem S w (.slice a n c) l) (i : Nat) (hi : i < l.length) :
    ∃ b o u, a = some ⟨b, o, none⟩ ∧ l.length ≤ c ∧ c ≤ maxLen ∧ w.cell? ⟨b, o + i * 2, none⟩ = some (.int .u64 l[i].1) ∧ w.cell? ⟨b, o + i * 2 + 1, none⟩ = some u ∧ Sl kByte S w u l[i].2 ∧ l[i].2.length ≤ reachBytes ∧
      0 ≤ l[i].1 ∧ l[i].1 ≤ 18446744073709551615 := by
  obtain ⟨b, o, cs, rfl, _, h1, h2, hr, hc⟩ := h.at i hi
  obtain ⟨u, rfl, hu, h3, h4, h5⟩ := item_cells hr
  exact ⟨b, o, u, rfl, h1, h2, hc 0 (by simp), hc 1 (by simp), hu, h3, h4, h5⟩

set_option maxHeartbeats 1000000 in
theorem own_any {w : World} {k : Int} {v : Value} {l : List UInt8} (h : Sl kByte All w v l) (hl : l.length ≤ reachBytes) :
    Calls Try.prog 105 #[.agg #[.int .u64 k, v]] w fun e w' =>
      ∃ a c, e = .returned (.agg #[.int .u64 k, .slice a l.length c]) ∧ Sl kByte (fun b => w.heap.size ≤ b) w' (.slice a l.length c) l ∧ Fr Non w w' := by
  obtain ⟨va, vc, rfl, _⟩ := h.frm
  go_enter Try.func105, Try.ntmps105
  go_wp2_with fail
  have f0 : Fr Non w ((w.alloc (.cells #[.int .u64 k, .slice va l.length vc] 60)).alloc (.cells #[.int .u64 0, .slice none 0 0] 60)) := ((Fr.refl _ _).alloc _).alloc _
  refine (clone_bytes (h.stay f0) hl).mono ?_
  rintro e w' ⟨a, c, rfl, g1, g2⟩
  obtain ⟨b1, f1⟩ := g2.box (alloc_at2 _ _ _) id
  obtain ⟨b2, f2⟩ := g2.box (alloc_at2' _ _ _) id
  have hz := g2.size
  simp only [World.size_alloc] at hz g1
  go_wp2_with fail
  refine bodyPost_ret (v := .agg #[.int .u64 k, .slice a l.length c]) (by simp [results, Try.results105, go_sem, b2]) rfl ⟨a, c, rfl, ?_, ?_⟩
  · refine Sl.mono (S := fun b => w.heap.size + 1 + 1 ≤ b) ?_ (fun b _ hb => by omega)
    refine g1.frame (T := fun b => b < w.heap.size + 2) ?_ (fun b _ hb => by omega)
    repeat (refine Fr.setCell ?_ (.inl (by simp)) _)
    exact Fr.refl _ _
  · have := f0.trans g2
    repeat (refine Fr.setCell ?_ (.inr (by simp)) _)
    exact this

/-- The same, with all within from a block on. -/
def BuildN {α : Type} (n : Nat) (k : Kd α) (e : TypeId) (w : World) (v : Value) (l : List α) : Prop :=
  ∃ cs, GRow w e k.sz v l.length cs ∧ Row k (fun b => v.ownBlock ≠ some b ∧ n ≤ b) w cs l
section
variable {α : Type} {k : Kd α} {e : TypeId} {n : Nat} {w w' : World} {v v' : Value} {l : List α}
theorem BuildN.nil (n : Nat) (k : Kd α) (e : TypeId) (w : World) : BuildN n k e w (.slice none 0 0) [] := ⟨[], GRow.nil _ _ _, rfl⟩
theorem BuildN.fr (h : BuildN n k e w v l) (f : Fr Non w w') : BuildN n k e w' v l := by
  obtain ⟨cs, g, hr⟩ := h
  exact ⟨cs, g.keep fun b hb => f.block b (g.lt b hb) id, hr.fr (fun b hb _ => f.block b hb id) (fun _ _ h => h)⟩
theorem BuildN.form (h : BuildN n k e w v l) : ∃ a c, v = .slice a l.length c := by
  obtain ⟨cs, g, _⟩ := h
  exact g.form
theorem BuildN.lt (h : BuildN n k e w v l) : ∀ b, v.ownBlock = some b → b < w.heap.size := by
  obtain ⟨cs, g, _⟩ := h
  exact g.lt
theorem BuildN.build (h : BuildN n k e w v l) : Build k e w v l := by
  obtain ⟨cs, g, hr⟩ := h
  exact ⟨cs, g, hr.fr (fun _ _ _ => rfl) (fun _ _ h => h.1)⟩
theorem BuildN.sl (h : BuildN n k e w v l) (hn : ∀ b, v.ownBlock = some b → n ≤ b) : Sl k (fun b => n ≤ b) w v l := by
  obtain ⟨cs, g, hr⟩ := h
  rcases id g.2 with ⟨rfl, h0⟩ | ⟨b, cap, cur, rfl, _, h1, h2, _⟩
  · exact .inl ⟨rfl, List.eq_nil_of_length_eq_zero h0⟩
  · refine .inr ⟨_, _, rfl, h1, h2, fun _ => ⟨rfl, hn b rfl⟩, ?_⟩
    have hr' : Row k (fun b => n ≤ b) w cs l := hr.fr (fun _ _ _ => rfl) (fun _ _ h => h.2)
    refine Elems.of_row hr' fun j u hu => ?_
    rw [Nat.zero_add]
    exact g.cells rfl j u hu
theorem BuildN.push {cs c : List Value} {x : α} (hr : Row k (fun b => v.ownBlock ≠ some b ∧ n ≤ b) w cs l) (hx : k.rd (fun b => v.ownBlock ≠ some b ∧ n ≤ b) w c x)
    (g : GRow w' e k.sz v' (l.length + 1) (cs ++ c)) (f : Fr (fun b => v.ownBlock = some b) w w')
    (hv : v'.ownBlock = v.ownBlock ∨ ∃ n, v'.ownBlock = some n ∧ w.heap.size ≤ n) : BuildN n k e w' v' (l ++ [x]) := by
  refine ⟨cs ++ c, by simpa using g, ?_⟩
  have h2 := hr.append (Row.single hx)
  refine h2.fr (fun b hb hs => f.block b hb hs.1) (fun b hb hs => ⟨?_, hs.2⟩)
  rcases hv with hv | ⟨n, hv, hn⟩
  · rw [hv]; exact hs.1
  · intro e
    rw [hv] at e
    have := Option.some.inj e
    omega
end

set_option maxRecDepth 100000 in
set_option maxHeartbeats 4000000 in
theorem owned_n {w : World} {v : Value} {l : List MItem} (h : Sl kItem All w v l) (hB : l.length * 32 ≤ reachBytes) :
    Calls Try.prog 70 #[v] w fun e w' => ∃ a c, e = .returned (.slice a l.length c) ∧ BuildN w.heap.size kItem 60 w' (.slice a l.length c) l ∧ Fr Non w w' ∧ ∀ b, (Value.slice a l.length c).ownBlock = some b → w.heap.size ≤ b := by
  have hr : reachBytes ≤ 140737488355328 := by decide
  obtain ⟨va, vc, rfl, hc, hm, _⟩ := h.frm
  unfold maxLen at hm
  have HS := Lib.hid h
  clear h
  go_enter Try.func70, Try.ntmps70
  go_wp2_with fail
  go_loopw [3, 8] (fun v i wr => ∃ (j : Nat), j ≤ l.length ∧ i = .int .i64 j ∧ Hid (BuildN w.heap.size kItem 60 wr v (l.take j) ∧ Fr Non w wr ∧ ∀ b, v.ownBlock = some b → w.heap.size ≤ b)) (fun _ i _ => l.length - (intOf i).toNat)
  case atStart => exact ⟨0, by omega, rfl, BuildN.nil _ _ _ _, Fr.refl _ _, by simp [Value.ownBlock]⟩
  case round =>
    obtain ⟨j, hj, rfl, HI⟩ := hrel
    by_cases hlt : j < l.length
    · have f1 := HI.out.2.1
      obtain ⟨B, O, u, rfl, _, _, c0, c1, hu, hul, _, _⟩ := item_at (HS.out.stay f1) j hlt
      have hx0 : 0 ≤ l[j].1 ∧ l[j].1 ≤ 18446744073709551615 := by
        obtain ⟨_, _, _, _, _, _, _, _, _, _, h1, h2⟩ := item_at (HS.out.stay f1) j hlt
        exact ⟨h1, h2⟩
      have HT := Lib.hid (show l.take (j + 1) = l.take j ++ [l[j]] from by rw [List.take_succ_eq_append_getElem hlt])
      have hlen : (l.take j).length = j := by rw [List.length_take]; omega
      generalize l[j] = x at c0 c1 hu hul hx0 HT
      obtain ⟨ua, uc, rfl, _⟩ := hu.frm
      have HX := Lib.hid hx0
      have HU := Lib.hid hu
      have j0 : (0 : Int) ≤ (j : Int) := by omega
      have j1 : (j : Int) < (l.length : Int) := by omega
      clear hu hx0
      go_wp2_with fail
      have f2 : Fr Non wr (wr.alloc (.cells #[.int .u64 x.1, .slice ua x.2.length uc] 60)) := (Fr.refl _ _).alloc _
      refine (own_any (HU.out.stay f2) hul).mono ?_
      rintro e w4 ⟨a4, c4, rfl, g4, f4⟩
      have f5 : Fr Non wr (w4.alloc (.cells #[.int .u64 x.1, .slice a4 x.2.length c4] 60)) := (f2.trans f4).alloc _
      obtain ⟨cs, g, hr5⟩ := HI.out.1.fr f5
      have g3 := HI.out.2.2
      have hlt3 := HI.out.1.lt
      rw [hlen] at g
      clear c0 c1
      go_wp2_with (at_builtin; refine wpList_append_g rfl _ _ eI60 rfl _ _ _ rfl g _ 1 [.int .u64 x.1, .slice a4 x.2.length c4] rfl (Src.block (m := 1) (alloc_at w4 _) rfl (by simp [Value.oneCell'])) ?k2 ?k3 ?_)
      case k2 => unfold maxLen; omega
      case k3 => omega
      intro v' w5 r1 r2 r3
      go_wp2_with fail
      go_roundw
      case rel =>
        refine ⟨j + 1, by omega, by go_num, ?_, ?_, ?_⟩
        · rw [HT.out]
          refine BuildN.push hr5 (cells_item (x := x) ((g4.stay ((Fr.refl _ _).alloc _)).mono fun b _ hb => ⟨fun hx => ?_, ?_⟩) hul HX.out.1 HX.out.2) (by rw [hlen]; exact r1) r2 (r3.imp id fun h => ⟨_, h.1, by simp⟩)
          · have := hlt3 b hx
            simp only [World.size_alloc] at hb
            omega
          · have := f1.size
            simp only [World.size_alloc] at hb
            omega
        · exact (f1.trans f5).trans2 r2 (fun b hb hx => by have := g3 b hx; omega)
        · intro b hb
          rcases r3 with r3 | ⟨r3, _⟩
          · exact g3 b (r3 ▸ hb)
          · rw [r3] at hb
            have e1 := Option.some.inj hb
            have := f1.size
            have h5 := f5.size
            simp only [World.size_alloc] at h5
            omega
      case measure => simp [intOf]; omega
    · obtain rfl : j = l.length := by omega
      obtain ⟨h1, h2, h3⟩ := HI.out
      rw [List.take_length] at h1
      obtain ⟨a1, c1, rfl⟩ := h1.form
      go_wp2_with fail
      go_ret
      exact ⟨a1, c1, rfl, h1, h2, h3⟩
theorem owned_any {w : World} {v : Value} {l : List MItem} (h : Sl kItem All w v l) (hB : l.length * 32 ≤ reachBytes) :
    Calls Try.prog 70 #[v] w fun e w' => ∃ a c, e = .returned (.slice a l.length c) ∧ Build kItem 60 w' (.slice a l.length c) l ∧ Sl kItem (fun b => w.heap.size ≤ b) w' (.slice a l.length c) l ∧ Fr Non w w' ∧ ∀ b, a = some b → w.heap.size ≤ b.block :=
  (owned_n h hB).mono fun e w' ⟨a, c, he, h1, h2, h3⟩ => ⟨a, c, he, h1.build, h1.sl h3, h2, fun b hb => h3 b.block (by simp [Value.ownBlock, hb])⟩
end Go.Proofs.Ytplhcfaonhkegaa
