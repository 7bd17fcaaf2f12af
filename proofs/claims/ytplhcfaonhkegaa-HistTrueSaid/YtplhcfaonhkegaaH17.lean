/-
  Kill: a key's peer is killed.
-/
import Derived.Test.YtplhcfaonhkegaaH16
namespace Go.Proofs.Ytplhcfaonhkegaa
open Go.RowKit Go.Maps

theorem hap_killed {S : Nat → Prop} {w : World} {key n : Int} {f : Bool} (h0 : 0 ≤ key) (h1 : key ≤ 18446744073709551615) (hn : (Lit.int .i64 n).wf = true) :
    kHap.rd S w ([.int .i64 2, .int .u64 key, .int .u64 0, .slice none 0 0] ++ (resCells (mErr 0) (.slice none 0 0) (.slice none 0 0) ++ [.int .i64 n, .int .i64 n, .bool false, .bool f])) ((2, key, 0, []), mErr 0, n, n, false, f) :=
  ⟨[_, _, _, _], _, rfl, ⟨[_], _, rfl, ⟨rfl, by show (Lit.int .i64 2).wf = true; decide⟩, [_], _, rfl, ⟨rfl, wf_u64.2 ⟨h0, h1⟩⟩, [_], _, rfl, ⟨rfl, by show (Lit.int .u64 0).wf = true; decide⟩, ⟨_, rfl, .inl ⟨rfl, rfl⟩, by simp⟩⟩,
    _, _, rfl, cells_res (by decide) (by simp) (.inl ⟨rfl, rfl⟩) (by simp) (.inl ⟨rfl, rfl⟩) (by simp), [_], _, rfl, ⟨rfl, hn⟩, [_], _, rfl, ⟨rfl, hn⟩, [_], _, rfl, rfl, rfl⟩

set_option maxRecDepth 100000 in
set_option maxHeartbeats 4000000 in
theorem kill_at {c : Nat → Nat} {k : Nat} (hk0 : k ≠ 0) {w : World} {hb : Nat} {s : MHist} (h : HistAt c k w hb s) (hok : HistOk s) (key : Int) (hkey : 0 ≤ key ∧ key ≤ 18446744073709551615) (sure : Bool) :
    Calls Try.prog 51 #[.pointer (some ⟨hb, 0, none⟩), .int .u64 key, .bool sure] w (CallEnd c k w hb (hKill s key sure)) := by
  obtain ⟨lv, ov, m, n, cs, h1, h2, h3, h4, h5, h6, h7, h8, h9, h10⟩ := id h
  have m1 := made_any h1
  obtain ⟨x0, z0⟩ := box_facts h1
  have e1 : w.cell? ⟨hb, 1, none⟩ = some (.int .i64 s.1) := by rw [x0]; rfl
  have HG := Lib.hid h1
  have HM := Lib.hid m1
  have HH := Lib.hid h
  have HOK := Lib.hid hok
  have HLEN := Lib.hid hok.len
  have HL := Lib.hid h2
  have HR := Lib.hid h3
  have HOV := Lib.hid h4
  have HMP := Lib.hid h5
  have HKEY := Lib.hid hkey
  clear x0 z0 h1 m1 h h2 h3 h4 h5 hok hkey
  by_cases hroom : s.1 < 65536
  rotate_left
  · have hcall : hKill s key sure = (3, s) := by unfold hKill; rw [if_pos (by omega)]
    have HC := Lib.hid hcall
    have hI : (65536 : Int) ≤ (s.1 : Int) := by omega
    clear hroom hcall
    go_enter Try.func51, Try.ntmps51
    go_wp2_with fail
    refine HM.out.mono ?_
    rintro e w' ⟨rfl, rfl⟩
    go_wp2_with fail
    go_ret
    rw [HC.out]
    exact CallEnd.same HH.out 3 (Fr.refl _ _)
  have hcall : hKill s key sure = (0, s.1 + 1, s.2 ++ [hKillNote key s.1 sure]) := by unfold hKill; rw [if_neg (by omega)]
  rw [hcall]
  clear hcall
  have hI : decide ((65536 : Int) ≤ (s.1 : Int)) = false := by simp; omega
  have HROOM := Lib.hid hroom
  clear hroom
  go_enter Try.func51, Try.ntmps51
  go_wp2_with fail
  refine HM.out.mono ?_
  rintro e w' ⟨rfl, rfl⟩
  go_wp2_with fail
  clear e1 hI HM
  refine (placeH_any HG.out (by omega) (by have := HROOM.out; omega)).mono ?_
  rintro e w1 ⟨rfl, g1, f1⟩
  obtain ⟨x0, z0⟩ := box_facts g1
  have e0 : w1.cell? ⟨hb, 0, none⟩ = some lv := by rw [x0]; rfl
  have HG1 := Lib.hid g1
  clear x0 z0 g1
  have HL1 := Lib.hid (HL.out.keep fun b hb1 => f1.block b (HL.out.lt b hb1) (fun e => by subst e; exact HL.out.ne HG.out (by decide) hb1))
  have hcnt : s.2.length ≤ 65536 := by have := HLEN.out; have := HROOM.out; omega
  go_wp2_with (at_builtin; refine wpList_append_g rfl _ _ eI76 rfl lv s.2.length cs rfl (HL1.out.keep fun b hb => ?k4) _ 1 [.int .i64 2, .int .u64 key, .int .u64 0, .slice none 0 0, .int .i64 0, .int .u64 0, .slice none 0 0, .slice none 0 0, .int .i64 0, .int .i64 0, .int .u64 0, .int .i64 0, .int .u64 0, .int .i64 0, .int .i64 0, .int .u64 0, .int .i64 0, .int .u64 0, .bool false, .int .i64 s.1, .int .i64 s.1, .bool false, .bool (!sure)] rfl (Src.block (m := 1) (alloc_at w1 _) rfl ?k5) ?k6 ?k7 ?_)
  case k4 => exact Below.heap_alloc _ _ _ (HL1.out.lt b hb)
  case k5 => simp [Value.oneCell']
  case k6 => unfold maxLen; omega
  case k7 => omega
  intro lv' w2 t1 t2 t3
  have f12 : Fr (fun b => lv.ownBlock = some b) w1 w2 := ((Fr.refl (fun b => lv.ownBlock = some b) w1).alloc _).trans2 t2 (fun _ _ h => h)
  have HG2 := Lib.hid (f12.heap HG1.out (fun h => HL1.out.ne HG1.out (by decide) h))
  have T1 := Lib.hid t1
  have T3 := Lib.hid t3
  have F12 := Lib.hid f12
  have F1 := Lib.hid f1
  obtain ⟨la, lc, rfl⟩ := t1.form
  clear t1 t2 t3 f12 f1 e0
  go_wp2_with (refine wpList_store_block rfl 71 _ _ rfl hb 0 rfl (.slice la (s.2.length + 1) lc) rfl #[lv, .int .i64 (s.1 + 1), .map (some m), ov] 95 HG2.out ?hfit ?hinf ?hone ?_)
  case hfit => simp [Value.cells]
  case hinf => kernel_rfl
  case hone => intro u hu; simp [Value.cells] at hu; subst hu; rfl
  intro w3 hbx f3
  replace hbx : w3.heap[hb]? = some (.cells #[.slice la (s.2.length + 1) lc, .int .i64 ((s.1 + 1 : Nat) : Int), .map (some m), ov] 95 (0, 0)) := by simpa [putAt, Value.cells] using hbx
  obtain ⟨lv', hlv'⟩ : ∃ v, Value.slice la (s.2.length + 1) lc = v := ⟨_, rfl⟩
  rw [hlv'] at T1 T3 hbx
  clear hlv'
  have HBX := Lib.hid hbx
  have F3 := Lib.hid f3
  clear hbx f3
  go_wp2_with fail
  go_ret
  have hbw := HH.out.lt
  have FT : Fr (fun b => c b = k ∧ b < w.heap.size) w w3 := (F1.out.mono fun b _ h => ⟨by rw [h]; exact h7, by rw [h]; exact hbw⟩).trans ((F12.out.mono fun b _ h => ⟨h9 b h, HL.out.lt b h⟩).trans (F3.out.mono fun b _ h => ⟨by rw [h]; exact h7, by rw [h]; exact hbw⟩))
  have FV : Fr (fun b => b = hb ∨ lv.ownBlock = some b) w w3 := (F1.out.mono fun b _ h => .inl h).trans ((F12.out.mono fun b _ h => .inr h).trans (F3.out.mono fun b _ h => .inl h))
  have sz1 := F1.out.size
  have ol : ∀ b, lv'.ownBlock = some b → (lv.ownBlock = some b) ∨ w.heap.size ≤ b := by
    intro b hb1
    rcases T3.out with h | ⟨h, _⟩
    · exact .inl (h ▸ hb1)
    · rw [h] at hb1; cases hb1; right; (try simp); omega
  have T9 := T1.out.keep (w' := w3) fun b hb1 => F3.out.block b (T1.out.lt b hb1) (fun e => by subst e; exact T1.out.ne HG2.out (by decide) hb1)
  have O9 := HOV.out.keep (w' := w3) fun b hb1 => FV.block b (HOV.out.lt b hb1) (by
    rintro (rfl | h)
    · exact HOV.out.ne HG.out (by decide) hb1
    · obtain ⟨cur, e⟩ := HL.out.own_cells b h
      exact HOV.out.ne e (by decide) hb1)
  have M9 := HMP.out.keep (FV.block m HMP.out.lt (by
    rintro (h | h)
    · exact HMP.out.ne HG.out h.symm
    · obtain ⟨cur, e⟩ := HL.out.own_cells m h
      exact HMP.out.ne e rfl))
  let c' : Nat → Nat := fun b => if b < w.heap.size then c b else if lv'.ownBlock = some b then k else 0
  have cold : ∀ b, b < w.heap.size → c' b = c b := fun b hb1 => if_pos hb1
  have knew : ∀ b, lv'.ownBlock = some b → c' b = k := by
    intro b hb1
    by_cases hl : b < w.heap.size
    · rw [cold b hl]
      rcases ol b hb1 with h | h
      · exact h9 b h
      · omega
    · show (if b < w.heap.size then c b else if lv'.ownBlock = some b then k else 0) = k
      rw [if_neg hl, if_pos hb1]
  have zold : Row kHap (fun b => c' b = 0) w3 cs (hAll s.2) := HR.out.fr (fun b hb1 hs => FT.block b hb1 (fun h => hk0 (h.1 ▸ hs))) (fun b hb1 hs => by rw [cold b hb1]; exact hs)
  have hL2 : (s.2 ++ [hKillNote key s.1 sure]).length = s.2.length + 1 := by simp
  have hO2 : hOpens (s.2 ++ [hKillNote key s.1 sure]) = hOpens s.2 := by rw [hOpens_append]; simp [hOpens, hKillNote]
  refine ⟨rfl, FT.mono (fun _ _ h => h.1), c', ⟨lv', ov, m, n, _, HBX.out, by rw [hL2]; exact T9, ?_, by rw [hO2]; exact O9, by rw [hMap_kill]; exact M9, by simp; omega, by rw [cold _ hbw]; exact h7, by rw [cold _ HMP.out.lt]; exact h8, knew, fun b h => by rw [cold _ (HOV.out.lt b h)]; exact h10 b h⟩, cold⟩
  rw [show hAll (s.2 ++ [hKillNote key s.1 sure]) = hAll s.2 ++ [((2, key, 0, []), mErr 0, (s.1 : Int), (s.1 : Int), false, !sure)] by simp [hAll, hKillNote]]
  exact zold.append (Row.single (hap_killed HKEY.out.1 HKEY.out.2 (wf_i64n (by have := HROOM.out; omega))))
end Go.Proofs.Ytplhcfaonhkegaa
