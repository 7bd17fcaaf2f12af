/-
  cut: not more than is looked at.
-/
import Derived.Test.YtplhcfaonhkegaaH22
import Derived.Deep.DeepCutAuto
namespace Go.Proofs.Ytplhcfaonhkegaa
open Go.RowKit Go.Maps

def oC (x : MOp) : MOp := if 100 < x.2.2.1.2.2.2.length ∧ x.2.2.1.2.2.2.length ≤ 1024 then (x.1, x.2.1, (x.2.2.1.1, x.2.2.1.2.1, x.2.2.1.2.2.1, x.2.2.1.2.2.2.take 100), x.2.2.2) else x
def oR (x : MOp) : MOp := if 100 < x.2.2.2.1.2.2.1.length then (x.1, x.2.1, x.2.2.1, (x.2.2.2.1.1, x.2.2.2.1.2.1, x.2.2.2.1.2.2.1.take 100, x.2.2.2.1.2.2.2), x.2.2.2.2) else x
def oI (x : MOp) : MOp := if 20 < x.2.2.2.1.2.2.2.1.length then (x.1, x.2.1, x.2.2.1, (x.2.2.2.1.1, x.2.2.2.1.2.1, x.2.2.2.1.2.2.1, x.2.2.2.1.2.2.2.1.take 20, x.2.2.2.1.2.2.2.2), x.2.2.2.2) else x
def oCut (x : MOp) : MOp := oI (oR (oC x))

theorem res_put {S : Nat → Prop} {w : World} {rc : List Value} {r : MRes} (h : kRes.rd S w rc r) : ∃ u1 u2 tl, rc = .int .i64 r.1 :: .int .u64 r.2.1 :: u1 :: u2 :: tl ∧ Sl kByte S w u1 r.2.2.1 ∧ r.2.2.1.length ≤ reachBytes ∧ Sl kItem S w u2 r.2.2.2.1 ∧ r.2.2.2.1.length * 32 ≤ reachBytes ∧
    (∀ v1 v2 bs is, Sl kByte S w v1 bs → bs.length ≤ reachBytes → Sl kItem S w v2 is → is.length * 32 ≤ reachBytes → kRes.rd S w (.int .i64 r.1 :: .int .u64 r.2.1 :: v1 :: v2 :: tl) (r.1, r.2.1, bs, is, r.2.2.2.2)) := by
  obtain ⟨_, _, rfl, ⟨rfl, r1⟩, _, _, rfl, ⟨rfl, r2⟩, _, _, rfl, ⟨u1, rfl, hu1, hB1⟩, _, tl, rfl, ⟨u2, rfl, hu2, hB2⟩, ht⟩ := h
  exact ⟨u1, u2, tl, rfl, hu1, by simpa using hB1, hu2, hB2, fun v1 v2 bs is h1 l1 h2 l2 => ⟨[_], _, rfl, ⟨rfl, r1⟩, [_], _, rfl, ⟨rfl, r2⟩, [v1], _, rfl, ⟨v1, rfl, h1, by simpa using l1⟩, [v2], tl, rfl, ⟨v2, rfl, h2, l2⟩, ht⟩⟩
theorem call_new {S : Nat → Prop} {w : World} {a b c v v' : Value} {x : MCall} {bs : List UInt8} (h : kCall.rd S w [a, b, c, v] x) (hv : Sl kByte S w v' bs) (hB : bs.length ≤ reachBytes) : kCall.rd S w [a, b, c, v'] (x.1, x.2.1, x.2.2.1, bs) := by
  obtain ⟨c1, c2, e, ⟨rfl, h1⟩, d1, d2, rfl, ⟨rfl, h2⟩, e1, e2, rfl, ⟨rfl, h3⟩, ⟨u, rfl, hu, _⟩⟩ := h
  cases e
  exact ⟨[_], _, rfl, ⟨rfl, h1⟩, [_], _, rfl, ⟨rfl, h2⟩, [_], _, rfl, ⟨rfl, h3⟩, v', rfl, hv, by simpa using hB⟩
theorem op_of {S : Nat → Prop} {w : World} {x : MOp} {cc rc : List Value} (h1 : (Lit.int .i64 x.1).wf = true) (h2 : (Lit.int .i64 x.2.1).wf = true) (h3 : kCall.rd S w cc x.2.2.1) (h4 : kRes.rd S w rc x.2.2.2.1) :
    kOp.rd S w ([.int .i64 x.1] ++ ([.int .i64 x.2.1] ++ (cc ++ (rc ++ [.bool x.2.2.2.2])))) x :=
  ⟨[_], _, rfl, ⟨rfl, h1⟩, [_], _, rfl, ⟨rfl, h2⟩, cc, _, rfl, h3, rc, _, rfl, h4, rfl⟩
/-- The slices of one that is noted, and what may be laid in their places. -/
theorem op_slices {S : Nat → Prop} {w : World} {cs : List Value} {x : MOp} (h : kOp.rd S w cs x) : cs.length = 22 ∧ ∃ a0 n0 a1 n1 a2 n2,
    cs[5]? = some (.slice a0 x.2.2.1.2.2.2.length n0) ∧ Sl kByte S w (.slice a0 x.2.2.1.2.2.2.length n0) x.2.2.1.2.2.2 ∧ x.2.2.1.2.2.2.length ≤ reachBytes ∧
    cs[8]? = some (.slice a1 x.2.2.2.1.2.2.1.length n1) ∧ Sl kByte S w (.slice a1 x.2.2.2.1.2.2.1.length n1) x.2.2.2.1.2.2.1 ∧ x.2.2.2.1.2.2.1.length ≤ reachBytes ∧
    cs[9]? = some (.slice a2 x.2.2.2.1.2.2.2.1.length n2) ∧ Sl kItem S w (.slice a2 x.2.2.2.1.2.2.2.1.length n2) x.2.2.2.1.2.2.2.1 ∧ x.2.2.2.1.2.2.2.1.length * 32 ≤ reachBytes ∧
    (∀ v bs, Sl kByte S w v bs → bs.length ≤ reachBytes → kOp.rd S w (putAt cs 5 [v]) (x.1, x.2.1, (x.2.2.1.1, x.2.2.1.2.1, x.2.2.1.2.2.1, bs), x.2.2.2)) ∧
    (∀ v bs, Sl kByte S w v bs → bs.length ≤ reachBytes → kOp.rd S w (putAt cs 8 [v]) (x.1, x.2.1, x.2.2.1, (x.2.2.2.1.1, x.2.2.2.1.2.1, bs, x.2.2.2.1.2.2.2), x.2.2.2.2)) ∧
    (∀ v is, Sl kItem S w v is → is.length * 32 ≤ reachBytes → kOp.rd S w (putAt cs 9 [v]) (x.1, x.2.1, x.2.2.1, (x.2.2.2.1.1, x.2.2.2.1.2.1, x.2.2.2.1.2.2.1, is, x.2.2.2.1.2.2.2.2), x.2.2.2.2)) := by
  have hl : cs.length = 22 := kOp.len h
  obtain ⟨_, _, rfl, ⟨rfl, h1⟩, _, _, rfl, ⟨rfl, h2⟩, cc, _, rfl, h3, rc, _, rfl, h4, rfl⟩ := h
  obtain ⟨u0, rfl, hu0, hB0, _⟩ := call_cells h3
  obtain ⟨u1, u2, tl, rfl, hu1, hB1, hu2, hB2, hres⟩ := res_put h4
  obtain ⟨a0, n0, rfl, _⟩ := hu0.frm
  obtain ⟨a1, n1, rfl, _⟩ := hu1.frm
  obtain ⟨a2, n2, rfl, _⟩ := hu2.frm
  refine ⟨hl, a0, n0, a1, n1, a2, n2, rfl, hu0, hB0, rfl, hu1, hB1, rfl, hu2, hB2, fun v bs hv hb => ?_, fun v bs hv hb => ?_, fun v is hv hb => ?_⟩
  · exact op_of (x := (x.1, x.2.1, (x.2.2.1.1, x.2.2.1.2.1, x.2.2.1.2.2.1, bs), x.2.2.2)) h1 h2 (call_new h3 hv hb) h4
  · exact op_of (x := (x.1, x.2.1, x.2.2.1, (x.2.2.2.1.1, x.2.2.2.1.2.1, bs, x.2.2.2.1.2.2.2), x.2.2.2.2)) h1 h2 h3 (hres _ _ _ _ hv hb hu2 hB2)
  · exact op_of (x := (x.1, x.2.1, x.2.2.1, (x.2.2.2.1.1, x.2.2.2.1.2.1, x.2.2.2.1.2.2.1, is, x.2.2.2.1.2.2.2.2), x.2.2.2.2)) h1 h2 h3 (hres _ _ _ _ hu1 hB1 hv hb)
def opZ : List Value := [.int .i64 0, .int .i64 0, .int .i64 0, .int .u64 0, .int .u64 0, .slice none 0 0, .int .i64 0, .int .u64 0, .slice none 0 0, .slice none 0 0, .int .i64 0, .int .i64 0, .int .u64 0, .int .i64 0, .int .u64 0, .int .i64 0, .int .i64 0, .int .u64 0, .int .i64 0, .int .u64 0, .bool false, .bool false]
/-- A variable that holds one, new since w, and a bare one behind it. -/
def OpAt (S : Nat → Prop) (w : World) (x : MOp) (wx : World) : Prop :=
  ∃ cs : List Value, wx.heap[w.heap.size]? = some (.cells cs.toArray 67 (0, 0)) ∧ kOp.rd (fun b => S b ∧ b < w.heap.size) wx cs x ∧ wx.heap[w.heap.size + 1]? = some (.cells opZ.toArray 67 (0, 0)) ∧ Fr Non w wx
theorem OpAt.put {S : Nat → Prop} {w wx wy : World} {y : MOp} {ds : List Value} (h1 : wx.heap[w.heap.size + 1]? = some (.cells opZ.toArray 67 (0, 0))) (h2 : Fr Non w wx)
    (hb : wy.heap[w.heap.size]? = some (.cells ds.toArray 67 (0, 0))) (f : Fr (fun b => b = w.heap.size) wx wy) (hr : kOp.rd (fun b => S b ∧ b < w.heap.size) wx ds y) : OpAt S w y wy :=
  ⟨ds, hb, kOp.frame hr f (fun b _ hs e => by omega), f.heap h1 (by omega), h2.trans2 f (fun b hb e => by omega)⟩
theorem Sl.first {α : Type} {k : Kd α} {S : Nat → Prop} {w : World} {a : Option Addr} {n c : Nat} {l : List α} (h : Sl k S w (.slice a n c) l) (m : Nat) (hm : m < l.length) : ∃ b o, a = some ⟨b, o, none⟩ ∧ l.length ≤ c ∧ c ≤ maxLen ∧ Sl k S w (.slice (some ⟨b, o, none⟩) m c) (l.take m) := by
  obtain ⟨b, o, cs, rfl, _, h1, h2, _⟩ := h.at 0 (by omega)
  refine ⟨b, o, rfl, h1, h2, ?_⟩
  have := h.sub 0 m c (by omega) (by omega) h2
  simpa using this

set_option maxRecDepth 100000 in
set_option maxHeartbeats 4000000 in
theorem cut_any {S : Nat → Prop} {w : World} {ocs : List Value} {x : MOp} (h : kOp.rd S w ocs x) :
    Calls Try.prog 44 #[.agg ocs.toArray] w fun e w' => ∃ cs : List Value, e = .returned (.agg cs.toArray) ∧ kOp.rd (fun b => S b ∧ b < w.heap.size) w' cs (oCut x) ∧ Fr Non w w' := by
  have H0 : Hid (OpAt S w x ((w.alloc (.cells ocs.toArray 67)).alloc (.cells opZ.toArray 67))) := Lib.hid ⟨ocs, alloc_at2 w _ _, kOp.stay (kOp.mono h fun b hb hs => ⟨hs, hb⟩) (((Fr.refl _ _).alloc _).alloc _), alloc_at2' w _ _, ((Fr.refl _ _).alloc _).alloc _⟩
  unfold opZ at H0
  clear h
  go_enter Try.func44, Try.ntmps44
  go_upto_region 1 with (fail)
  generalize ((w.alloc (.cells ocs.toArray 67)).alloc (.cells #[.int .i64 0, .int .i64 0, .int .i64 0, .int .u64 0, .int .u64 0, .slice none 0 0, .int .i64 0, .int .u64 0, .slice none 0 0, .slice none 0 0, .int .i64 0, .int .i64 0, .int .u64 0, .int .i64 0, .int .u64 0, .int .i64 0, .int .i64 0, .int .u64 0, .int .i64 0, .int .u64 0, .bool false, .bool false] 67)) = w0 at H0 ⊢
  obtain ⟨C, hC⟩ : ∃ C, w.heap.size = C := ⟨_, rfl⟩
  have HC := Lib.hid hC
  rw [hC]
  clear hC
  go_cut [14] (fun v wx => v = .bool (decide (100 < x.2.2.1.2.2.2.length ∧ x.2.2.1.2.2.2.length ≤ 1024)) ∧ Hid (OpAt S w x wx))
  case first =>
    obtain ⟨cs, hb, hr, _, _⟩ := H0.out
    rw [HC.out] at hb
    obtain ⟨_, a0, n0, _, _, _, _, e5, _⟩ := op_slices hr
    obtain ⟨x0, _⟩ := box_facts hb
    have c5 : w0.cell? ⟨C, 5, none⟩ = some (.slice a0 x.2.2.1.2.2.2.length n0) := by rw [x0]; simpa using e5
    clear x0 hb hr e5
    by_cases h1 : 100 < x.2.2.1.2.2.2.length
    · by_cases h2 : x.2.2.1.2.2.2.length ≤ 1024
      · have i1 : (100 : Int) < (x.2.2.1.2.2.2.length : Int) := by omega
        have i2 : (x.2.2.1.2.2.2.length : Int) ≤ 1024 := by omega
        have HD := Lib.hid (show decide (100 < x.2.2.1.2.2.2.length ∧ x.2.2.1.2.2.2.length ≤ 1024) = true by simp [h1, h2])
        clear h1 h2
        go_wp2_with fail
        go_meet
        exact ⟨by rw [HD.out], H0⟩
      · have i1 : (100 : Int) < (x.2.2.1.2.2.2.length : Int) := by omega
        have i2 : decide ((x.2.2.1.2.2.2.length : Int) ≤ 1024) = false := by simp; omega
        have HD := Lib.hid (show decide (100 < x.2.2.1.2.2.2.length ∧ x.2.2.1.2.2.2.length ≤ 1024) = false by simp [h2])
        clear h1 h2
        go_wp2_with fail
        go_meet
        exact ⟨by rw [HD.out], H0⟩
    · have i1 : decide ((100 : Int) < (x.2.2.1.2.2.2.length : Int)) = false := by simp; omega
      have HD := Lib.hid (show decide (100 < x.2.2.1.2.2.2.length ∧ x.2.2.1.2.2.2.length ≤ 1024) = false by simp [h1])
      clear h1
      go_wp2_with fail
      go_meet
      exact ⟨by rw [HD.out], H0⟩
  case rest =>
  obtain ⟨rfl, H1⟩ := hcut
  obtain ⟨t, ht⟩ : ∃ t, decide (100 < x.2.2.1.2.2.2.length ∧ x.2.2.1.2.2.2.length ≤ 1024) = t := ⟨_, rfl⟩
  rw [ht]
  have HT := Lib.hid ht
  clear ht H0
  go_upto_if 14 with (fail)
  go_cut [3] (fun _ wx => Hid (OpAt S w (oC x) wx))
  case first =>
    cases t with
    | false =>
      have E := Lib.hid (show oC x = x by unfold oC; rw [if_neg (by simpa using HT.out)])
      go_wp2_with fail
      go_meet
      exact Lib.hid (by rw [E.out]; exact H1.out)
    | true =>
      have hT : 100 < x.2.2.1.2.2.2.length ∧ x.2.2.1.2.2.2.length ≤ 1024 := by simpa using HT.out
      have E := Lib.hid (show oC x = (x.1, x.2.1, (x.2.2.1.1, x.2.2.1.2.1, x.2.2.1.2.2.1, x.2.2.1.2.2.2.take 100), x.2.2.2) by unfold oC; rw [if_pos hT])
      have hlt := hT.1
      clear hT
      obtain ⟨cs, hb, hr, hz, hf⟩ := H1.out
      rw [HC.out] at hb
      obtain ⟨hl, a0, n0, _, _, _, _, e5, s5, l5, _, _, _, _, _, _, put5, _⟩ := op_slices hr
      obtain ⟨B, O, rfl, cap1, cap2, sub⟩ := s5.first 100 hlt
      obtain ⟨x0, _⟩ := box_facts hb
      have c5 : wc.cell? ⟨C, 5, none⟩ = some (.slice (some ⟨B, O, none⟩) x.2.2.1.2.2.2.length n0) := by rw [x0]; simpa using e5
      have i1 : (100 : Int) ≤ (n0 : Int) := by omega
      have i2 : 100 ≤ n0 := by omega
      have HB := Lib.hid hb
      have HF := Lib.hid hf
      have HZ := Lib.hid hz
      have HP := Lib.hid (put5 _ _ sub (by rw [List.length_take]; omega))
      have HL := Lib.hid hl
      clear x0 hb hr hz hf put5 sub e5 s5 hl l5 hlt
      go_wp2_with (refine wpList_store_block rfl 37 _ _ rfl C 5 rfl (.slice (some ⟨B, O, none⟩) 100 n0) rfl _ 67 HB.out ?hfit ?hinf ?hone ?_)
      case hfit => simp [Value.cells, HL.out]
      case hinf => kernel_rfl
      case hone => intro u hu; simp [Value.cells] at hu; subst hu; rfl
      intro wy hbx f3
      replace hbx : wy.heap[C]? = some (.cells (putAt cs 5 [.slice (some ⟨B, O, none⟩) 100 n0]).toArray 67 (0, 0)) := by simpa [Value.cells] using hbx
      have HY := Lib.hid (show OpAt S w (oC x) wy by rw [E.out]; exact OpAt.put HZ.out HF.out (by rw [HC.out]; exact hbx) (by rw [HC.out]; exact f3) HP.out)
      clear hbx f3
      go_wp2_with fail
      go_meet
      exact HY
  case rest =>
  have H2 := hcut
  clear hcut H1 HT
  obtain ⟨x1, hx1⟩ : ∃ x1, oC x = x1 := ⟨_, rfl⟩
  rw [hx1] at H2
  have HX1 := Lib.hid hx1
  clear hx1
  obtain ⟨cs, hb, hr, hz, hf⟩ := H2.out
  rw [HC.out] at hb
  obtain ⟨hl, _, _, aa, nn, _, _, _, _, _, ee, ss, ll, _, _, _, _, pp, _⟩ := op_slices hr
  obtain ⟨x0, _⟩ := box_facts hb
  have cc : wc.cell? ⟨C, 8, none⟩ = some (.slice aa x1.2.2.2.1.2.2.1.length nn) := by rw [x0]; simpa using ee
  have HB := Lib.hid hb
  have HF := Lib.hid hf
  have HZ := Lib.hid hz
  have HP := Lib.hid pp
  have HS := Lib.hid ss
  have HL := Lib.hid hl
  have LL := Lib.hid ll
  clear x0 hb hr hz hf pp ee ss hl ll
  go_upto_if 25 with (fail)
  go_cut [3] (fun _ wx => Hid (OpAt S w (oR x1) wx))
  case first =>
    by_cases hlt : 100 < x1.2.2.2.1.2.2.1.length
    · have E := Lib.hid (show oR x1 = (x1.1, x1.2.1, x1.2.2.1, (x1.2.2.2.1.1, x1.2.2.2.1.2.1, x1.2.2.2.1.2.2.1.take 100, x1.2.2.2.1.2.2.2), x1.2.2.2.2) by unfold oR; rw [if_pos hlt])
      obtain ⟨B, O, rfl, cap1, cap2, sub⟩ := HS.out.first 100 hlt
      have i0 : (100 : Int) < (x1.2.2.2.1.2.2.1.length : Int) := by omega
      have i1 : (100 : Int) ≤ (nn : Int) := by omega
      have i2 : 100 ≤ nn := by omega
      have HQ := Lib.hid (HP.out _ _ sub (by rw [List.length_take]; have := LL.out; omega))
      clear sub hlt HS
      go_wp2_with (refine wpList_store_block rfl 37 _ _ rfl C 8 rfl (.slice (some ⟨B, O, none⟩) 100 nn) rfl _ 67 HB.out ?hfit ?hinf ?hone ?_)
      case hfit => simp [Value.cells, HL.out]
      case hinf => kernel_rfl
      case hone => intro u hu; simp [Value.cells] at hu; subst hu; rfl
      intro wy hbx f3
      replace hbx : wy.heap[C]? = some (.cells (putAt cs 8 [.slice (some ⟨B, O, none⟩) 100 nn]).toArray 67 (0, 0)) := by simpa [Value.cells] using hbx
      have HY := Lib.hid (show OpAt S w (oR x1) wy by rw [E.out]; exact OpAt.put HZ.out HF.out (by rw [HC.out]; exact hbx) (by rw [HC.out]; exact f3) HQ.out)
      clear hbx f3
      go_wp2_with fail
      go_meet
      exact HY
    · have E := Lib.hid (show oR x1 = x1 by unfold oR; rw [if_neg hlt])
      have i0 : decide ((100 : Int) < (x1.2.2.2.1.2.2.1.length : Int)) = false := by simp; omega
      clear hlt
      rw [i0]
      clear i0
      go_wp2_with fail
      go_meet
      exact Lib.hid (by rw [E.out]; exact H2.out)
  case rest =>
  have H3 := hcut
  clear hcut H2 cc HB HF HZ HP HS HL LL
  obtain ⟨x2, hx2⟩ : ∃ x2, oR x1 = x2 := ⟨_, rfl⟩
  rw [hx2] at H3
  have HX2 := Lib.hid hx2
  clear hx2
  obtain ⟨cs, hb, hr, hz, hf⟩ := H3.out
  rw [HC.out] at hb
  obtain ⟨hl, _, _, _, _, aa, nn, _, _, _, _, _, _, ee, ss, ll, _, _, pp⟩ := op_slices hr
  obtain ⟨x0, _⟩ := box_facts hb
  have cc : wc.cell? ⟨C, 9, none⟩ = some (.slice aa x2.2.2.2.1.2.2.2.1.length nn) := by rw [x0]; simpa using ee
  have HB := Lib.hid hb
  have HF := Lib.hid hf
  have HZ := Lib.hid hz
  have HP := Lib.hid pp
  have HS := Lib.hid ss
  have HL := Lib.hid hl
  have LL := Lib.hid ll
  clear x0 hb hr hz hf pp ee ss hl ll
  go_upto_if 36 with (fail)
  go_cut [3] (fun _ wx => Hid (OpAt S w (oI x2) wx))
  case first =>
    by_cases hlt : 20 < x2.2.2.2.1.2.2.2.1.length
    · have E := Lib.hid (show oI x2 = (x2.1, x2.2.1, x2.2.2.1, (x2.2.2.2.1.1, x2.2.2.2.1.2.1, x2.2.2.2.1.2.2.1, x2.2.2.2.1.2.2.2.1.take 20, x2.2.2.2.1.2.2.2.2), x2.2.2.2.2) by unfold oI; rw [if_pos hlt])
      obtain ⟨B, O, rfl, cap1, cap2, sub⟩ := HS.out.first 20 hlt
      have i0 : (20 : Int) < (x2.2.2.2.1.2.2.2.1.length : Int) := by omega
      have i1 : (20 : Int) ≤ (nn : Int) := by omega
      have i2 : 20 ≤ nn := by omega
      have HQ := Lib.hid (HP.out _ _ sub (by rw [List.length_take]; have := LL.out; omega))
      clear sub hlt HS
      go_wp2_with (refine wpList_store_block rfl 22 _ _ rfl C 9 rfl (.slice (some ⟨B, O, none⟩) 20 nn) rfl _ 67 HB.out ?hfit ?hinf ?hone ?_)
      case hfit => simp [Value.cells, HL.out]
      case hinf => kernel_rfl
      case hone => intro u hu; simp [Value.cells] at hu; subst hu; rfl
      intro wy hbx f3
      replace hbx : wy.heap[C]? = some (.cells (putAt cs 9 [.slice (some ⟨B, O, none⟩) 20 nn]).toArray 67 (0, 0)) := by simpa [Value.cells] using hbx
      have HY := Lib.hid (show OpAt S w (oI x2) wy by rw [E.out]; exact OpAt.put HZ.out HF.out (by rw [HC.out]; exact hbx) (by rw [HC.out]; exact f3) HQ.out)
      clear hbx f3
      go_wp2_with fail
      go_meet
      exact HY
    · have E := Lib.hid (show oI x2 = x2 by unfold oI; rw [if_neg hlt])
      have i0 : decide ((20 : Int) < (x2.2.2.2.1.2.2.2.1.length : Int)) = false := by simp; omega
      clear hlt
      rw [i0]
      clear i0
      go_wp2_with fail
      go_meet
      exact Lib.hid (by rw [E.out]; exact H3.out)
  case rest =>
  have H4 := hcut
  clear hcut H3 cc HB HF HZ HP HS HL LL
  obtain ⟨cs, hb, hr, hz, hf⟩ := H4.out
  rw [HC.out] at hb hz
  have hl : cs.length = 22 := kOp.len hr
  have LD := Lib.hid (run_loadAt_list (P := Try.prog) (w := wc) (t := 67) (b := C) (o := 0) cs _ Try.underlying67 rfl (by rw [hl]; exact size67) (fun j v hv => by rw [cell_of_row wc C _ _ _ _ hb, Nat.zero_add]; simpa using hv))
  have HZ := Lib.hid hz
  have HR := Lib.hid hr
  have HF := Lib.hid hf
  have ON := Lib.hid (kOp.one hr)
  clear hb hr hz hf
  go_wp2_with (first | refine wpList_load_w 67 (.pointer (some ⟨C, 0, none⟩)) _ LD.out _ rfl rfl (by rfl) ?_ | refine wpList_store_block rfl 67 _ _ rfl (C + 1) 0 rfl (.agg cs.toArray) rfl _ 67 HZ.out ?hfit ?hinf ?hone ?_)
  case hfit => simp [Value.cells, hl, opZ]
  case hinf => rw [show (Value.agg cs.toArray).cells.size = 22 by simp [Value.cells, hl]]; exact size67
  case hone => intro u hu; exact ON.out u (by simpa [Value.cells] using hu)
  intro wy hbx f3
  rw [putAt_whole _ _ (by simp [hl, opZ])] at hbx
  replace hbx : wy.heap[C + 1]? = some (.cells cs.toArray 67 (0, 0)) := by simpa [Value.cells] using hbx
  have HBX := Lib.hid hbx
  have F3 := Lib.hid f3
  have HLN := Lib.hid hl
  clear hbx f3 hl
  go_wp2_with fail
  have hsz := HC.out
  refine bodyPost_ret (v := .agg cs.toArray) (results_cell_row Try.results44 _ _ (C + 1) 67 cs.toArray (0, 0) _ rfl HBX.out Try.underlying67 rfl (by rw [List.size_toArray, HLN.out]; exact size67)) rfl ⟨cs, rfl, ?_, HF.out.trans2 F3.out (fun b hb e => by omega)⟩
  rw [oCut, HX1.out, HX2.out]
  exact kOp.frame HR.out F3.out (fun b _ hs e => by omega)

theorem op_rd {S : Nat → Prop} {w : World} {a : Option Addr} {n c : Nat} {l : List MOp} (h : Sl kOp S w (.slice a n c) l) (i : Nat) (hi : i < l.length) :
    ∃ b o cs, a = some ⟨b, o, none⟩ ∧ kOp.rd S w cs l[i] ∧ cs.length = 22 ∧ (Instr.loadAt 67 (.pointer (some ⟨b, o + i * 22, none⟩))).run Try.prog w = .ok (.agg cs.toArray) w := by
  obtain ⟨b, o, cs, rfl, _, _, _, hr, hc⟩ := h.at i hi
  have hl : cs.length = 22 := kOp.len hr
  refine ⟨b, o, cs, rfl, hr, hl, run_loadAt_list _ _ Try.underlying67 rfl (by rw [hl]; exact size67) fun j v hv => ?_⟩
  obtain ⟨hj, rfl⟩ := List.getElem?_eq_some_iff.1 hv
  exact hc j hj
end Go.Proofs.Ytplhcfaonhkegaa
