/-
  Model: Tells.
-/
import Derived.Test.YtplhcfaonhkegaaM20
import Derived.Test.YtplhcfaonhkegaaM22
namespace Go.Proofs.Ytplhcfaonhkegaa
open Go.RowKit Go.Maps

def mTells (l : List MItem) (c : MCall) (r : MRes) : Bool := decide ((mDo l c).2.2 = 0) && decide ((mDo l c).2.1 = r)
theorem mDo_refs (l : List MItem) (c : MCall) : (mDo l c).2.1.2.2.2.2.1 = r0 ∧ (mDo l c).2.1.2.2.2.2.2.1 = r0 ∧ (Lit.int .i64 (mDo l c).2.1.1).wf = true := by
  unfold mDo
  split
  · split
    · exact mDone_refs l c
    · exact ⟨rfl, rfl, by simp only [mErr]; decide⟩
  · exact ⟨rfl, rfl, by simp only [mErr]; decide⟩

set_option maxRecDepth 100000 in
set_option maxHeartbeats 2000000 in
theorem tells_any {w : World} {v : Value} {l : List MItem} (h : Sl kItem All w v l) (hl : l.length ≤ 80000) (k key high : Int) {ca : Option Addr} {cc : Nat} {bs : List UInt8} (hv : Sl kByte All w (.slice ca bs.length cc) bs) (hk : 0 ≤ key ∧ key ≤ 18446744073709551615)
    (r : MRes) {u1 v1 : Value} (hu1 : Sl kByte All w u1 r.2.2.1) (hv1 : Sl kItem All w v1 r.2.2.2.1) :
    Calls Try.prog 40 #[v, .agg #[.int .i64 k, .int .u64 key, .int .u64 high, .slice ca bs.length cc], .agg (resCells r u1 v1).toArray] w fun e w' => e = .returned (.bool (mTells l (k, key, high, bs) r)) ∧ Fr Non w w' := by
  obtain ⟨va, vn, rfl, _, hm, _⟩ := h.frm
  obtain ⟨ga, gc, rfl, _⟩ := hu1.frm
  obtain ⟨ha, hc, rfl, _⟩ := hv1.frm
  obtain ⟨D, hD⟩ : ∃ D, mDo l (k, key, high, bs) = D := ⟨_, rfl⟩
  have hrefs := mDo_refs l (k, key, high, bs)
  have hdo := fun (w : World) (h : Sl kItem All w (.slice va l.length vn) l) (hv : Sl kByte All w (.slice ca bs.length cc) bs) => do_any h hl (k, key, high, bs) hv hk
  rw [hD] at hdo hrefs
  have hT : mTells l (k, key, high, bs) r = (decide (D.2.2 = 0) && decide (D.2.1 = r)) := by unfold mTells; rw [hD]
  rw [hT]
  clear hT hD
  have HDO := Lib.hid hdo
  have HRF := Lib.hid hrefs
  clear hdo hrefs
  obtain ⟨e1, k1, b1, l1, ⟨a1, ⟨a2, a3⟩, a4, a5⟩, ⟨c1, ⟨c2, c3⟩, c4, c5⟩, t1⟩ := r
  simp only [resCells, refCells, List.cons_append, List.nil_append] at hu1 hv1 ⊢
  have f0 : Fr Non w ((w.alloc (.cells #[.int .i64 k, .int .u64 key, .int .u64 high, .slice ca bs.length cc] 39)).alloc (.cells #[.int .i64 e1, .int .u64 k1, .slice ga b1.length gc, .slice ha l1.length hc, .int .i64 a1, .int .i64 a2, .int .u64 a3, .int .i64 a4, .int .u64 a5, .int .i64 c1, .int .i64 c2, .int .u64 c3, .int .i64 c4, .int .u64 c5, .bool t1] 52)) := ((Fr.refl _ _).alloc _).alloc _
  have bC := alloc_at2 w (.cells #[.int .i64 k, .int .u64 key, .int .u64 high, .slice ca bs.length cc] 39) (.cells #[.int .i64 e1, .int .u64 k1, .slice ga b1.length gc, .slice ha l1.length hc, .int .i64 a1, .int .i64 a2, .int .u64 a3, .int .i64 a4, .int .u64 a5, .int .i64 c1, .int .i64 c2, .int .u64 c3, .int .i64 c4, .int .u64 c5, .bool t1] 52)
  have bR := alloc_at2' w (.cells #[.int .i64 k, .int .u64 key, .int .u64 high, .slice ca bs.length cc] 39) (.cells #[.int .i64 e1, .int .u64 k1, .slice ga b1.length gc, .slice ha l1.length hc, .int .i64 a1, .int .i64 a2, .int .u64 a3, .int .i64 a4, .int .u64 a5, .int .i64 c1, .int .i64 c2, .int .u64 c3, .int .i64 c4, .int .u64 c5, .bool t1] 52)
  have HS := Lib.hid (h.stay f0)
  have HV := Lib.hid (hv.stay f0)
  have HU := Lib.hid (hu1.stay f0)
  have HW := Lib.hid (hv1.stay f0)
  clear h hv hu1 hv1
  go_enter Try.func40, Try.ntmps40
  go_wp2_with fail
  refine (HDO.out _ HS.out HV.out).mono ?_
  rintro e wd ⟨x, y, rfl, hx, hy, fd⟩
  obtain ⟨hr1, hr2, hr3⟩ := HRF.out
  obtain ⟨u8', v8', rfl, hrd, ⟨p1, p2, p3, rfl⟩, ⟨p4, p5, p6, rfl⟩⟩ := res_rd hy hr3 hr1 hr2
  obtain ⟨xa, xc, rfl⟩ : ∃ a c, x = .slice a D.1.length c := hx.form
  obtain ⟨m, ⟨e4, k4, b4, i4, rl, rr, t4⟩, ee⟩ := D
  simp only at hr1 hr2
  subst hr1 hr2
  obtain ⟨u5, v5, he5, hu5, hv5, _⟩ := hy
  have HE : u5 = .slice p1 p2 p3 ∧ v5 = .slice p4 p5 p6 := by
    simp [resCells, refCells] at he5
    exact ⟨he5.1.symm, he5.2.symm⟩
  obtain ⟨rfl, rfl⟩ := HE
  simp only at hu5 hv5
  clear he5 hrd hx hr3
  simp only [resCells, refCells, r0, List.cons_append, List.nil_append]
  have fy : Fr Non wd (wd.alloc (.cells #[.int .i64 e4, .int .u64 k4, .slice p1 p2 p3, .slice p4 p5 p6, .int .i64 0, .int .i64 0, .int .u64 0, .int .i64 0, .int .u64 0, .int .i64 0, .int .i64 0, .int .u64 0, .int .i64 0, .int .u64 0, .bool t4] 52)) := (Fr.refl _ _).alloc _
  have bY := alloc_at wd (.cells #[.int .i64 e4, .int .u64 k4, .slice p1 p2 p3, .slice p4 p5 p6, .int .i64 0, .int .i64 0, .int .u64 0, .int .i64 0, .int .u64 0, .int .i64 0, .int .i64 0, .int .u64 0, .int .i64 0, .int .u64 0, .bool t4] 52)
  have bRd := (fd.trans fy).heap bR id
  obtain ⟨qR, zR⟩ := box_facts bRd
  have HU5 := Lib.hid (hu5.stay fy)
  have HV5 := Lib.hid (hv5.stay fy)
  have HU1 := Lib.hid (HU.out.stay (fd.trans fy))
  have HV1 := Lib.hid (HW.out.stay (fd.trans fy))
  clear hu5 hv5 bC bR bRd
  by_cases he : ee = 0
  rotate_left
  · have n1 : (ee == 0) = false := by simpa using he
    have HN := Lib.hid he
    clear he
    go_wp2_with fail
    go_ret
    exact ⟨by simp [HN.out], f0.trans (fd.trans fy)⟩
  subst he
  obtain ⟨d, hd⟩ : ∃ d, decide (((e4, k4, b4, i4, r0, r0, t4) : MRes) = (e1, k1, b1, l1, (a1, (a2, a3), a4, a5), (c1, (c2, c3), c4, c5), t1)) = d := ⟨_, rfl⟩
  have hsr := msres_any (e4, k4, b4, i4, r0, r0, t4) (e1, k1, b1, l1, (a1, (a2, a3), a4, a5), (c1, (c2, c3), c4, c5), t1) HU5.out HV5.out HU1.out HV1.out
  rw [hd] at hsr
  have HD := Lib.hid hd
  simp only [resCells, refCells, r0, List.cons_append, List.nil_append] at hsr
  have HSR := Lib.hid hsr
  clear hsr hd
  go_wp2_with fail
  refine HSR.out.mono ?_
  rintro e wz ⟨rfl, fz⟩
  go_wp2_with fail
  go_ret
  exact ⟨by rw [← HD.out]; simp, f0.trans ((fd.trans fy).trans fz)⟩

set_option maxRecDepth 100000 in
set_option maxHeartbeats 2000000 in
theorem rtells_any {w : World} {v : Value} {l : List MItem} (h : Sl kItem All w v l) (hl : l.length ≤ 80000) (k key high : Int) {ca : Option Addr} {cc : Nat} {bs : List UInt8} (hv : Sl kByte All w (.slice ca bs.length cc) bs) (hk : 0 ≤ key ∧ key ≤ 18446744073709551615)
    (r : MRes) {u1 v1 : Value} (hu1 : Sl kByte All w u1 r.2.2.1) (hv1 : Sl kItem All w v1 r.2.2.2.1) :
    Calls Try.prog 41 #[v, .agg #[.int .i64 k, .int .u64 key, .int .u64 high, .slice ca bs.length cc], .agg (resCells r u1 v1).toArray] w fun e w' => e = .returned (.bool (mTells l (k, key, high, bs) r)) ∧ Fr Non w w' := by
  obtain ⟨va, vn, rfl, _, hm, _⟩ := h.frm
  obtain ⟨ga, gc, rfl, _⟩ := hu1.frm
  obtain ⟨ha, hc, rfl, _⟩ := hv1.frm
  obtain ⟨D, hD⟩ : ∃ D, mDo l (k, key, high, bs) = D := ⟨_, rfl⟩
  have hrefs := mDo_refs l (k, key, high, bs)
  have hdo := fun (w : World) (h : Sl kItem All w (.slice va l.length vn) l) (hv : Sl kByte All w (.slice ca bs.length cc) bs) => rdo_any h hl k key high hv hk
  rw [hD] at hdo hrefs
  have hT : mTells l (k, key, high, bs) r = (decide (D.2.2 = 0) && decide (D.2.1 = r)) := by unfold mTells; rw [hD]
  rw [hT]
  clear hT hD
  have HDO := Lib.hid hdo
  have HRF := Lib.hid hrefs
  clear hdo hrefs
  obtain ⟨e1, k1, b1, l1, ⟨a1, ⟨a2, a3⟩, a4, a5⟩, ⟨c1, ⟨c2, c3⟩, c4, c5⟩, t1⟩ := r
  simp only [resCells, refCells, List.cons_append, List.nil_append] at hu1 hv1 ⊢
  have f0 : Fr Non w ((w.alloc (.cells #[.int .i64 k, .int .u64 key, .int .u64 high, .slice ca bs.length cc] 39)).alloc (.cells #[.int .i64 e1, .int .u64 k1, .slice ga b1.length gc, .slice ha l1.length hc, .int .i64 a1, .int .i64 a2, .int .u64 a3, .int .i64 a4, .int .u64 a5, .int .i64 c1, .int .i64 c2, .int .u64 c3, .int .i64 c4, .int .u64 c5, .bool t1] 52)) := ((Fr.refl _ _).alloc _).alloc _
  have bC := alloc_at2 w (.cells #[.int .i64 k, .int .u64 key, .int .u64 high, .slice ca bs.length cc] 39) (.cells #[.int .i64 e1, .int .u64 k1, .slice ga b1.length gc, .slice ha l1.length hc, .int .i64 a1, .int .i64 a2, .int .u64 a3, .int .i64 a4, .int .u64 a5, .int .i64 c1, .int .i64 c2, .int .u64 c3, .int .i64 c4, .int .u64 c5, .bool t1] 52)
  have bR := alloc_at2' w (.cells #[.int .i64 k, .int .u64 key, .int .u64 high, .slice ca bs.length cc] 39) (.cells #[.int .i64 e1, .int .u64 k1, .slice ga b1.length gc, .slice ha l1.length hc, .int .i64 a1, .int .i64 a2, .int .u64 a3, .int .i64 a4, .int .u64 a5, .int .i64 c1, .int .i64 c2, .int .u64 c3, .int .i64 c4, .int .u64 c5, .bool t1] 52)
  have HS := Lib.hid (h.stay f0)
  have HV := Lib.hid (hv.stay f0)
  have HU := Lib.hid (hu1.stay f0)
  have HW := Lib.hid (hv1.stay f0)
  clear h hv hu1 hv1
  go_enter Try.func41, Try.ntmps41
  go_wp2_with fail
  refine (HDO.out _ HS.out HV.out).mono ?_
  rintro e wd ⟨x, y, rfl, hx, hy, fd⟩
  replace hx := hx.all
  replace hy := hy.mono (S' := All) fun _ _ _ => trivial
  obtain ⟨hr1, hr2, hr3⟩ := HRF.out
  obtain ⟨u8', v8', rfl, hrd, ⟨p1, p2, p3, rfl⟩, ⟨p4, p5, p6, rfl⟩⟩ := res_rd hy hr3 hr1 hr2
  obtain ⟨xa, xc, rfl⟩ : ∃ a c, x = .slice a D.1.length c := (by obtain ⟨a, c, e, _⟩ := hx.frm; exact ⟨a, c, e⟩)
  obtain ⟨m, ⟨e4, k4, b4, i4, rl, rr, t4⟩, ee⟩ := D
  simp only at hr1 hr2
  subst hr1 hr2
  obtain ⟨u5, v5, he5, hu5, hv5, _⟩ := hy
  have HE : u5 = .slice p1 p2 p3 ∧ v5 = .slice p4 p5 p6 := by
    simp [resCells, refCells] at he5
    exact ⟨he5.1.symm, he5.2.symm⟩
  obtain ⟨rfl, rfl⟩ := HE
  simp only at hu5 hv5
  clear he5 hrd hx hr3
  simp only [resCells, refCells, r0, List.cons_append, List.nil_append]
  have fy : Fr Non wd (wd.alloc (.cells #[.int .i64 e4, .int .u64 k4, .slice p1 p2 p3, .slice p4 p5 p6, .int .i64 0, .int .i64 0, .int .u64 0, .int .i64 0, .int .u64 0, .int .i64 0, .int .i64 0, .int .u64 0, .int .i64 0, .int .u64 0, .bool t4] 52)) := (Fr.refl _ _).alloc _
  have bY := alloc_at wd (.cells #[.int .i64 e4, .int .u64 k4, .slice p1 p2 p3, .slice p4 p5 p6, .int .i64 0, .int .i64 0, .int .u64 0, .int .i64 0, .int .u64 0, .int .i64 0, .int .i64 0, .int .u64 0, .int .i64 0, .int .u64 0, .bool t4] 52)
  have bRd := (fd.trans fy).heap bR id
  obtain ⟨qR, zR⟩ := box_facts bRd
  have HU5 := Lib.hid (hu5.stay fy)
  have HV5 := Lib.hid (hv5.stay fy)
  have HU1 := Lib.hid (HU.out.stay (fd.trans fy))
  have HV1 := Lib.hid (HW.out.stay (fd.trans fy))
  clear hu5 hv5 bC bR bRd
  by_cases he : ee = 0
  rotate_left
  · have n1 : (ee == 0) = false := by simpa using he
    have HN := Lib.hid he
    clear he
    go_wp2_with fail
    go_ret
    exact ⟨by simp [HN.out], f0.trans (fd.trans fy)⟩
  subst he
  obtain ⟨d, hd⟩ : ∃ d, decide (((e4, k4, b4, i4, r0, r0, t4) : MRes) = (e1, k1, b1, l1, (a1, (a2, a3), a4, a5), (c1, (c2, c3), c4, c5), t1)) = d := ⟨_, rfl⟩
  have hsr := rsres_any (e4, k4, b4, i4, r0, r0, t4) (e1, k1, b1, l1, (a1, (a2, a3), a4, a5), (c1, (c2, c3), c4, c5), t1) HU5.out HV5.out HU1.out HV1.out
  rw [hd] at hsr
  have HD := Lib.hid hd
  simp only [resCells, refCells, r0, List.cons_append, List.nil_append] at hsr
  have HSR := Lib.hid hsr
  clear hsr hd
  go_wp2_with fail
  refine HSR.out.mono ?_
  rintro e wz ⟨rfl, fz⟩
  go_wp2_with fail
  go_ret
  exact ⟨by rw [← HD.out]; simp, f0.trans ((fd.trans fy).trans fz)⟩
end Go.Proofs.Ytplhcfaonhkegaa
