/-
  The reference's search, as it lies.
  The reference's search for an order, walked.
-/
import Derived.Test.YtplhcfaonhkegaaLJ
import Derived.Test.YtplhcfaonhkegaaLE
import Derived.Test.YtplhcfaonhkegaaLB
namespace Go.Proofs.Ytplhcfaonhkegaa
open Go.RowKit Go.Maps

/-- A state: what is done, the list. -/
def kSt : Kd (List Bool × List MItem) := kPair (kRow kBool 1) (kRow kItem 32)
theorem eI143 : ElemInfo Try.prog 175 143 2 48 := elemInfo (z := .agg #[.slice none 0 0, .slice none 0 0]) Try.underlying175 (by kernel_rfl) rfl (by decide)
/-- The states seen, as they lie. -/
def rStates (L : Nat) (s : List (Nat × List MItem)) : List (List Bool × List MItem) := (s.map fun p => (lBits p.1 L, p.2)).reverse
theorem rStates_len {L : Nat} {s : List (Nat × List MItem)} : (rStates L s).length = s.length := by simp [rStates]
theorem rStates_cons {L d : Nat} {m : List MItem} {s : List (Nat × List MItem)} : rStates L ((d, m) :: s) = rStates L s ++ [(lBits d L, m)] := by simp [rStates]
theorem rStates_at {L : Nat} {s : List (Nat × List MItem)} (j : Nat) (hj : j < (rStates L s).length) : ∃ p ∈ s, (rStates L s)[j] = (lBits p.1 L, p.2) := by
  have h := List.getElem_mem hj
  obtain ⟨p, hp, e⟩ := List.mem_map.1 (List.mem_reverse.1 h)
  exact ⟨p, hp, e.symm⟩
theorem lBits_inj {d1 d2 L : Nat} (h1 : d1 < 2 ^ L) (h2 : d2 < 2 ^ L) (h : lBits d1 L = lBits d2 L) : d1 = d2 := by
  refine Nat.eq_of_testBit_eq fun k => ?_
  by_cases hk : k < L
  · exact lBits_eq.1 h k hk
  · have hp : 2 ^ L ≤ 2 ^ k := Nat.pow_le_pow_right (by decide) (by omega)
    rw [Nat.testBit_lt_two_pow (by omega), Nat.testBit_lt_two_pow (by omega)]
theorem rStates_mem {L d : Nat} {m : List MItem} {s : List (Nat × List MItem)} (hs : ∀ p ∈ s, p.1 < 2 ^ L) (hd : d < 2 ^ L) : (lBits d L, m) ∈ rStates L s ↔ (d, m) ∈ s := by
  unfold rStates
  rw [List.mem_reverse, List.mem_map]
  constructor
  · rintro ⟨⟨d', m'⟩, hp, e⟩
    simp only [Prod.mk.injEq] at e
    obtain ⟨e1, rfl⟩ := e
    rw [← lBits_inj (hs _ hp) hd e1]
    exact hp
  · exact fun h => ⟨_, h, rfl⟩
/-- Apart from what a search writes. -/
abbrev Apart (sb : Nat) (sv : Value) : Nat → Prop := fun b => sv.ownBlock ≠ some b ∧ b ≠ sb
abbrev Held (sb : Nat) (sv : Value) : Nat → Prop := fun b => b = sb ∨ sv.ownBlock = some b
/-- A row of one's own has gone on. -/
def Moved (w : World) (sv sv' : Value) : Prop := sv'.ownBlock = sv.ownBlock ∨ ∃ n, sv'.ownBlock = some n ∧ w.heap.size ≤ n
theorem Moved.refl (w : World) (sv : Value) : Moved w sv sv := .inl rfl
theorem Moved.trans {w w1 : World} {sv sv1 sv2 : Value} (h1 : Moved w sv sv1) (h2 : Moved w1 sv1 sv2) (hs : w.heap.size ≤ w1.heap.size) : Moved w sv sv2 := by
  rcases h2 with h2 | ⟨n, h2, hn⟩
  · rcases h1 with h1 | ⟨n, h1, hn⟩
    · exact .inl (h2.trans h1)
    · exact .inr ⟨n, h2.trans h1, hn⟩
  · exact .inr ⟨n, h2, by omega⟩
theorem Moved.apart {w : World} {sv sv' : Value} {sb b : Nat} (h : Moved w sv sv') (hb : b < w.heap.size) (hs : Apart sb sv b) : Apart sb sv' b := by
  refine ⟨fun e => ?_, hs.2⟩
  rcases h with h | ⟨n, h, hn⟩
  · exact hs.1 (h ▸ e)
  · rw [h] at e
    cases e
    omega
theorem apart_fr {α : Type} {k : Kd α} {w w' : World} {v sv sv' : Value} {l : List α} {sb : Nat} (h : Sl k (Apart sb sv) w v l) (f : Fr (Held sb sv) w w') (hm : Moved w sv sv') : Sl k (Apart sb sv') w' v l := by
  refine h.fr (fun b hb hs => f.block b hb ?_) (fun b hb hs => hm.apart hb hs)
  rintro (e | e)
  · exact hs.2 e
  · exact hs.1 e
theorem held_trans {w w1 w2 : World} {sv sv1 : Value} {sb : Nat} (f1 : Fr (Held sb sv) w w1) (hm : Moved w sv sv1) (f2 : Fr (Held sb sv1) w1 w2) : Fr (Held sb sv) w w2 := by
  refine f1.trans2 f2 fun b hb he => ?_
  rcases he with he | he
  · exact .inl he
  · rcases hm with hm | ⟨n, hm, hn⟩
    · exact .inr (hm ▸ he)
    · rw [hm] at he
      cases he
      omega
/-- The reference's search, as it lies. -/
def SearchR (w : World) (sb : Nat) (u sv : Value) (L : Nat) (s : LSt) : Prop :=
  w.heap[sb]? = some (.cells #[u, sv, .bool s.2] 177 (0, 0)) ∧ BuildS (fun b => b ≠ sb) kSt 143 w sv (rStates L s.1) ∧ ∀ p ∈ s.1, p.1 < 2 ^ L
theorem SearchR.fr {w w' : World} {sb L : Nat} {u sv : Value} {s : LSt} (h : SearchR w sb u sv L s) (f : Fr Non w w') : SearchR w' sb u sv L s :=
  ⟨f.heap h.1 id, h.2.1.fr f, h.2.2⟩
theorem SearchR.ne {w : World} {sb L : Nat} {u sv : Value} {s : LSt} (h : SearchR w sb u sv L s) : sv.ownBlock ≠ some sb := by
  intro e
  obtain ⟨h0, ⟨cs, g, _⟩, _⟩ := h
  rcases g.2 with ⟨rfl, _⟩ | ⟨b, cap, cur, rfl, hb, _⟩
  · cases e
  · cases e
    rw [hb] at h0
    cases h0
theorem SearchR.sl {w : World} {sb L : Nat} {u sv : Value} {s : LSt} (h : SearchR w sb u sv L s) : Sl kSt (fun b => b ≠ sb) w sv (rStates L s.1) :=
  h.2.1.slS (fun _ h => h) (fun b e e2 => h.ne (e2 ▸ e))
theorem SearchR.full {w : World} {sb L : Nat} {u sv : Value} {s : LSt} (h : SearchR w sb u sv L s) (b : Bool) : SearchR (w.setCell ⟨sb, 2, none⟩ (.bool b)) sb u sv L (s.1, b) := by
  have f : Fr (fun b => b = sb) w (w.setCell ⟨sb, 2, none⟩ (.bool b)) := (Fr.refl (fun b => b = sb) w).setCell (p := ⟨sb, 2, none⟩) (.inl rfl) _
  exact ⟨by simpa using block_set h.1 2 (.bool b), h.2.1.apart f (fun b e e2 => h.ne (e2 ▸ e)) (fun _ h => h), h.2.2⟩
/-- A state more. -/
theorem SearchR.more {w w' : World} {sb L d : Nat} {u sv v' dv lv : Value} {s : LSt} {m : List MItem} {cs : List Value} (h0 : w.heap[sb]? = some (.cells #[u, sv, .bool s.2] 177 (0, 0))) (hr : Row kSt (fun b => sv.ownBlock ≠ some b ∧ b ≠ sb) w cs (rStates L s.1)) (hs : ∀ p ∈ s.1, p.1 < 2 ^ L) (hne : sv.ownBlock ≠ some sb)
    (hd : d < 2 ^ L) (hdv : Sl kBool (Apart sb sv) w dv (lBits d L)) (hlv : Sl kItem (Apart sb sv) w lv m) (hL : L ≤ 100) (hm : m.length ≤ 1000)
    (g : GRow w' 143 2 v' (s.1.length + 1) (cs ++ [dv, lv])) (f : Fr (fun b => sv.ownBlock = some b) w w') (hv : Moved w sv v') :
    SearchR (w'.setCell ⟨sb, 1, none⟩ v') sb u v' L ((d, m) :: s.1, s.2) ∧ Fr (Held sb sv) w (w'.setCell ⟨sb, 1, none⟩ v') := by
  have hsz : sb < w.heap.size := lt_of_block h0
  have hne' : v'.ownBlock ≠ some sb := fun e => by
    rcases hv with hv | ⟨n, hv, hn⟩
    · exact hne (hv ▸ e)
    · rw [hv] at e
      cases e
      omega
  have fS : Fr (fun b => b = sb) w' (w'.setCell ⟨sb, 1, none⟩ v') := (Fr.refl (fun b => b = sb) w').setCell (p := ⟨sb, 1, none⟩) (.inl rfl) _
  have hx : kSt.rd (fun b => sv.ownBlock ≠ some b ∧ b ≠ sb) w [dv, lv] (lBits d L, m) :=
    ⟨[dv], [lv], rfl, ⟨dv, rfl, hdv, by rw [lBits_len]; unfold reachBytes; omega⟩, ⟨lv, rfl, hlv, by show m.length * 32 ≤ _; unfold reachBytes; omega⟩⟩
  have hp := BuildS.push (e := 143) (S := fun b => b ≠ sb) (k := kSt) hr hx (by rw [rStates_len]; exact g) f hv
  refine ⟨⟨by simpa using block_set (f.heap h0 hne) 1 v', ?_, fun p hp => ?_⟩, (f.mono fun _ _ e => .inr e).trans (fS.mono fun _ _ e => .inl e)⟩
  · rw [rStates_cons]
    exact hp.apart fS (fun b e e2 => hne' (e2 ▸ e)) (fun _ h => h)
  · rcases List.mem_cons.1 hp with rfl | hp
    · exact hd
    · exact hs p hp
/-- A state seen, held. -/
theorem state_at {S : Nat → Prop} {w : World} {L n c : Nat} {a : Option Addr} {s : List (Nat × List MItem)} (h : Sl kSt S w (.slice a n c) (rStates L s)) (j : Nat) (hj : j < s.length) :
    ∃ B O da dc ma mc d' m', a = some ⟨B, O, none⟩ ∧ (d', m') ∈ s ∧ (rStates L s)[j]? = some (lBits d' L, m') ∧ Sl kBool S w (.slice da L dc) (lBits d' L) ∧ Sl kItem S w (.slice ma (m' : List MItem).length mc) m' ∧
      ∀ y, Fr Non w y → (Instr.loadAt 143 (.pointer (some ⟨B, O + j * 2, none⟩))).run Try.prog y = .ok (.agg #[.slice da L dc, .slice ma m'.length mc]) y := by
  have hj2 : j < (rStates L s).length := by rw [rStates_len]; exact hj
  obtain ⟨⟨d', m'⟩, hp, e⟩ := rStates_at j hj2
  obtain ⟨b, o, cs, rfl, _, _, _, hr, hc⟩ := h.at j hj2
  have hq : (rStates L s)[j]? = some (lBits d' L, m') := by rw [List.getElem?_eq_getElem hj2, e]
  rw [e] at hr
  obtain ⟨c1, c2, rfl, ⟨dv, rfl, h1, _⟩, ⟨lv, rfl, h2, _⟩⟩ := hr
  obtain ⟨da, dc, rfl, _⟩ := id h1.frm
  obtain ⟨ma, mc, rfl, _⟩ := id h2.frm
  simp only at hc h1 h2
  rw [lBits_len] at h1 hc
  refine ⟨b, o, da, dc, ma, mc, d', m', rfl, hp, hq, h1, h2, fun y f => ?_⟩
  have := run_loadAt_list (P := Try.prog) (w := y) (t := 143) (b := b) (o := o + j * 2) [.slice da L dc, .slice ma m'.length mc] _ Try.underlying143 rfl (by kernel_rfl) (fun i v hv => by
    obtain ⟨hi, rfl⟩ := List.getElem?_eq_some_iff.1 hv
    have hsz : kSt.sz = 2 := rfl
    have := hc i hi
    rw [hsz] at this
    exact f.cell this id)
  simpa using this
/-- What is told of one that is done, with its blocks, opened. -/
def DoneInS (S : Nat → Prop) (L d i : Nat) (m : List MItem) (x : MHap) (a1 : Option Addr) (n1 c1 : Nat) (a2 : Option Addr) (n2 c2 : Nat) (b : Bool) (w' : World) : Prop :=
  match lAfter m x with | none => b = false | some n => b = true ∧ Sl kBool S w' (.slice a1 n1 c1) (lBits (d ||| 2 ^ i) L) ∧ Sl kItem S w' (.slice a2 n2 c2) n
theorem DoneS.open {S T : Nat → Prop} {z L d i : Nat} {m : List MItem} {x : MHap} {e : Ending} {w' : World} (h : DoneS S z L d i m x e w') (h1 : ∀ b, S b → T b) (h2 : ∀ b, z ≤ b → T b) : ∃ a1 n1 c1 a2 n2 c2 b, e = .returned (.tuple #[.agg #[.slice a1 n1 c1, .slice a2 n2 c2], .bool b]) ∧
    Hid (DoneInS T L d i m x a1 n1 c1 a2 n2 c2 b w') := by
  unfold DoneS at h
  unfold DoneInS
  cases ha : lAfter m x with
  | none =>
    rw [ha] at h
    exact ⟨_, _, _, _, _, _, _, h, Lib.hid rfl⟩
  | some n =>
    rw [ha] at h
    obtain ⟨dv, lv, rfl, h3, h4⟩ := h
    obtain ⟨a1, c1, rfl, _⟩ := h3.frm
    obtain ⟨a2, c2, rfl, _⟩ := h4.frm
    exact ⟨_, _, _, _, _, _, _, rfl, Lib.hid ⟨rfl, h3.mono fun b _ hb => h2 b hb, h4.mono fun b _ hb => hb.elim (h1 b) (h2 b)⟩⟩
theorem DoneInS.frame {S S' T : Nat → Prop} {L d i : Nat} {m : List MItem} {x : MHap} {a1 : Option Addr} {n1 c1 : Nat} {a2 : Option Addr} {n2 c2 : Nat} {b : Bool} {w w' : World} (h : DoneInS S L d i m x a1 n1 c1 a2 n2 c2 b w) (f : Fr T w w') (hd : ∀ b, b < w.heap.size → S b → ¬ T b) (hS : ∀ b, b < w.heap.size → S b → S' b) : DoneInS S' L d i m x a1 n1 c1 a2 n2 c2 b w' := by
  unfold DoneInS at h ⊢
  cases ha : lAfter m x with
  | none => rw [ha] at h; exact h
  | some n =>
    rw [ha] at h
    exact ⟨h.1, h.2.1.fr (fun b hb hs => f.block b hb (hd b hb hs)) hS, h.2.2.fr (fun b hb hs => f.block b hb (hd b hb hs)) hS⟩
/-- Behind one that is done. -/
def CutL (sb : Nat) (sv : Value) (W : World) (L d i : Nat) (m : List MItem) (x : MHap) (p b : Value) (wx : World) : Prop := ∃ D a1 n1 c1 a2 n2 c2 bb, p = .pointer (some ⟨D, 0, none⟩) ∧ b = .bool bb ∧ W.heap.size ≤ D ∧
  wx.heap[D]? = some (.cells #[.slice a1 n1 c1, .slice a2 n2 c2] 143 (0, 0)) ∧ DoneInS (Apart sb sv) L d i m x a1 n1 c1 a2 n2 c2 bb wx ∧ Fr Non W wx
theorem GRow.own0 {w : World} {b : Nat} (h : w.heap[b]? = some (.cells #[] 3 (0, 0))) : GRow w 3 1 (.slice (some ⟨b, 0, none⟩) 0 0) 0 [] :=
  ⟨rfl, .inr ⟨b, 0, #[], rfl, h, Nat.le_refl _, by unfold maxLen; omega, by simp, by simp⟩⟩
theorem ints_src {S : Nat → Prop} {w : World} {a : Option Addr} {n c : Nat} {l : List Int} (h : Sl kI S w (.slice a n c) l) : Src w 1 (.slice a n c) l.length (ints l) := by
  refine ⟨by simp [ints], fun u hu => ?_, ?_⟩
  · obtain ⟨x, _, rfl⟩ := List.mem_map.1 hu
    rfl
  · rcases id h with ⟨e, rfl⟩ | ⟨ad, c', e, _⟩
    · exact .inl ⟨e, rfl⟩
    · cases e
      exact .inr ⟨ad, _, rfl, ints_cells h⟩
/-- What a look tells. -/
def LookRR (w0 : World) (sb : Nat) (u sv : Value) (L : Nat) (x : LSt × Option (List Int)) (r b : Value) (w' : World) : Prop :=
  ∃ sv', SearchR w' sb u sv' L x.1 ∧ Fr (Held sb sv) w0 w' ∧ Moved w0 sv sv' ∧ (match x.2 with
    | none => r = .slice none 0 0 ∧ b = .bool false
    | some q => b = .bool true ∧ Sl kI (Apart sb sv') w' r q)
end Go.Proofs.Ytplhcfaonhkegaa

namespace Go.Proofs.Ytplhcfaonhkegaa
open Go.RowKit Go.Maps

def RLook (l : List MHap) (n : Nat) : Prop := ∀ (w : World) (sb : Nat) (u sv dv v ov : Value) (m : List MItem) (o : List Int) (d : Nat) (s : LSt), SearchR w sb u sv l.length s →
    Sl kHap (Apart sb sv) w u l → Sl kBool (Apart sb sv) w dv (lBits d l.length) → Sl kItem (Apart sb sv) w v m → Sl kI (Apart sb sv) w ov o →
    m.length + n ≤ 200 → o.length + n ≤ 200 → d < 2 ^ l.length → lUnset d l.length + 1 ≤ n →
    Calls Try.prog 124 #[.pointer (some ⟨sb, 0, none⟩), .agg #[dv, v], ov] w fun e w' => ∃ r b, e = .returned (.tuple #[r, b]) ∧ LookRR w sb u sv l.length (lLook l n d m o s) r b w'
set_option maxRecDepth 100000 in
set_option maxHeartbeats 4000000 in
theorem rlook_step {l : List MHap} (h64 : l.length ≤ 64) (hmay : ∀ x ∈ l, lMay x = true) (n : Nat) (hIH : RLook l n) : RLook l (n + 1) := by
  intro w sb u sv dv v ov m o d s hs hl hdv hm ho hml hol hd hun
  have IH := Lib.hid hIH
  obtain ⟨ua, uc, rfl, _⟩ := hl.frm
  obtain ⟨va, vc, rfl, _⟩ := hm.frm
  obtain ⟨da, dc, rfl, _⟩ := hdv.frm
  obtain ⟨oa, oc, rfl, _⟩ := ho.frm
  obtain ⟨sa, sc, rfl, hsl, hsx, _⟩ := hs.sl.frm
  unfold maxLen at hsx
  rw [rStates_len] at hs hl hdv hm ho hsl ⊢
  rw [lBits_len] at hdv ⊢
  obtain ⟨R, hR⟩ : ∃ R, lLook l (n + 1) d m o s = R := ⟨_, rfl⟩
  have HR := Lib.hid hR
  rw [hR]
  obtain ⟨W, hW⟩ : ∃ W, w.alloc (.cells #[.slice da l.length dc, .slice va m.length vc] 143) = W := ⟨_, rfl⟩
  have f0 : Fr Non w W := by rw [← hW]; exact (Fr.refl _ _).alloc _
  have b1 : W.heap[w.heap.size]? = some (.cells #[.slice da l.length dc, .slice va m.length vc] 143 (0, 0)) := by rw [← hW]; exact alloc_at w _
  have F0 := Lib.hid f0
  have HS := Lib.hid (hs.fr f0)
  have HL := Lib.hid (hl.stay f0)
  have HDV := Lib.hid (hdv.stay f0)
  have HM := Lib.hid (hm.stay f0)
  have HO := Lib.hid (ho.stay f0)
  obtain ⟨D, hD⟩ : ∃ D, w.heap.size = D := ⟨_, rfl⟩
  rw [hD] at b1
  have HDW := Lib.hid (show w.heap.size ≤ D from Nat.le_of_eq hD)
  have HBX := Lib.hid b1
  have HSB := Lib.hid (lt_of_block hs.1)
  have HSV := Lib.hid hs.2.1.lt
  clear hs hl hdv hm ho b1 f0 hR
  go_enter Try.func124, Try.ntmps124
  go_wp2_with fail
  clear hW hD
  go_loopw [8] (fun iv wr => ∃ (j : Nat), j ≤ s.1.length ∧ iv = .int .i64 j ∧ Hid (Fr Non W wr ∧ ∀ k, k < j → (rStates l.length s.1)[k]? ≠ some (lBits d l.length, m))) (fun iv _ => s.1.length - (intOf iv).toNat)
  case atStart => exact ⟨0, by omega, rfl, Fr.refl _ _, fun k hk => by omega⟩
  case round =>
    obtain ⟨j, hj, rfl, HI⟩ := hrel
    have j0 : (0 : Int) ≤ (j : Int) := by omega
    have FR := Lib.hid HI.out.1
    have HK := Lib.hid HI.out.2
    have HSR := Lib.hid (HS.out.fr FR.out)
    obtain ⟨qb, zb⟩ := box_facts HSR.out.1
    have q1 : wr.cell? ⟨sb, 1, none⟩ = some (.slice sa s.1.length sc) := by rw [qb]; rfl
    clear HI qb zb
    by_cases hlt : j < s.1.length
    · have j1 : (j : Int) < (s.1.length : Int) := by omega
      obtain ⟨B, O, ea, ec, ga, gc, d', m', e, hmem, hat, hd', hm', hld⟩ := state_at HSR.out.sl j hlt
      subst e
      have Q1 := Lib.hid (fun (y : World) (f : Fr Non wr y) => f.cell q1 id)
      have HLD := Lib.hid hld
      have LC := Lib.hid (fun (y : World) (f : Fr Non wr y) => load143 (f.heap (FR.out.heap HBX.out id) id))
      have HSM := Lib.hid (fun (y : World) (f : Fr Non wr y) => rstate_same (by omega) ((hd'.stay f).all) ((HDV.out.stay (FR.out.trans f)).all) ((hm'.stay f).all) ((HM.out.stay (FR.out.trans f)).all))
      have HAT := Lib.hid hat
      have HMEM := Lib.hid hmem
      obtain ⟨bb, hbb⟩ : ∃ b, decide (lBits d' l.length = lBits d l.length ∧ m' = m) = b := ⟨_, rfl⟩
      rw [hbb] at HSM
      have HBB := Lib.hid hbb
      have fd : Fr Non wr wr.drew := (Fr.refl _ _).drew
      clear hd' hm' hld hat hmem hbb
      go_wp2_with fail
      clear q1
      refine wp_draw [((fun y => Fr Non wr y), [(.free, 0), (.free, 1), (.free, 2), (.held, 3), (.free, 4), (.free, 5), (.held, 6), (.held, 7), (.kept, 8)])] 9 (by kernel_rfl) (by kernel_rfl) (fun _ _ _ _ _ h => h) ⟨fd, ?_⟩
      generalize wr.drew = wd at fd ⊢
      repeat (first
        | (refine' wpPlan_free (v := _) rfl (by rfl) ?_ ?_
           rotate_left
           · (intro w'; skip; go_simp; try rfl)
           simp only [List.getElem_toArray, List.getElem_cons_zero, List.getElem_cons_succ, Act.put, List.setIfInBounds_toArray, List.set_cons_zero, List.set_cons_succ])
        | (refine' wpPlan_held (v := _) rfl (by rfl) (fun w' hS => held_of (HLD.out w' hS)) ?_
           simp only [List.getElem_toArray, List.getElem_cons_zero, List.getElem_cons_succ, Act.put, List.setIfInBounds_toArray, List.set_cons_zero, List.set_cons_succ])
        | (refine' wpPlan_held (v := _) rfl (by rfl) (fun w' hS => held_of (LC.out w' hS)) ?_
           simp only [List.getElem_toArray, List.getElem_cons_zero, List.getElem_cons_succ, Act.put, List.setIfInBounds_toArray, List.set_cons_zero, List.set_cons_succ])
        | (refine' wpPlan_held (v := _) rfl (by rfl) ?_ ?_
           rotate_left
           · (intro w' hS; skip; have q1 := Q1.out w' hS; clear hS; go_simp; try rfl)
           simp only [List.getElem_toArray, List.getElem_cons_zero, List.getElem_cons_succ, Act.put, List.setIfInBounds_toArray, List.set_cons_zero, List.set_cons_succ])
        | (refine' wpPlan_skip rfl (by rfl) ?_
           simp only [List.getElem_toArray, List.getElem_cons_zero, List.getElem_cons_succ, Act.put, List.setIfInBounds_toArray, List.set_cons_zero, List.set_cons_succ])
        | (refine' wpPlan_skipHeld rfl (by rfl) ?_
           simp only [List.getElem_toArray, List.getElem_cons_zero, List.getElem_cons_succ, Act.put, List.setIfInBounds_toArray, List.set_cons_zero, List.set_cons_succ]))
      refine' wpPlan_kept rfl ?_
      intro K hK
      go_simp
      refine (HSM.out _ fd).mono ?_
      rintro e y1 ⟨rfl, g1⟩
      go_simp
      have fd1 := fd.trans g1
      refine hK _ _ ⟨fd1, ?_⟩
      clear hK K fd g1
      refine wpPlan_end ?_
      simp only [wpSegs, List.drop_succ_cons, List.drop_zero]
      cases bb with
      | true =>
        have HE := Lib.hid (show R = (s, none) by
          rw [← HR.out, lLook, if_pos]
          have h := of_decide_eq_true HBB.out
          refine (rStates_mem HS.out.2.2 hd).1 ?_
          rw [← h.1, ← h.2]
          exact List.mem_of_getElem? HAT.out)
        go_wp2_with fail
        (try rw [Exit.noGoto_ret])
        refine bodyPost_ret (v := .tuple #[.slice none 0 0, .bool false]) (by simp [results, Try.results124, go_sem]) rfl ⟨_, _, rfl, ?_⟩
        rw [HE.out]
        exact ⟨_, HSR.out.fr fd1, (F0.out.trans (FR.out.trans fd1)).mono (fun _ _ h => h.elim), Moved.refl _ _, rfl, rfl⟩
      | false =>
        go_wp2_with fail
        go_roundw
        case rel => exact ⟨j + 1, by omega, by go_num, FR.out.trans fd1, fun k hk => by
          by_cases e : k = j
          · subst e
            intro e2
            rw [HAT.out] at e2
            have e3 := Option.some.inj e2
            simp only [Prod.mk.injEq] at e3
            exact of_decide_eq_false HBB.out e3
          · exact HK.out k (by omega)⟩
        case measure => simp [intOf]; omega
    · obtain rfl : j = s.1.length := by omega
      have HNOT := Lib.hid (show ¬ (d, m) ∈ s.1 from fun hin => by
        have h := (rStates_mem (m := m) HS.out.2.2 hd).2 hin
        obtain ⟨k, hk, e⟩ := List.getElem_of_mem h
        rw [rStates_len] at hk
        exact HK.out k hk (by rw [List.getElem?_eq_getElem (by rw [rStates_len]; exact hk), e]))
      clear HK
      have q2 : wr.cell? ⟨sb, 2, none⟩ = some (.bool s.2) := by rw [(box_facts HSR.out.1).1]; rfl
      have z2 := (box_facts HSR.out.1).2 2
      by_cases hbig : 16384 ≤ s.1.length
      · have g0 : (16384 : Int) ≤ (s.1.length : Int) := by omega
        have g1 : decide (16384 ≤ s.1.length) = true := decide_eq_true hbig
        have HE := Lib.hid (show R = ((s.1, true), none) by rw [← HR.out, lLook, if_neg HNOT.out, if_pos hbig])
        have HSF := Lib.hid (HSR.out.full true)
        go_wp2_with fail
        (try rw [Exit.noGoto_ret])
        refine bodyPost_ret (v := .tuple #[.slice none 0 0, .bool false]) (by simp [results, Try.results124, go_sem]) rfl ⟨_, _, rfl, ?_⟩
        rw [HE.out]
        exact ⟨_, HSF.out, ((F0.out.trans FR.out).mono (fun _ _ h => h.elim)).trans ((Fr.refl (Held sb _) wr).setCell (p := ⟨sb, 2, none⟩) (.inl (.inl rfl)) _), Moved.refl _ _, rfl, rfl⟩
      have g0 : ¬ (16384 : Int) ≤ (s.1.length : Int) := by omega
      have g1 : decide (16384 ≤ s.1.length) = false := decide_eq_false hbig
      go_wp2_with fail
      have HQ := Lib.hid (fun (y : World) (f : Fr (fun b => (Value.slice sa s.1.length sc).ownBlock = some b) wr y) => (box_facts (f.heap HSR.out.1 HSR.out.ne)).1)
      have Q1 := Lib.hid (fun (y : World) (f : Fr (fun b => (Value.slice sa s.1.length sc).ownBlock = some b) wr y) => show y.cell? ⟨sb, 1, none⟩ = some (.slice sa s.1.length sc) by rw [HQ.out y f]; rfl)
      have HBW := Lib.hid (FR.out.heap HBX.out id)
      have hDne : ∀ b, (Value.slice sa s.1.length sc).ownBlock = some b → b < D := fun b hb => by have := HSV.out b hb; have := HDW.out; omega
      have LC := Lib.hid (fun (y : World) (f : Fr (fun b => (Value.slice sa s.1.length sc).ownBlock = some b) wr y) => load143 (f.heap HBW.out fun e => by have := hDne _ e; omega))
      obtain ⟨cs, g9, hrow⟩ := HSR.out.2.1
      have hn9 : s.1.length < 16384 := by omega
      rw [rStates_len] at g9
      have G9 := Lib.hid (show GRow wr 143 2 (.slice sa s.1.length sc) s.1.length cs from g9)
      have HROW := Lib.hid hrow
      clear q1 q2 z2 g0 g1 g9 hrow hsl hsx
      have fd2 : Fr Non wr wr.drew := (Fr.refl _ _).drew
      refine wp_draw [((fun y => Fr (fun b => (Value.slice sa s.1.length sc).ownBlock = some b) wr y), [(.free, 0), (.free, 1), (.free, 2), (.free, 3), (.held, 4), (.held, 5), (.kept, 6), (.kept, 7), (.free, 8), (.free, 9)])] 10 (by kernel_rfl) (by kernel_rfl) (fun _ _ _ _ _ h => h) ⟨(fd2.mono fun _ _ h => h.elim), ?_⟩
      generalize wr.drew = we at fd2 ⊢
      repeat (first
        | (refine' wpPlan_free (v := _) rfl (by rfl) ?_ ?_
           rotate_left
           · (intro w'; skip; go_simp; try rfl)
           simp only [List.getElem_toArray, List.getElem_cons_zero, List.getElem_cons_succ, Act.put, List.setIfInBounds_toArray, List.set_cons_zero, List.set_cons_succ])
        | (refine' wpPlan_held (v := _) rfl (by rfl) (fun w' hS => held_of (LC.out w' hS)) ?_
           simp only [List.getElem_toArray, List.getElem_cons_zero, List.getElem_cons_succ, Act.put, List.setIfInBounds_toArray, List.set_cons_zero, List.set_cons_succ])
        | (refine' wpPlan_held (v := _) rfl (by rfl) ?_ ?_
           rotate_left
           · (intro w' hS; skip; have q1 := Q1.out w' hS; clear hS; go_simp; try rfl)
           simp only [List.getElem_toArray, List.getElem_cons_zero, List.getElem_cons_succ, Act.put, List.setIfInBounds_toArray, List.set_cons_zero, List.set_cons_succ])
        | (refine' wpPlan_skip rfl (by rfl) ?_
           simp only [List.getElem_toArray, List.getElem_cons_zero, List.getElem_cons_succ, Act.put, List.setIfInBounds_toArray, List.set_cons_zero, List.set_cons_succ])
        | (refine' wpPlan_skipHeld rfl (by rfl) ?_
           simp only [List.getElem_toArray, List.getElem_cons_zero, List.getElem_cons_succ, Act.put, List.setIfInBounds_toArray, List.set_cons_zero, List.set_cons_succ]))
      refine' wpPlan_kept rfl ?_
      intro K hK
      go_simp
      have f9 := fd2.alloc (.cells #[.slice da l.length dc, .slice va m.length vc] 143)
      refine hK _ _ ⟨f9.mono (fun _ _ h => h.elim), ?_⟩
      clear hK K
      refine' wpPlan_kept rfl ?_
      intro K hK
      refine step_append_g rfl _ _ eI143 rfl _ s.1.length cs rfl (G9.out.keep fun b hb => f9.block b (G9.out.lt b hb) id) _ 1 [.slice da l.length dc, .slice va m.length vc] rfl (Src.block (m := 1) (alloc_at we _) rfl (by simp [Value.oneCell'])) (by unfold maxLen; omega) (by omega) ?_
      intro v' w8 r1 r2 r3 r4
      refine hK _ _ ⟨(f9.mono (fun _ _ h => h.elim)).trans r2, ?_⟩
      clear hK K
      repeat (first
        | (refine' wpPlan_free (v := _) rfl (by rfl) ?_ ?_
           rotate_left
           · (intro w'; skip; go_simp; try rfl)
           simp only [List.getElem_toArray, List.getElem_cons_zero, List.getElem_cons_succ, Act.put, List.setIfInBounds_toArray, List.set_cons_zero, List.set_cons_succ])
        | (refine' wpPlan_held (v := _) rfl (by rfl) ?_ ?_
           rotate_left
           · (intro w' hS; skip; clear hS; go_simp; try rfl)
           simp only [List.getElem_toArray, List.getElem_cons_zero, List.getElem_cons_succ, Act.put, List.setIfInBounds_toArray, List.set_cons_zero, List.set_cons_succ])
        | (refine' wpPlan_skip rfl (by rfl) ?_
           simp only [List.getElem_toArray, List.getElem_cons_zero, List.getElem_cons_succ, Act.put, List.setIfInBounds_toArray, List.set_cons_zero, List.set_cons_succ])
        | (refine' wpPlan_skipHeld rfl (by rfl) ?_
           simp only [List.getElem_toArray, List.getElem_cons_zero, List.getElem_cons_succ, Act.put, List.setIfInBounds_toArray, List.set_cons_zero, List.set_cons_succ]))
      refine wpPlan_end ?_
      simp only [wpSegs, List.drop_succ_cons, List.drop_zero]
      have hmv : Moved wr (.slice sa s.1.length sc) v' := by
        rcases r3 with r3 | ⟨r3, _⟩
        · exact .inl r3
        · exact .inr ⟨_, r3, by have := fd2.size; simp; omega⟩
      have HSF := Lib.hid (SearchR.more (v' := v') (f9.heap HSR.out.1 id) (HROW.out.fr (fun b hb _ => f9.block b hb id) (fun _ _ h => h)) HSR.out.2.2 HSR.out.ne hd ((HDV.out.stay FR.out).stay f9) ((HM.out.stay FR.out).stay f9) (by omega) (by omega) r1 r2 (by
        rcases r3 with r3 | ⟨r3, _⟩
        · exact .inl r3
        · exact .inr ⟨_, r3, Nat.le_refl _⟩))
      obtain ⟨xa, xc, rfl⟩ := r1.form
      have HB8 := Lib.hid (r2.heap (f9.heap HSR.out.1 id) HSR.out.ne)
      obtain ⟨y0, y1⟩ := box_facts HB8.out
      have q1 : w8.cell? ⟨sb, 1, none⟩ = some (.slice sa s.1.length sc) := by rw [y0]; rfl
      have z1 := y1 1
      have FW := Lib.hid ((f9.mono (fun _ _ h => h.elim)).trans HSF.out.2)
      have F1 := Lib.hid (((F0.out.trans FR.out).mono (fun _ _ h => h.elim)).trans FW.out)
      have M1 := Lib.hid hmv
      have HS1 := Lib.hid HSF.out.1
      have HL1 := Lib.hid (apart_fr (HL.out.stay FR.out) FW.out hmv)
      have HDV1 := Lib.hid (apart_fr (HDV.out.stay FR.out) FW.out hmv)
      have HM1 := Lib.hid (apart_fr (HM.out.stay FR.out) FW.out hmv)
      have HO1 := Lib.hid (apart_fr (HO.out.stay FR.out) FW.out hmv)
      have HB1 := Lib.hid (FW.out.heap HBW.out (fun e => by
        rcases e with e | e
        · have := HSB.out; have := HDW.out; omega
        · have := hDne _ e; omega))
      have HDN := Lib.hid (show D ≠ sb ∧ (Value.slice xa (s.1.length + 1) xc).ownBlock ≠ some D from ⟨by have := HSB.out; have := HDW.out; omega, fun e => by
        rcases hmv with h | ⟨n, h, hn⟩
        · have := hDne _ (h ▸ e); omega
        · rw [h] at e
          cases e
          have := lt_of_block HBW.out
          omega⟩)
      have HR2 := Lib.hid (show R = if lWhole l d then (((d, m) :: s.1, s.2), some o) else lLoop l (lLook l n) d m o l.length 0 ((d, m) :: s.1, s.2) by rw [← HR.out, lLook, if_neg HNOT.out, if_neg hbig])
      have M1w : Hid (Moved w (.slice sa s.1.length sc) (.slice xa (s.1.length + 1) xc)) := Lib.hid (by
        rcases hmv with h | ⟨n, h, hn⟩
        · exact .inl h
        · exact .inr ⟨n, h, by have := (F0.out.trans FR.out).size; omega⟩)
      clear y0 y1 hmv r1 r2 r3 r4 f9 fd2 HSF HROW G9 LC Q1 HQ HB8
      obtain ⟨s1, hs1⟩ : ∃ s1 : LSt, s1 = ((d, m) :: s.1, s.2) := ⟨_, rfl⟩
      have HSL1 := Lib.hid (show s1.1.length = s.1.length + 1 by rw [hs1]; rfl)
      rw [← hs1] at HS1 HR2
      obtain ⟨sv, hsv⟩ : ∃ sv, sv = Value.slice sa s.1.length sc := ⟨_, rfl⟩
      rw [← hsv] at F1 M1w
      go_wp2_with fail
      generalize w8.setCell { block := sb, off := 1 } (Value.slice xa (s.1.length + 1) xc) = W1 at HS1 F1 HL1 HDV1 HM1 HO1 HB1 ⊢
      obtain ⟨sv1, hsv1⟩ : ∃ sv, sv = Value.slice xa (s.1.length + 1) xc := ⟨_, rfl⟩
      rw [← hsv1] at HS1 M1w HL1 HDV1 HM1 HO1 HDN
      have HQ := Lib.hid (fun (y : World) (f : Fr Non W1 y) => (box_facts (f.heap HS1.out.1 id)).1)
      have LC := Lib.hid (fun (y : World) (f : Fr Non W1 y) => load143 (f.heap HB1.out id))
      have HW := Lib.hid (fun (y : World) (f : Fr Non W1 y) => rall_any (lv := .slice va m.length vc) ((HL1.out.stay f).all) d ((HDV1.out.stay f).all))
      have HFIN := Lib.hid (fun (y : World) (sv' : Value) (f : Fr (Held sb sv1) W1 y) (hm : Moved W1 sv1 sv') => And.intro (held_trans F1.out M1w.out f) (M1w.out.trans hm F1.out.size))
      clear F1 M1w FW M1 HS HL HDV HM HO HBX F0 FR HSR HBW q1 z1 hDne HSB HSV
      have fd : Fr Non W1 W1.drew := (Fr.refl _ _).drew
      refine wp_draw [((fun y => Fr Non W1 y), [(.free, 0), (.free, 1), (.free, 2), (.held, 3), (.held, 4), (.kept, 5)])] 6 (by kernel_rfl) (by kernel_rfl) (fun _ _ _ _ _ h => h) ⟨fd, ?_⟩
      generalize W1.drew = wd at fd ⊢
      repeat (first
        | (refine' wpPlan_free (v := _) rfl (by rfl) ?_ ?_
           rotate_left
           · (intro w'; skip; go_simp; try rfl)
           simp only [List.getElem_toArray, List.getElem_cons_zero, List.getElem_cons_succ, Act.put, List.setIfInBounds_toArray, List.set_cons_zero, List.set_cons_succ])
        | (refine' wpPlan_held (v := _) rfl (by rfl) (fun w' hS => held_of (LC.out w' hS)) ?_
           simp only [List.getElem_toArray, List.getElem_cons_zero, List.getElem_cons_succ, Act.put, List.setIfInBounds_toArray, List.set_cons_zero, List.set_cons_succ])
        | (refine' wpPlan_held (v := _) rfl (by rfl) ?_ ?_
           rotate_left
           · (intro w' hS; skip; have q0 := HQ.out w' hS 0; clear hS; go_simp; try rfl)
           simp only [List.getElem_toArray, List.getElem_cons_zero, List.getElem_cons_succ, Act.put, List.setIfInBounds_toArray, List.set_cons_zero, List.set_cons_succ])
        | (refine' wpPlan_skip rfl (by rfl) ?_
           simp only [List.getElem_toArray, List.getElem_cons_zero, List.getElem_cons_succ, Act.put, List.setIfInBounds_toArray, List.set_cons_zero, List.set_cons_succ])
        | (refine' wpPlan_skipHeld rfl (by rfl) ?_
           simp only [List.getElem_toArray, List.getElem_cons_zero, List.getElem_cons_succ, Act.put, List.setIfInBounds_toArray, List.set_cons_zero, List.set_cons_succ]))
      refine' wpPlan_kept rfl ?_
      intro K hK
      go_simp
      refine (HW.out _ fd).mono ?_
      rintro e W2 ⟨rfl, g1⟩
      go_simp
      have FD := Lib.hid (fd.trans g1)
      refine hK _ _ ⟨FD.out, ?_⟩
      clear hK K fd g1
      refine wpPlan_end ?_
      simp only [wpSegs, List.drop_succ_cons, List.drop_zero]
      obtain ⟨bw, hbw⟩ : ∃ b, lWhole l d = b := ⟨_, rfl⟩
      rw [hbw] at HR2 ⊢
      have HS2 := Lib.hid (HS1.out.fr FD.out)
      have HO2 := Lib.hid (HO1.out.stay FD.out)
      have HL2 := Lib.hid (HL1.out.stay FD.out)
      have HDV2 := Lib.hid (HDV1.out.stay FD.out)
      have HM2 := Lib.hid (HM1.out.stay FD.out)
      have HB2 := Lib.hid (FD.out.heap HB1.out id)
      replace HFIN := Lib.hid (fun (y : World) (sv' : Value) (f : Fr (Held sb sv1) W2 y) (hm : Moved W2 sv1 sv') => HFIN.out y sv' ((FD.out.mono (fun _ _ h => h.elim)).trans f) ((Moved.refl W1 sv1).trans hm FD.out.size))
      clear hbw HS1 HO1 HL1 HDV1 HM1 HB1 HW LC HQ FD
      cases bw with
      | true =>
        have HE := Lib.hid (show R = (s1, some o) by rw [HR2.out, if_pos rfl])
        go_wp2_with fail
        (try rw [Exit.noGoto_ret])
        refine bodyPost_ret (v := .tuple #[.slice oa o.length oc, .bool true]) (by simp [results, Try.results124, go_sem]) rfl ⟨_, _, rfl, ?_⟩
        rw [HE.out, ← hsv]
        exact ⟨sv1, HS2.out, (HFIN.out _ sv1 (Fr.refl _ _) (Moved.refl _ _)).1, (HFIN.out _ sv1 (Fr.refl _ _) (Moved.refl _ _)).2, rfl, HO2.out⟩
      | false =>
      replace HR2 := Lib.hid (show R = lLoop l (lLook l n) d m o l.length 0 s1 by rw [HR2.out, if_neg (by simp)])
      have q0 : W2.cell? ⟨sb, 0, none⟩ = some (.slice ua l.length uc) := by rw [(box_facts HS2.out.1).1]; rfl
      go_wp2_with fail
      clear q0
      go_loopw [9] (fun v wr => ∃ (i : Nat) (s' : LSt) (svr : Value), i ≤ l.length ∧ v = .int .i64 i ∧ Hid (SearchR wr sb (.slice ua l.length uc) svr l.length s' ∧ Fr (Held sb sv1) W2 wr ∧ Moved W2 sv1 svr ∧ R = lLoop l (lLook l n) d m o (l.length - i) i s')) (fun v _ => l.length - (intOf v).toNat)
      case atStart => exact ⟨0, s1, sv1, by omega, rfl, HS2.out, Fr.refl _ _, Moved.refl _ _, HR2.out⟩
      case round =>
        obtain ⟨i, si, svr, hi, rfl, HI⟩ := hrel
        obtain ⟨hsa, hfr, hmr, hri⟩ := HI.out
        have HSA := Lib.hid hsa
        have HFR := Lib.hid hfr
        have HMR := Lib.hid hmr
        have HRI := Lib.hid hri
        have i0 : (0 : Int) ≤ (i : Int) := by omega
        clear hsa hfr hmr hri HI HR2 HS2
        obtain ⟨y0, _⟩ := box_facts HSA.out.1
        have q0 : wr.cell? ⟨sb, 0, none⟩ = some (.slice ua l.length uc) := by rw [y0]; rfl
        have q2 : wr.cell? ⟨sb, 2, none⟩ = some (.bool si.2) := by rw [y0]; rfl
        clear y0
        by_cases hlt : i < l.length
        · have i1 : (i : Int) < (l.length : Int) := by omega
          have i2 : (i : Int) ≤ 64 := by omega
          have HSTEP := Lib.hid (show R = if si.2 then (si, none) else match lStep l d m i with
              | none => lLoop l (lLook l n) d m o (l.length - (i + 1)) (i + 1) si
              | some n' => match lLook l n (d ||| 2 ^ i) n' (o ++ [(i : Int)]) si with
                | (s', some r) => (s', some r)
                | (s', none) => lLoop l (lLook l n) d m o (l.length - (i + 1)) (i + 1) s' by
            rw [HRI.out, show l.length - i = (l.length - (i + 1)) + 1 by omega, lLoop]; rfl)
          obtain ⟨mb2, hmb2⟩ : ∃ b, si.2 = b := ⟨_, rfl⟩
          rw [hmb2] at HSTEP q2
          clear hmb2 HRI
          cases mb2 with
          | true =>
            have HE := Lib.hid (show R = (si, none) by rw [HSTEP.out, if_pos rfl])
            go_wp2_with fail
            (try rw [Exit.noGoto_ret])
            refine bodyPost_ret (v := .tuple #[.slice none 0 0, .bool false]) (by simp [results, Try.results124, go_sem]) rfl ⟨_, _, rfl, ?_⟩
            rw [HE.out, ← hsv]
            exact ⟨svr, HSA.out, (HFIN.out _ svr HFR.out HMR.out).1, (HFIN.out _ svr HFR.out HMR.out).2, rfl, rfl⟩
          | false =>
          replace HSTEP := HSTEP.out
          rw [if_neg (by simp)] at HSTEP
          rw [lStep_at hlt] at HSTEP
          replace HSTEP := Lib.hid HSTEP
          have HLR := Lib.hid (apart_fr HL2.out HFR.out HMR.out)
          have HDR := Lib.hid (apart_fr HDV2.out HFR.out HMR.out)
          have HMM := Lib.hid (apart_fr HM2.out HFR.out HMR.out)
          have HOR := Lib.hid (apart_fr HO2.out HFR.out HMR.out)
          have HBR := Lib.hid (HFR.out.heap HB2.out fun e => by
            rcases e with e | e
            · exact HDN.out.1 e
            · exact HDN.out.2 e)
          have HQ := Lib.hid (fun (y : World) (f : Fr Non wr y) => (box_facts (f.heap HSA.out.1 id)).1)
          have LC := Lib.hid (fun (y : World) (f : Fr Non wr y) => load143 (f.heap HBR.out id))
          have HN := Lib.hid (fun (y : World) (f : Fr Non wr y) => rnext_any (lv := .slice va m.length vc) ((HLR.out.stay f).all) hmay d ((HDR.out.stay f).all) i hlt)
          obtain ⟨nx, hnx⟩ : ∃ b, lNext l d i l[i] = b := ⟨_, rfl⟩
          have HNX := Lib.hid hnx
          rw [hnx] at HSTEP HN
          have fd : Fr Non wr wr.drew := (Fr.refl _ _).drew
          clear hnx
          go_wp2_with fail
          clear q0 q2
          refine wp_draw [((fun y => Fr Non wr y), [(.free, 0), (.free, 1), (.free, 2), (.held, 3), (.held, 4), (.free, 5), (.kept, 6), (.free, 7)])] 8 (by kernel_rfl) (by kernel_rfl) (fun _ _ _ _ _ h => h) ⟨fd, ?_⟩
          generalize wr.drew = wd at fd ⊢
          repeat (first
            | (refine' wpPlan_free (v := _) rfl (by rfl) ?_ ?_
               rotate_left
               · (intro w'; skip; go_simp; try rfl)
               simp only [List.getElem_toArray, List.getElem_cons_zero, List.getElem_cons_succ, Act.put, List.setIfInBounds_toArray, List.set_cons_zero, List.set_cons_succ])
            | (refine' wpPlan_held (v := _) rfl (by rfl) (fun w' hS => held_of (LC.out w' hS)) ?_
               simp only [List.getElem_toArray, List.getElem_cons_zero, List.getElem_cons_succ, Act.put, List.setIfInBounds_toArray, List.set_cons_zero, List.set_cons_succ])
            | (refine' wpPlan_held (v := _) rfl (by rfl) ?_ ?_
               rotate_left
               · (intro w' hS; skip; have q0 := HQ.out w' hS 0; clear hS; go_simp; try rfl)
               simp only [List.getElem_toArray, List.getElem_cons_zero, List.getElem_cons_succ, Act.put, List.setIfInBounds_toArray, List.set_cons_zero, List.set_cons_succ])
            | (refine' wpPlan_skip rfl (by rfl) ?_
               simp only [List.getElem_toArray, List.getElem_cons_zero, List.getElem_cons_succ, Act.put, List.setIfInBounds_toArray, List.set_cons_zero, List.set_cons_succ])
            | (refine' wpPlan_skipHeld rfl (by rfl) ?_
               simp only [List.getElem_toArray, List.getElem_cons_zero, List.getElem_cons_succ, Act.put, List.setIfInBounds_toArray, List.set_cons_zero, List.set_cons_succ]))
          refine' wpPlan_kept rfl ?_
          intro K hK
          go_simp
          refine (HN.out _ fd).mono ?_
          rintro e y1 ⟨rfl, g1⟩
          go_simp
          have fd1 := fd.trans g1
          refine hK _ _ ⟨fd1, ?_⟩
          clear hK K fd g1
          repeat (first
            | (refine' wpPlan_free (v := _) rfl (by rfl) ?_ ?_
               rotate_left
               · (intro w'; skip; go_simp; try rfl)
               simp only [List.getElem_toArray, List.getElem_cons_zero, List.getElem_cons_succ, Act.put, List.setIfInBounds_toArray, List.set_cons_zero, List.set_cons_succ])
            | (refine' wpPlan_held (v := _) rfl (by rfl) ?_ ?_
               rotate_left
               · (intro w' hS; skip; clear hS; go_simp; try rfl)
               simp only [List.getElem_toArray, List.getElem_cons_zero, List.getElem_cons_succ, Act.put, List.setIfInBounds_toArray, List.set_cons_zero, List.set_cons_succ])
            | (refine' wpPlan_skip rfl (by rfl) ?_
               simp only [List.getElem_toArray, List.getElem_cons_zero, List.getElem_cons_succ, Act.put, List.setIfInBounds_toArray, List.set_cons_zero, List.set_cons_succ])
            | (refine' wpPlan_skipHeld rfl (by rfl) ?_
               simp only [List.getElem_toArray, List.getElem_cons_zero, List.getElem_cons_succ, Act.put, List.setIfInBounds_toArray, List.set_cons_zero, List.set_cons_succ]))
          refine wpPlan_end ?_
          simp only [wpSegs, List.drop_succ_cons, List.drop_zero]
          cases nx with
          | false =>
            have HE := Lib.hid (show R = lLoop l (lLook l n) d m o (l.length - (i + 1)) (i + 1) si by rw [HSTEP.out]; simp)
            go_wp2_with fail
            go_roundw
            case rel => exact ⟨i + 1, si, svr, by omega, by go_num, HSA.out.fr fd1, HFR.out.trans (fd1.mono fun _ _ h => h.elim), HMR.out, HE.out⟩
            case measure => simp [intOf]; omega
          | true =>
          have HDO := Lib.hid (fun (y : World) (f : Fr Non wr y) => rdo24S_any (S := fun b => Apart sb svr b ∧ b < wr.heap.size) ((HLR.out.mono (fun b hb hs => And.intro hs hb) : Sl kHap (fun b => Apart sb svr b ∧ b < wr.heap.size) wr _ _).stay f) (by omega) d ((HDR.out.stay f).all) ((HMM.out.mono (fun b hb hs => And.intro hs hb) : Sl kItem (fun b => Apart sb svr b ∧ b < wr.heap.size) wr _ _).stay f) (by omega) i hlt)
          obtain ⟨X, hX⟩ : ∃ X, l[i] = X := ⟨_, rfl⟩
          rw [hX] at HSTEP HDO
          have HZB := Lib.hid (show ∀ b, wr.heap.size ≤ b → Apart sb svr b from fun b hb => ⟨fun e => by have := HSA.out.2.1.lt b e; omega, fun e => by have := lt_of_block HSA.out.1; omega⟩)
          clear hX HN
          go_upto_region 16 with (fail)
          go_cut [10, 11] (fun p b wx => Hid (CutL sb svr wr l.length d i m X p b wx))
          case first =>
            go_wp2_with fail
            have fd : Fr Non wr y1.drew := fd1.drew
            refine wp_drawT ((fun y => Fr Non wr y)) (fun i => ([.free, .free, .free, .held, .held, .free, .kept, .free, .free, .free, .kept, .kept, .free] : List Way).getD i .last) (.soft .free 0 (.soft .free 1 (.soft .free 2 (.soft .held 3 (.soft .held 4 (.soft .free 5 (.two 6 (.soft .free 7 (.soft .free 8 (.soft .free 9 (.one 10 (.one 11 (.soft .free 12 .leaf)))))) 10 (.one 6 (.soft .free 7 (.soft .free 8 (.soft .free 9 (.one 11 (.soft .free 12 .leaf))))))))))))) 13 (by kernel_rfl) (by kernel_rfl) (fun _ _ _ _ _ h => h) ⟨fd, ?_⟩
            generalize y1.drew = wd at fd ⊢
            repeat (first
              | (refine' wpTree_free (x := _) rfl (by rfl) ?_ ?_
                 rotate_left
                 · (intro w'; skip; go_simp; try rfl)
                 simp only [List.getElem_toArray, List.getElem_cons_zero, List.getElem_cons_succ, Act.put, List.setIfInBounds_toArray, List.set_cons_zero, List.set_cons_succ])
              | (refine' wpTree_held (x := _) rfl (by rfl) (fun w' hS => held_of (LC.out w' hS)) ?_
                 simp only [List.getElem_toArray, List.getElem_cons_zero, List.getElem_cons_succ, Act.put, List.setIfInBounds_toArray, List.set_cons_zero, List.set_cons_succ])
              | (refine' wpTree_held (x := _) rfl (by rfl) ?_ ?_
                 rotate_left
                 · (intro w' hS; skip; have q0 := HQ.out w' hS 0; clear hS; go_simp; try rfl)
                 simp only [List.getElem_toArray, List.getElem_cons_zero, List.getElem_cons_succ, Act.put, List.setIfInBounds_toArray, List.set_cons_zero, List.set_cons_succ])
              | (refine' wpTree_skip rfl (by rfl) ?_
                 simp only [List.getElem_toArray, List.getElem_cons_zero, List.getElem_cons_succ, Act.put, List.setIfInBounds_toArray, List.set_cons_zero, List.set_cons_succ])
              | (refine' wpTree_skipHeld rfl (by rfl) ?_
                 simp only [List.getElem_toArray, List.getElem_cons_zero, List.getElem_cons_succ, Act.put, List.setIfInBounds_toArray, List.set_cons_zero, List.set_cons_succ]))
            refine wpTree_two ?_ ?_
            · skip
              refine' wpTree_one rfl ?_
              intro K hK
              go_simp
              refine (HDO.out _ fd).mono ?_
              rintro e w8 ⟨hd8, f8⟩
              obtain ⟨a1, n1, c1, a2, n2, c2, bb, rfl, hh⟩ := hd8.open (T := Apart sb svr) (fun _ h => h.1) (fun b hb => HZB.out b (by have := fd.size; omega))
              have HH := Lib.hid (show DoneInS (Apart sb svr) l.length d i m X a1 n1 c1 a2 n2 c2 bb w8 from hh.out)
              clear hd8 hh
              go_simp
              refine hK _ _ ⟨fd.trans f8, ?_⟩
              clear hK K
              repeat (first
                | (refine' wpTree_free (x := _) rfl (by rfl) ?_ ?_
                   rotate_left
                   · (intro w'; go_simp; try rfl)
                   simp only [List.getElem_toArray, List.getElem_cons_zero, List.getElem_cons_succ, Act.put, List.setIfInBounds_toArray, List.set_cons_zero, List.set_cons_succ])
                | (refine' wpTree_held (x := _) rfl (by rfl) ?_ ?_
                   rotate_left
                   · (intro w' hS; clear hS; go_simp; try rfl)
                   simp only [List.getElem_toArray, List.getElem_cons_zero, List.getElem_cons_succ, Act.put, List.setIfInBounds_toArray, List.set_cons_zero, List.set_cons_succ])
                | (refine' wpTree_skip rfl (by rfl) ?_
                   simp only [List.getElem_toArray, List.getElem_cons_zero, List.getElem_cons_succ, Act.put, List.setIfInBounds_toArray, List.set_cons_zero, List.set_cons_succ])
                | (refine' wpTree_skipHeld rfl (by rfl) ?_
                   simp only [List.getElem_toArray, List.getElem_cons_zero, List.getElem_cons_succ, Act.put, List.setIfInBounds_toArray, List.set_cons_zero, List.set_cons_succ]))
              refine' wpTree_one rfl ?_
              intro K hK
              go_simp
              refine hK _ _ ⟨(fd.trans f8).alloc _, ?_⟩
              clear hK K
              refine' wpTree_one rfl ?_
              intro K hK
              go_simp
              refine hK _ _ ⟨(fd.trans f8).alloc _, ?_⟩
              clear hK K
              repeat (first
                | (refine' wpTree_free (x := _) rfl (by rfl) ?_ ?_
                   rotate_left
                   · (intro w'; go_simp; try rfl)
                   simp only [List.getElem_toArray, List.getElem_cons_zero, List.getElem_cons_succ, Act.put, List.setIfInBounds_toArray, List.set_cons_zero, List.set_cons_succ])
                | (refine' wpTree_held (x := _) rfl (by rfl) ?_ ?_
                   rotate_left
                   · (intro w' hS; clear hS; go_simp; try rfl)
                   simp only [List.getElem_toArray, List.getElem_cons_zero, List.getElem_cons_succ, Act.put, List.setIfInBounds_toArray, List.set_cons_zero, List.set_cons_succ])
                | (refine' wpTree_skip rfl (by rfl) ?_
                   simp only [List.getElem_toArray, List.getElem_cons_zero, List.getElem_cons_succ, Act.put, List.setIfInBounds_toArray, List.set_cons_zero, List.set_cons_succ])
                | (refine' wpTree_skipHeld rfl (by rfl) ?_
                   simp only [List.getElem_toArray, List.getElem_cons_zero, List.getElem_cons_succ, Act.put, List.setIfInBounds_toArray, List.set_cons_zero, List.set_cons_succ]))
              refine wpTree_leaf ?_
              simp only [List.drop_succ_cons, List.drop_zero]
              have F8 := Lib.hid (fd.trans f8)
              clear fd f8 HDO
              go_wp2_with fail
              go_meet
              exact Lib.hid ⟨w8.heap.size, a1, n1, c1, a2, n2, c2, bb, rfl, rfl, F8.out.size, alloc_at w8 _, HH.out.frame ((Fr.refl Non w8).alloc _) (fun _ _ _ => id) (fun _ _ h => h), F8.out.alloc _⟩
            · skip
              refine' wpTree_one rfl ?_
              intro K hK
              go_simp
              refine hK _ _ ⟨fd.alloc _, ?_⟩
              clear hK K
              refine' wpTree_one rfl ?_
              intro K hK
              go_simp
              refine (HDO.out _ (fd.alloc _)).mono ?_
              rintro e w8 ⟨hd8, f8⟩
              obtain ⟨a1, n1, c1, a2, n2, c2, bb, rfl, hh⟩ := hd8.open (T := fun b => Apart sb svr b ∧ b ≠ wd.heap.size) (fun b h => ⟨h.1, by have := h.2; have := fd.size; omega⟩) (fun b hb => by
                have h1 := fd.size
                have h2 : wd.heap.size + 1 ≤ b := by simpa using hb
                exact ⟨HZB.out b (by omega), by omega⟩)
              have HH := Lib.hid (show DoneInS (fun b => Apart sb svr b ∧ b ≠ wd.heap.size) l.length d i m X a1 n1 c1 a2 n2 c2 bb w8 from hh.out)
              have BZ := Lib.hid (f8.heap (alloc_at wd _) id)
              have HSZ := Lib.hid fd.size
              clear hd8 hh
              go_simp
              refine hK _ _ ⟨(fd.alloc _).trans f8, ?_⟩
              clear hK K
              repeat (first
                | (refine' wpTree_free (x := _) rfl (by rfl) ?_ ?_
                   rotate_left
                   · (intro w'; go_simp; try rfl)
                   simp only [List.getElem_toArray, List.getElem_cons_zero, List.getElem_cons_succ, Act.put, List.setIfInBounds_toArray, List.set_cons_zero, List.set_cons_succ])
                | (refine' wpTree_held (x := _) rfl (by rfl) ?_ ?_
                   rotate_left
                   · (intro w' hS; clear hS; go_simp; try rfl)
                   simp only [List.getElem_toArray, List.getElem_cons_zero, List.getElem_cons_succ, Act.put, List.setIfInBounds_toArray, List.set_cons_zero, List.set_cons_succ])
                | (refine' wpTree_skip rfl (by rfl) ?_
                   simp only [List.getElem_toArray, List.getElem_cons_zero, List.getElem_cons_succ, Act.put, List.setIfInBounds_toArray, List.set_cons_zero, List.set_cons_succ])
                | (refine' wpTree_skipHeld rfl (by rfl) ?_
                   simp only [List.getElem_toArray, List.getElem_cons_zero, List.getElem_cons_succ, Act.put, List.setIfInBounds_toArray, List.set_cons_zero, List.set_cons_succ]))
              obtain ⟨qz, zz⟩ := box_facts BZ.out
              have F9 := Lib.hid (((fd.alloc _).trans f8).setCell (p := ⟨wd.heap.size, 0, none⟩) (.inr HSZ.out) (.slice a1 n1 c1) |>.setCell (p := ⟨wd.heap.size, 1, none⟩) (.inr HSZ.out) (.slice a2 n2 c2))
              have FG := Lib.hid (((Fr.refl (fun b => b = wd.heap.size) w8).setCell (p := ⟨wd.heap.size, 0, none⟩) (.inl rfl) (.slice a1 n1 c1)).setCell (p := ⟨wd.heap.size, 1, none⟩) (.inl rfl) (.slice a2 n2 c2))
              refine' wpTree_one rfl ?_
              intro K hK
              go_simp
              refine hK _ _ ⟨F9.out, ?_⟩
              clear hK K
              have g9 := heap_setCell_same _ _ 1 _ 143 (.slice a2 n2 c2) (heap_setCell_same w8 wd.heap.size 0 _ 143 (.slice a1 n1 c1) BZ.out)
              generalize (w8.setCell { block := wd.heap.size, off := 0 } (Value.slice a1 n1 c1)).setCell { block := wd.heap.size, off := 1 } (Value.slice a2 n2 c2) = w9 at F9 FG g9 ⊢
              clear qz zz fd f8 HDO
              repeat (first
                | (refine' wpTree_free (x := _) rfl (by rfl) ?_ ?_
                   rotate_left
                   · (intro w'; go_simp; try rfl)
                   simp only [List.getElem_toArray, List.getElem_cons_zero, List.getElem_cons_succ, Act.put, List.setIfInBounds_toArray, List.set_cons_zero, List.set_cons_succ])
                | (refine' wpTree_held (x := _) rfl (by rfl) ?_ ?_
                   rotate_left
                   · (intro w' hS; clear hS; go_simp; try rfl)
                   simp only [List.getElem_toArray, List.getElem_cons_zero, List.getElem_cons_succ, Act.put, List.setIfInBounds_toArray, List.set_cons_zero, List.set_cons_succ])
                | (refine' wpTree_skip rfl (by rfl) ?_
                   simp only [List.getElem_toArray, List.getElem_cons_zero, List.getElem_cons_succ, Act.put, List.setIfInBounds_toArray, List.set_cons_zero, List.set_cons_succ])
                | (refine' wpTree_skipHeld rfl (by rfl) ?_
                   simp only [List.getElem_toArray, List.getElem_cons_zero, List.getElem_cons_succ, Act.put, List.setIfInBounds_toArray, List.set_cons_zero, List.set_cons_succ]))
              refine wpTree_leaf ?_
              simp only [List.drop_succ_cons, List.drop_zero]
              go_wp2_with fail
              go_meet
              exact Lib.hid ⟨wd.heap.size, a1, n1, c1, a2, n2, c2, bb, rfl, rfl, HSZ.out, g9, HH.out.frame FG.out (fun _ _ h => h.2) (fun _ _ h => h.1), F9.out⟩
          case rest =>
            obtain ⟨W3, rfl⟩ : ∃ W, W = wc := ⟨_, rfl⟩
            obtain ⟨D2, a1, n1, c1, a2, n2, c2, bb, rfl, rfl, hD2, hbD, hin, hfx⟩ := hcut.out
            have HD2S := Lib.hid (show D2 ≠ sb ∧ svr.ownBlock ≠ some D2 from ⟨(HZB.out _ hD2).2, (HZB.out _ hD2).1⟩)
            clear hD2
            have FX := Lib.hid hfx
            have HBD := Lib.hid hbD
            unfold DoneInS at hin
            obtain ⟨na, hna⟩ : ∃ b, lAfter m X = b := ⟨_, rfl⟩
            rw [hna] at hin HSTEP
            clear hcut hbD hfx HDO LC HQ fd1
            cases na with
            | none =>
              simp only at hin
              subst hin
              have HE := Lib.hid (show R = lLoop l (lLook l n) d m o (l.length - (i + 1)) (i + 1) si by rw [HSTEP.out]; simp)
              go_wp2_with fail
              go_roundw
              case rel => exact ⟨i + 1, si, svr, by omega, by go_num, HSA.out.fr FX.out, HFR.out.trans (FX.out.mono fun _ _ h => h.elim), HMR.out, HE.out⟩
              case measure => simp [intOf]; omega
            | some n' =>
            obtain ⟨rfl, h1, h2⟩ := hin
            obtain ⟨_, _, e1, _⟩ := h1.frm
            cases e1
            obtain ⟨_, _, e2, _⟩ := h2.frm
            cases e2
            rw [lBits_len] at h1 HBD
            have H1 := Lib.hid h1
            have H2 := Lib.hid h2
            have HNL := Lib.hid (show n'.length ≤ m.length + 1 by rw [(lAfter_some hna).2.2.1]; exact mDone_len m X.1)
            replace HSTEP := Lib.hid (show R = match lLook l n (d ||| 2 ^ i) n' (o ++ [(i : Int)]) si with
                | (s', some r) => (s', some r)
                | (s', none) => lLoop l (lLook l n) d m o (l.length - (i + 1)) (i + 1) s' from by
              have h := HSTEP.out
              first | exact h | (simp only [if_true] at h; exact h))
            have HBIT := Lib.hid (lNext_bit HNX.out)
            have HD2 := Lib.hid (show d ||| 2 ^ i < 2 ^ l.length from Nat.or_lt_two_pow hd (Nat.pow_lt_pow_right (by decide) hlt))
            have HUN := Lib.hid (show lUnset (d ||| 2 ^ i) l.length + 1 ≤ n by have := lUnset_set HBIT.out l.length; rw [if_pos hlt] at this; omega)
            have LD := Lib.hid (fun (y : World) (f : Fr (Held sb svr) W3 y) => load143 (f.heap HBD.out fun e => by
              rcases e with e | e
              · exact HD2S.out.1 e
              · exact HD2S.out.2 e))
            have HSC := Lib.hid (HSA.out.fr FX.out)
            have HLC := Lib.hid (HLR.out.stay FX.out)
            have HOC := Lib.hid (HOR.out.stay FX.out)
            have HCALL := Lib.hid (fun (y : World) (ov' : Value) (f : Fr Non W3 y) (hov : Sl kI (Apart sb svr) y ov' (o ++ [(i : Int)])) => IH.out y sb (.slice ua l.length uc) svr (.slice a1 l.length c1) (.slice a2 n'.length c2) ov' n' (o ++ [(i : Int)]) (d ||| 2 ^ i) si (HSC.out.fr f) (HLC.out.stay f) (H1.out.stay f) (H2.out.stay f) hov (by have := HNL.out; omega) (by simp; omega) HD2.out HUN.out)
            obtain ⟨Y, hY⟩ : ∃ Y, lLook l n (d ||| 2 ^ i) n' (o ++ [(i : Int)]) si = Y := ⟨_, rfl⟩
            rw [hY] at HSTEP HCALL
            have HOI := Lib.hid (ints_wf HOC.out)
            have HZC := Lib.hid (show ∀ b, W3.heap.size ≤ b → Apart sb svr b from fun b hb => HZB.out b (by have := FX.out.size; omega))
            clear h1 h2 hna hY
            go_upto_region 18 with (fail)
            go_cut [12, 13] (fun p b wx => Hid (LookRR W3 sb (.slice ua l.length uc) svr l.length Y p b wx))
            case first =>
              go_wp2_with fail
              have fd : Fr Non W3 W3.drew := (Fr.refl _ _).drew
              refine wp_drawT ((fun y => Fr (Held sb svr) W3 y)) (fun i => ([.free, .held, .kept, .free, .kept, .free, .kept, .kept, .kept, .free, .free, .free, .free, .free] : List Way).getD i .last) (.soft .free 0 (.soft .held 1 (.soft .free 3 (.soft .free 5 (.two 2 (.two 4 (.one 6 (.one 7 (.one 8 (.soft .free 9 (.soft .free 10 (.soft .free 11 (.soft .free 12 (.soft .free 13 .leaf)))))))) 6 (.one 4 (.one 7 (.one 8 (.soft .free 9 (.soft .free 10 (.soft .free 11 (.soft .free 12 (.soft .free 13 .leaf))))))))) 6 (.one 2 (.one 4 (.one 7 (.one 8 (.soft .free 9 (.soft .free 10 (.soft .free 11 (.soft .free 12 (.soft .free 13 .leaf)))))))))))))) 14 (by kernel_rfl) (by kernel_rfl) (fun _ _ _ _ _ h => h) ⟨(fd.mono fun _ _ h => h.elim), ?_⟩
              generalize W3.drew = wd at fd ⊢
              repeat (first
                | (refine' wpTree_free (x := _) rfl (by rfl) ?_ ?_
                   rotate_left
                   · (intro w'; skip; go_simp; try rfl)
                   simp only [List.getElem_toArray, List.getElem_cons_zero, List.getElem_cons_succ, Act.put, List.setIfInBounds_toArray, List.set_cons_zero, List.set_cons_succ])
                | (refine' wpTree_held (x := _) rfl (by rfl) (fun w' hS => held_of (LD.out w' hS)) ?_
                   simp only [List.getElem_toArray, List.getElem_cons_zero, List.getElem_cons_succ, Act.put, List.setIfInBounds_toArray, List.set_cons_zero, List.set_cons_succ])
                | (refine' wpTree_held (x := _) rfl (by rfl) ?_ ?_
                   rotate_left
                   · (intro w' hS; skip; clear hS; go_simp; try rfl)
                   simp only [List.getElem_toArray, List.getElem_cons_zero, List.getElem_cons_succ, Act.put, List.setIfInBounds_toArray, List.set_cons_zero, List.set_cons_succ])
                | (refine' wpTree_skip rfl (by rfl) ?_
                   simp only [List.getElem_toArray, List.getElem_cons_zero, List.getElem_cons_succ, Act.put, List.setIfInBounds_toArray, List.set_cons_zero, List.set_cons_succ])
                | (refine' wpTree_skipHeld rfl (by rfl) ?_
                   simp only [List.getElem_toArray, List.getElem_cons_zero, List.getElem_cons_succ, Act.put, List.setIfInBounds_toArray, List.set_cons_zero, List.set_cons_succ]))
              refine wpTree_two ?_ ?_
              · skip
                refine' wpTree_one rfl ?_
                intro K hK
                go_simp
                have f2 := fd.alloc (.cells #[] 3)
                have b2 := alloc_at wd (.cells #[] 3)
                have hs2 := fd.size
                refine hK _ _ ⟨f2.mono fun _ _ h => h.elim, ?_⟩
                clear hK K
                obtain ⟨V2, hV2⟩ : ∃ V, wd.heap.size = V := ⟨_, rfl⟩
                rw [hV2] at b2 hs2 ⊢
                generalize wd.alloc (.cells #[] 3) = w2 at f2 b2 ⊢
                clear hV2
                refine wpTree_two ?_ ?_
                · skip
                  refine' wpTree_one rfl ?_
                  intro K hK
                  refine step_append_g rfl _ _ eI3 rfl _ 0 [] rfl (GRow.own0 b2) _ o.length (ints o) rfl (ints_src (HOC.out.stay f2)) (by unfold maxLen; omega) (by omega) ?_
                  intro v4 w4 r1 r2 r3 r4
                  clear r4
                  have f4 : Fr Non W3 w4 := f2.trans2 r2 (fun b hb e => by have e2 : V2 = b := Option.some.inj e; omega)
                  have hv4 : ∀ b, v4.ownBlock = some b → W3.heap.size ≤ b := fun b hb => by
                    rcases r3 with r3 | ⟨r3, _⟩
                    · rw [r3] at hb; cases hb; exact hs2
                    · rw [r3] at hb; cases hb; exact f2.size
                  refine hK _ _ ⟨f4.mono fun _ _ h => h.elim, ?_⟩
                  clear hK K
                  clear r2 r3
                  refine' wpTree_one rfl ?_
                  intro K hK
                  go_simp
                  have f6 := f4.alloc (.cells #[.int .i64 (i : Int)] 3)
                  have b6 := alloc_at w4 (.cells #[.int .i64 (i : Int)] 3)
                  refine hK _ _ ⟨f6.mono fun _ _ h => h.elim, ?_⟩
                  clear hK K
                  obtain ⟨V6, hV6⟩ : ∃ V, w4.heap.size = V := ⟨_, rfl⟩
                  rw [hV6] at b6 ⊢
                  replace r1 := r1.keep (w' := w4.alloc (.cells #[.int .i64 (i : Int)] 3)) fun b hb => Below.heap_alloc _ _ _ (r1.lt b hb)
                  generalize w4.alloc (.cells #[.int .i64 (i : Int)] 3) = w6 at f6 b6 r1 ⊢
                  clear hV6
                  refine' wpTree_one rfl ?_
                  intro K hK
                  refine step_append_g rfl _ _ eI3 rfl _ (0 + o.length) ([] ++ ints o) rfl r1 _ 1 [.int .i64 (i : Int)] rfl (Src.block (m := 1) b6 rfl (by simp [Value.oneCell'])) (by unfold maxLen; omega) (by omega) ?_
                  intro v7 w7 s1 s2 s3 s4
                  clear s4
                  have f7 : Fr Non W3 w7 := f6.trans2 s2 (fun b hb e => by have := hv4 b e; omega)
                  have hv7 : ∀ b, v7.ownBlock = some b → W3.heap.size ≤ b := fun b hb => by
                    rcases s3 with s3 | ⟨s3, _⟩
                    · exact hv4 b (s3 ▸ hb)
                    · rw [s3] at hb; cases hb; exact f6.size
                  have HOV := Lib.hid (show Sl kI (Apart sb svr) w7 v7 (o ++ [(i : Int)]) from grow_ints (n := 0 + o.length + 1) (by simpa [ints] using s1) (fun x hx => by
                    rcases List.mem_append.1 hx with hx | hx
                    · exact HOI.out x hx
                    · simp at hx; subst hx; rw [wf_i64]; omega) (fun b hb => HZC.out b (hv7 b hb)))
                  refine hK _ _ ⟨f7.mono fun _ _ h => h.elim, ?_⟩
                  clear hK K s1 s2 s3
                  refine' wpTree_one rfl ?_
                  intro K hK
                  go_simp
                  refine (HCALL.out _ _ f7 HOV.out).mono ?_
                  rintro e w9 ⟨r9, b9, rfl, hlr⟩
                  obtain ⟨sv9, hs9, hf9, hm9, hx9⟩ := hlr
                  have HLR9 := Lib.hid (show LookRR W3 sb (.slice ua l.length uc) svr l.length Y r9 b9 w9 from ⟨sv9, hs9, (f7.mono (fun _ _ h => h.elim)).trans hf9, (Moved.refl W3 svr).trans hm9 f7.size, hx9⟩)
                  have f9 := (f7.mono (fun _ _ h => h.elim) : Fr (Held sb svr) W3 w7).trans hf9
                  clear hs9 hf9 hm9 hx9
                  go_simp
                  refine hK _ _ ⟨f9, ?_⟩
                  clear hK K
                  repeat (first
                    | (refine' wpTree_free (x := _) rfl (by rfl) ?_ ?_
                       rotate_left
                       · (intro w'; go_simp; try rfl)
                       simp only [List.getElem_toArray, List.getElem_cons_zero, List.getElem_cons_succ, Act.put, List.setIfInBounds_toArray, List.set_cons_zero, List.set_cons_succ])
                    | (refine' wpTree_held (x := _) rfl (by rfl) ?_ ?_
                       rotate_left
                       · (intro w' hS; clear hS; go_simp; try rfl)
                       simp only [List.getElem_toArray, List.getElem_cons_zero, List.getElem_cons_succ, Act.put, List.setIfInBounds_toArray, List.set_cons_zero, List.set_cons_succ])
                    | (refine' wpTree_skip rfl (by rfl) ?_
                       simp only [List.getElem_toArray, List.getElem_cons_zero, List.getElem_cons_succ, Act.put, List.setIfInBounds_toArray, List.set_cons_zero, List.set_cons_succ])
                    | (refine' wpTree_skipHeld rfl (by rfl) ?_
                       simp only [List.getElem_toArray, List.getElem_cons_zero, List.getElem_cons_succ, Act.put, List.setIfInBounds_toArray, List.set_cons_zero, List.set_cons_succ]))
                  refine wpTree_leaf ?_
                  simp only [List.drop_succ_cons, List.drop_zero]
                  clear f7 f9
                  go_wp2_with fail
                  go_meet
                  exact Lib.hid HLR9.out
                · skip
                  refine' wpTree_one rfl ?_
                  intro K hK
                  go_simp
                  have f6 := f2.alloc (.cells #[.int .i64 (i : Int)] 3)
                  have b6 := alloc_at w2 (.cells #[.int .i64 (i : Int)] 3)
                  refine hK _ _ ⟨f6.mono fun _ _ h => h.elim, ?_⟩
                  clear hK K
                  obtain ⟨V6, hV6⟩ : ∃ V, w2.heap.size = V := ⟨_, rfl⟩
                  rw [hV6] at b6 ⊢
                  replace b2 := ((Fr.refl Non w2).alloc (.cells #[.int .i64 (i : Int)] 3)).heap b2 id
                  generalize w2.alloc (.cells #[.int .i64 (i : Int)] 3) = w6 at f6 b6 b2 ⊢
                  clear hV6
                  refine' wpTree_one rfl ?_
                  intro K hK
                  refine step_append_g rfl _ _ eI3 rfl _ 0 [] rfl (GRow.own0 b2) _ o.length (ints o) rfl (ints_src (HOC.out.stay f6)) (by unfold maxLen; omega) (by omega) ?_
                  intro v4 w4 r1 r2 r3 r4
                  clear r4
                  have f4 : Fr Non W3 w4 := f6.trans2 r2 (fun b hb e => by have e2 : V2 = b := Option.some.inj e; omega)
                  have hv4 : ∀ b, v4.ownBlock = some b → W3.heap.size ≤ b := fun b hb => by
                    rcases r3 with r3 | ⟨r3, _⟩
                    · rw [r3] at hb; cases hb; exact hs2
                    · rw [r3] at hb; cases hb; exact f6.size
                  refine hK _ _ ⟨f4.mono fun _ _ h => h.elim, ?_⟩
                  clear hK K
                  have hb6 : V2 ≠ V6 := fun e => by rw [e, b6] at b2; cases b2
                  replace b6 := r2.heap b6 (fun e => hb6 (by cases e; rfl))
                  clear r2 r3
                  refine' wpTree_one rfl ?_
                  intro K hK
                  refine step_append_g rfl _ _ eI3 rfl _ (0 + o.length) ([] ++ ints o) rfl r1 _ 1 [.int .i64 (i : Int)] rfl (Src.block (m := 1) b6 rfl (by simp [Value.oneCell'])) (by unfold maxLen; omega) (by omega) ?_
                  intro v7 w7 s1 s2 s3 s4
                  clear s4
                  have f7 : Fr Non W3 w7 := f4.trans2 s2 (fun b hb e => by have := hv4 b e; omega)
                  have hv7 : ∀ b, v7.ownBlock = some b → W3.heap.size ≤ b := fun b hb => by
                    rcases s3 with s3 | ⟨s3, _⟩
                    · exact hv4 b (s3 ▸ hb)
                    · rw [s3] at hb; cases hb; exact f4.size
                  have HOV := Lib.hid (show Sl kI (Apart sb svr) w7 v7 (o ++ [(i : Int)]) from grow_ints (n := 0 + o.length + 1) (by simpa [ints] using s1) (fun x hx => by
                    rcases List.mem_append.1 hx with hx | hx
                    · exact HOI.out x hx
                    · simp at hx; subst hx; rw [wf_i64]; omega) (fun b hb => HZC.out b (hv7 b hb)))
                  refine hK _ _ ⟨f7.mono fun _ _ h => h.elim, ?_⟩
                  clear hK K s1 s2 s3
                  refine' wpTree_one rfl ?_
                  intro K hK
                  go_simp
                  refine (HCALL.out _ _ f7 HOV.out).mono ?_
                  rintro e w9 ⟨r9, b9, rfl, hlr⟩
                  obtain ⟨sv9, hs9, hf9, hm9, hx9⟩ := hlr
                  have HLR9 := Lib.hid (show LookRR W3 sb (.slice ua l.length uc) svr l.length Y r9 b9 w9 from ⟨sv9, hs9, (f7.mono (fun _ _ h => h.elim)).trans hf9, (Moved.refl W3 svr).trans hm9 f7.size, hx9⟩)
                  have f9 := (f7.mono (fun _ _ h => h.elim) : Fr (Held sb svr) W3 w7).trans hf9
                  clear hs9 hf9 hm9 hx9
                  go_simp
                  refine hK _ _ ⟨f9, ?_⟩
                  clear hK K
                  repeat (first
                    | (refine' wpTree_free (x := _) rfl (by rfl) ?_ ?_
                       rotate_left
                       · (intro w'; go_simp; try rfl)
                       simp only [List.getElem_toArray, List.getElem_cons_zero, List.getElem_cons_succ, Act.put, List.setIfInBounds_toArray, List.set_cons_zero, List.set_cons_succ])
                    | (refine' wpTree_held (x := _) rfl (by rfl) ?_ ?_
                       rotate_left
                       · (intro w' hS; clear hS; go_simp; try rfl)
                       simp only [List.getElem_toArray, List.getElem_cons_zero, List.getElem_cons_succ, Act.put, List.setIfInBounds_toArray, List.set_cons_zero, List.set_cons_succ])
                    | (refine' wpTree_skip rfl (by rfl) ?_
                       simp only [List.getElem_toArray, List.getElem_cons_zero, List.getElem_cons_succ, Act.put, List.setIfInBounds_toArray, List.set_cons_zero, List.set_cons_succ])
                    | (refine' wpTree_skipHeld rfl (by rfl) ?_
                       simp only [List.getElem_toArray, List.getElem_cons_zero, List.getElem_cons_succ, Act.put, List.setIfInBounds_toArray, List.set_cons_zero, List.set_cons_succ]))
                  refine wpTree_leaf ?_
                  simp only [List.drop_succ_cons, List.drop_zero]
                  clear f7 f9
                  go_wp2_with fail
                  go_meet
                  exact Lib.hid HLR9.out
              · skip
                refine' wpTree_one rfl ?_
                intro K hK
                go_simp
                have f6 := fd.alloc (.cells #[.int .i64 (i : Int)] 3)
                have b6 := alloc_at wd (.cells #[.int .i64 (i : Int)] 3)
                refine hK _ _ ⟨f6.mono fun _ _ h => h.elim, ?_⟩
                clear hK K
                obtain ⟨V6, hV6⟩ : ∃ V, wd.heap.size = V := ⟨_, rfl⟩
                rw [hV6] at b6 ⊢
                generalize wd.alloc (.cells #[.int .i64 (i : Int)] 3) = w6 at f6 b6 ⊢
                clear hV6
                refine' wpTree_one rfl ?_
                intro K hK
                go_simp
                have f2 := f6.alloc (.cells #[] 3)
                have b2 := alloc_at w6 (.cells #[] 3)
                have hs2 := f6.size
                refine hK _ _ ⟨f2.mono fun _ _ h => h.elim, ?_⟩
                clear hK K
                obtain ⟨V2, hV2⟩ : ∃ V, w6.heap.size = V := ⟨_, rfl⟩
                rw [hV2] at b2 hs2 ⊢
                replace b6 := ((Fr.refl Non w6).alloc (.cells #[] 3)).heap b6 id
                generalize w6.alloc (.cells #[] 3) = w2 at f2 b2 b6 ⊢
                clear hV2
                refine' wpTree_one rfl ?_
                intro K hK
                refine step_append_g rfl _ _ eI3 rfl _ 0 [] rfl (GRow.own0 b2) _ o.length (ints o) rfl (ints_src (HOC.out.stay f2)) (by unfold maxLen; omega) (by omega) ?_
                intro v4 w4 r1 r2 r3 r4
                clear r4
                have f4 : Fr Non W3 w4 := f2.trans2 r2 (fun b hb e => by have e2 : V2 = b := Option.some.inj e; omega)
                have hv4 : ∀ b, v4.ownBlock = some b → W3.heap.size ≤ b := fun b hb => by
                  rcases r3 with r3 | ⟨r3, _⟩
                  · rw [r3] at hb; cases hb; exact hs2
                  · rw [r3] at hb; cases hb; exact f2.size
                refine hK _ _ ⟨f4.mono fun _ _ h => h.elim, ?_⟩
                clear hK K
                have hb6 : V2 ≠ V6 := fun e => by rw [e, b6] at b2; cases b2
                replace b6 := r2.heap b6 (fun e => hb6 (by cases e; rfl))
                clear r2 r3
                refine' wpTree_one rfl ?_
                intro K hK
                refine step_append_g rfl _ _ eI3 rfl _ (0 + o.length) ([] ++ ints o) rfl r1 _ 1 [.int .i64 (i : Int)] rfl (Src.block (m := 1) b6 rfl (by simp [Value.oneCell'])) (by unfold maxLen; omega) (by omega) ?_
                intro v7 w7 s1 s2 s3 s4
                clear s4
                have f7 : Fr Non W3 w7 := f4.trans2 s2 (fun b hb e => by have := hv4 b e; omega)
                have hv7 : ∀ b, v7.ownBlock = some b → W3.heap.size ≤ b := fun b hb => by
                  rcases s3 with s3 | ⟨s3, _⟩
                  · exact hv4 b (s3 ▸ hb)
                  · rw [s3] at hb; cases hb; exact f4.size
                have HOV := Lib.hid (show Sl kI (Apart sb svr) w7 v7 (o ++ [(i : Int)]) from grow_ints (n := 0 + o.length + 1) (by simpa [ints] using s1) (fun x hx => by
                  rcases List.mem_append.1 hx with hx | hx
                  · exact HOI.out x hx
                  · simp at hx; subst hx; rw [wf_i64]; omega) (fun b hb => HZC.out b (hv7 b hb)))
                refine hK _ _ ⟨f7.mono fun _ _ h => h.elim, ?_⟩
                clear hK K s1 s2 s3
                refine' wpTree_one rfl ?_
                intro K hK
                go_simp
                refine (HCALL.out _ _ f7 HOV.out).mono ?_
                rintro e w9 ⟨r9, b9, rfl, hlr⟩
                obtain ⟨sv9, hs9, hf9, hm9, hx9⟩ := hlr
                have HLR9 := Lib.hid (show LookRR W3 sb (.slice ua l.length uc) svr l.length Y r9 b9 w9 from ⟨sv9, hs9, (f7.mono (fun _ _ h => h.elim)).trans hf9, (Moved.refl W3 svr).trans hm9 f7.size, hx9⟩)
                have f9 := (f7.mono (fun _ _ h => h.elim) : Fr (Held sb svr) W3 w7).trans hf9
                clear hs9 hf9 hm9 hx9
                go_simp
                refine hK _ _ ⟨f9, ?_⟩
                clear hK K
                repeat (first
                  | (refine' wpTree_free (x := _) rfl (by rfl) ?_ ?_
                     rotate_left
                     · (intro w'; go_simp; try rfl)
                     simp only [List.getElem_toArray, List.getElem_cons_zero, List.getElem_cons_succ, Act.put, List.setIfInBounds_toArray, List.set_cons_zero, List.set_cons_succ])
                  | (refine' wpTree_held (x := _) rfl (by rfl) ?_ ?_
                     rotate_left
                     · (intro w' hS; clear hS; go_simp; try rfl)
                     simp only [List.getElem_toArray, List.getElem_cons_zero, List.getElem_cons_succ, Act.put, List.setIfInBounds_toArray, List.set_cons_zero, List.set_cons_succ])
                  | (refine' wpTree_skip rfl (by rfl) ?_
                     simp only [List.getElem_toArray, List.getElem_cons_zero, List.getElem_cons_succ, Act.put, List.setIfInBounds_toArray, List.set_cons_zero, List.set_cons_succ])
                  | (refine' wpTree_skipHeld rfl (by rfl) ?_
                     simp only [List.getElem_toArray, List.getElem_cons_zero, List.getElem_cons_succ, Act.put, List.setIfInBounds_toArray, List.set_cons_zero, List.set_cons_succ]))
                refine wpTree_leaf ?_
                simp only [List.drop_succ_cons, List.drop_zero]
                clear f7 f9
                go_wp2_with fail
                go_meet
                exact Lib.hid HLR9.out
            case rest =>
              obtain ⟨sv9, hs9, hf9, hm9, hx9⟩ := hcut.out
              have HS9 := Lib.hid hs9
              have HF9 := Lib.hid (held_trans (HFR.out.trans (FX.out.mono fun _ _ h => h.elim)) HMR.out hf9)
              have HM9 := Lib.hid (HMR.out.trans hm9 (HFR.out.trans (FX.out.mono fun _ _ h => h.elim)).size)
              have HX9 := Lib.hid hx9
              clear hcut hs9 hf9 hm9 hx9
              obtain ⟨s9, r9⟩ := Y
              have hx9 := HX9.out
              simp only at hx9 HS9
              cases r9 with
              | none =>
                simp only at hx9
                obtain ⟨rfl, rfl⟩ := hx9
                have HE := Lib.hid (show R = lLoop l (lLook l n) d m o (l.length - (i + 1)) (i + 1) s9 by rw [HSTEP.out])
                go_wp2_with fail
                go_roundw
                case rel => exact ⟨i + 1, s9, sv9, by omega, by go_num, HS9.out, HF9.out, HM9.out, HE.out⟩
                case measure => simp [intOf]; omega
              | some q =>
                simp only at hx9
                obtain ⟨rfl, hq⟩ := hx9
                obtain ⟨ra, rc, rfl, _⟩ := hq.frm
                have HE := Lib.hid (show R = (s9, some q) by rw [HSTEP.out])
                have HQ9 := Lib.hid hq
                clear hq
                go_wp2_with fail
                (try rw [Exit.noGoto_ret])
                refine bodyPost_ret (v := .tuple #[.slice ra q.length rc, .bool true]) (by simp [results, Try.results124, go_sem]) rfl ⟨_, _, rfl, ?_⟩
                rw [HE.out, ← hsv]
                exact ⟨sv9, HS9.out, (HFIN.out _ sv9 HF9.out HM9.out).1, (HFIN.out _ sv9 HF9.out HM9.out).2, rfl, HQ9.out⟩
        · obtain rfl : i = l.length := by omega
          have HE := Lib.hid (show R = (si, none) by rw [HRI.out, Nat.sub_self, lLoop])
          go_wp2_with fail
          (try rw [Exit.noGoto_ret])
          refine bodyPost_ret (v := .tuple #[.slice none 0 0, .bool false]) (by simp [results, Try.results124, go_sem]) rfl ⟨_, _, rfl, ?_⟩
          rw [HE.out, ← hsv]
          exact ⟨svr, HSA.out, (HFIN.out _ svr HFR.out HMR.out).1, (HFIN.out _ svr HFR.out HMR.out).2, rfl, rfl⟩
theorem rlook_any {l : List MHap} (h64 : l.length ≤ 64) (hmay : ∀ x ∈ l, lMay x = true) (n : Nat) : RLook l n := by
  induction n with
  | zero => unfold RLook; intros; omega
  | succ n ih => exact rlook_step h64 hmay n ih
end Go.Proofs.Ytplhcfaonhkegaa
