/-
  Laws for the built-in append over a row that the call owns, or over one that is full.
-/
import Derived.Test.YtplhcfaonhkegaaL
import Derived.OwnWalk
import Derived.Maps.OwnOps
import Derived.Deep.RegionHeld3
namespace Go.Proofs.Ytplhcfaonhkegaa
open Go.RowKit

/-- A row of the call's own: nil, or the first cells of a block. -/
def GRow (w : World) (e : TypeId) (sz : Nat) (v : Value) (n : Nat) (xs : List Value) : Prop :=
  xs.length = n * sz ∧ ((v = .slice none 0 0 ∧ n = 0) ∨
    ∃ g cap cur, v = .slice (some ⟨g, 0, none⟩) n cap ∧ w.heap[g]? = some (.cells cur e (0, 0)) ∧ n ≤ cap ∧ cap ≤ maxLen ∧ cap * sz ≤ cur.size ∧ cur.toList.take (n * sz) = xs)

theorem GRow.nil (w : World) (e : TypeId) (sz : Nat) : GRow w e sz (.slice none 0 0) 0 [] := ⟨by simp, .inl ⟨rfl, rfl⟩⟩

theorem GRow.lt {w : World} {e : TypeId} {sz : Nat} {v : Value} {n : Nat} {xs : List Value} (h : GRow w e sz v n xs) : ∀ k, v.ownBlock = some k → k < w.heap.size := by
  intro k hk
  rcases h.2 with ⟨rfl, _⟩ | ⟨g, cap, cur, rfl, hg, _⟩
  · simp [Value.ownBlock] at hk
  · simp [Value.ownBlock] at hk; subst hk; exact lt_of_block hg

theorem GRow.keep {w w' : World} {e : TypeId} {sz : Nat} {v : Value} {n : Nat} {xs : List Value} (h : GRow w e sz v n xs) (hk : ∀ k, v.ownBlock = some k → w'.heap[k]? = w.heap[k]?) : GRow w' e sz v n xs := by
  refine ⟨h.1, ?_⟩
  rcases h.2 with hn | ⟨g, cap, cur, rfl, hg, rest⟩
  · exact .inl hn
  · exact .inr ⟨g, cap, cur, rfl, by rw [hk g rfl]; exact hg, rest⟩

theorem GRow.cells {w : World} {e : TypeId} {sz : Nat} {v : Value} {n : Nat} {xs : List Value} (h : GRow w e sz v n xs) {g : Nat} (hg : v.ownBlock = some g) :
    ∀ j u, xs[j]? = some u → w.cell? ⟨g, j, none⟩ = some u := by
  intro j u hu
  rcases h.2 with ⟨rfl, _⟩ | ⟨g', cap, cur, rfl, hgg, _, _, _, htake⟩
  · simp [Value.ownBlock] at hg
  · simp [Value.ownBlock] at hg; subst hg
    rw [cell_of_row w g' j cur e (0, 0) hgg]
    rw [← htake, List.getElem?_take] at hu
    split at hu
    · simpa using hu
    · cases hu

theorem GRow.form {w : World} {e : TypeId} {sz : Nat} {v : Value} {n : Nat} {xs : List Value} (h : GRow w e sz v n xs) : ∃ a c, v = .slice a n c := by
  rcases h.2 with ⟨rfl, rfl⟩ | ⟨g, cap, cur, rfl, _⟩
  · exact ⟨_, _, rfl⟩
  · exact ⟨_, _, rfl⟩

/-- What is appended: nothing, or cells that can be read. -/
def Src (w : World) (sz : Nat) (x : Value) (m : Nat) (news : List Value) : Prop :=
  news.length = m * sz ∧ (∀ u ∈ news, u.oneCell' = true) ∧
  ((x = .slice none 0 0 ∧ m = 0) ∨ ∃ ad c, x = .slice (some ad) m c ∧ ∀ j u, news[j]? = some u → w.cell? (ad.add j) = some u)

theorem addr_add_block (a : Addr) (j : Nat) : (a.add j).block = a.block := by unfold Addr.add; split <;> rfl
theorem addr_add (g j : Nat) : (⟨g, 0, none⟩ : Addr).add j = ⟨g, j, none⟩ := by unfold Addr.add; split <;> simp_all
theorem addr_add' (g o j : Nat) : (⟨g, o, none⟩ : Addr).add j = ⟨g, o + j, none⟩ := by unfold Addr.add; split <;> simp_all

theorem Src.keep {w w' : World} {sz : Nat} {x : Value} {m : Nat} {news : List Value} (h : Src w sz x m news) (hk : ∀ a c, x = .slice (some a) m c → a.block < w.heap.size → w'.heap[a.block]? = w.heap[a.block]?) : Src w' sz x m news := by
  refine ⟨h.1, h.2.1, ?_⟩
  rcases h.2.2 with h | ⟨ad, c, rfl, hc⟩
  · exact .inl h
  · refine .inr ⟨ad, c, rfl, fun j u hu => ?_⟩
    have h1 := hc j u hu
    have hb := World.block_lt_of_cell? w _ h1
    rw [World.cell?_of_block (w := w) (by rw [addr_add_block] at hb ⊢; exact hk ad c rfl hb)]
    exact h1
theorem Src.alloc {w : World} {sz : Nat} {x : Value} {m : Nat} {news : List Value} (h : Src w sz x m news) (o : Obj) : Src (w.alloc o) sz x m news :=
  h.keep fun _ _ _ hb => Below.heap_alloc _ _ _ hb
theorem Src.drew {w : World} {sz : Nat} {x : Value} {m : Nat} {news : List Value} (h : Src w sz x m news) : Src w.drew sz x m news := h

/-- What a new block holds. -/
theorem Src.block {w : World} {sz m : Nat} {g c : Nat} {cs : Array Value} {e : TypeId} {fr : Nat × Nat} (hg : w.heap[g]? = some (.cells cs e fr)) (hl : cs.size = m * sz) (h1 : ∀ u ∈ cs.toList, u.oneCell' = true) :
    Src w sz (.slice (some ⟨g, 0, none⟩) m c) m cs.toList := by
  refine ⟨by simpa using hl, h1, .inr ⟨_, _, rfl, fun j u hu => ?_⟩⟩
  rw [addr_add, cell_of_row w g j cs e fr hg]
  simpa using hu

theorem GRow.src {w : World} {e : TypeId} {sz : Nat} {v : Value} {n : Nat} {xs : List Value} (h : GRow w e sz v n xs) (h1 : ∀ u ∈ xs, u.oneCell' = true) : Src w sz v n xs := by
  have hc := fun g => GRow.cells h (g := g)
  refine ⟨h.1, h1, ?_⟩
  rcases h.2 with ⟨rfl, rfl⟩ | ⟨g, cap, cur, rfl, hg, _⟩
  · exact .inl ⟨rfl, rfl⟩
  · exact .inr ⟨_, _, rfl, fun j u hu => by rw [addr_add]; exact hc g rfl j u hu⟩

structure ElemInfo (P : Program) (t e : TypeId) (sz bytes : Nat) : Prop where
  pos : 0 < sz
  under : P.underlying t = some (.slice e)
  info : ∃ i z, P.info? e = some i ∧ i.zero = some z ∧ i.size = sz ∧ i.bytes = bytes ∧ z.cells.size = sz

theorem elemInfo {P : Program} {t e : TypeId} {sz bytes : Nat} {z : Value} (hu : P.underlying t = some (.slice e))
    (h : (P.info? e).map (fun i => (i.zero, i.size, i.bytes)) = some (some z, sz, bytes)) (hz : z.cells.size = sz) (hp : 0 < sz) : ElemInfo P t e sz bytes := by
  obtain ⟨i, h1, h2, h3, h4⟩ := info_parts h
  exact ⟨hp, hu, i, z, h1, h2, h3, h4, hz⟩

section
variable {P : Program} {w : World} {t ty e : TypeId} {sz bytes : Nat}

/-- Nothing is appended. -/
theorem run_append_zero (E : ElemInfo P t e sz bytes) (a : Option Addr) (n c : Nat) (hnc : n ≤ c) (x : Value) (hs : Src w sz x 0 []) :
    (Builtin.append_ #[t, t] ty #[.slice a n c, x]).run P w = .ok (.slice a n c) w := by
  obtain ⟨i, z, hi, hz, hsz, hby, hzs⟩ := E.info
  rcases hs.2.2 with ⟨rfl, _⟩ | ⟨ad, c', rfl, _⟩
  · cases a <;> simp [Builtin.append_, run_underlying E.under, sizeOf, typeInfo, hi, Builtin.lenOf, Builtin.firstCells, hnc, storeCells]
  · cases a <;> simp [Builtin.append_, run_underlying E.under, sizeOf, typeInfo, hi, Builtin.lenOf, Builtin.firstCells, hnc, storeCells, loadCells, loadCellsFrom]

/-- Behind an append to a full slice: a new block. -/
theorem run_append_full (E : ElemInfo P t e sz bytes) (b : Addr) (n c : Nat) (xs : List Value) (hl : xs.length = n * sz) (hx : ∀ j u, xs[j]? = some u → w.cell? (b.add j) = some u)
    (x : Value) (m : Nat) (news : List Value) (hs : Src w sz x m news) (hg : c < n + m) (hnc : n ≤ c) (h63 : n + m ≤ maxLen) (hbytes : (n + m) * bytes ≤ 140737488355328) :
    ∃ v' w', (Builtin.append_ #[t, t] ty #[.slice (some b) n c, x]).run P w = .ok v' w' ∧ GRow w' e sz v' (n + m) (xs ++ news) ∧ Fr Non w w' ∧ v'.ownBlock = some w.heap.size ∧ w.heap.size < w'.heap.size := by
  obtain ⟨i, z, hi, hz, hsz, hby, hzs⟩ := E.info
  subst hsz hby
  rcases hs.2.2 with ⟨rfl, hm⟩ | ⟨ad, c', rfl, hnews⟩
  · omega
  · have hr := run_append_grow (P := P) w t ty e i z E.under hi hz b n c xs hl hx ad m c' news hs.1 hnews hg (by simp only [maxLen] at h63; omega) (growslice_fits hg hbytes)
    refine ⟨_, _, hr, ⟨by rw [List.length_append, hl, hs.1, Nat.add_mul], .inr ⟨w.heap.size, _, _, rfl, heap_alloc_new w.drew _, grownCap_ge w _ _ e, grownCap_le_maxLen w _ _ e h63, ?_, ?_⟩⟩, ?_, rfl, by simp⟩
    · have := grownCap_ge w (n + m) c e
      simp only [Array.size_append, List.size_toArray, size_zeroCells, hzs, hl, hs.1, ← Nat.add_mul]
      rw [show n + m + (grownCap w (n + m) c e - (n + m)) = grownCap w (n + m) c e from by omega]
      exact Nat.le_refl _
    · simp only [Array.toList_append, List.append_assoc]
      rw [← List.append_assoc, Nat.add_mul, ← hl, ← hs.1, ← List.length_append]
      exact List.take_left
    · exact ⟨rfl, rfl, rfl, by simp, fun k hk _ => Below.heap_alloc w.drew _ _ hk⟩

/-- Append to a row of the call's own. -/
theorem run_append_g (E : ElemInfo P t e sz bytes) (v : Value) (n : Nat) (xs : List Value) (hown : GRow w e sz v n xs)
    (x : Value) (m : Nat) (news : List Value) (hs : Src w sz x m news) (h63 : n + m ≤ maxLen) (hbytes : (n + m) * bytes ≤ 140737488355328) :
    ∃ v' w', (Builtin.append_ #[t, t] ty #[v, x]).run P w = .ok v' w' ∧ GRow w' e sz v' (n + m) (xs ++ news) ∧ Fr (fun k => v.ownBlock = some k) w w' ∧
      (v'.ownBlock = v.ownBlock ∨ v'.ownBlock = some w.heap.size ∧ w.heap.size < w'.heap.size) ∧ (m = 0 → v' = v) := by
  obtain ⟨i, z, hi, hz, hsz, hby, hzs⟩ := E.info
  by_cases hm0 : m = 0
  · subst hm0
    have hn : news = [] := List.eq_nil_of_length_eq_zero (by simpa using hs.1)
    subst hn
    rcases hown.2 with ⟨rfl, rfl⟩ | ⟨g, cap, cur, rfl, hg, hnc, hrest⟩
    · exact ⟨_, _, run_append_zero E none 0 0 (Nat.le_refl _) x hs, by simpa using hown, Fr.refl _ _, .inl rfl, fun _ => rfl⟩
    · exact ⟨_, _, run_append_zero E _ n cap hnc x hs, by simpa using hown, Fr.refl _ _, .inl rfl, fun _ => rfl⟩
  · rcases hown.2 with ⟨rfl, rfl⟩ | ⟨g, cap, cur, rfl, hg, hnc, hcm, hcs, htake⟩
    · have hx0 : xs = [] := List.eq_nil_of_length_eq_zero (by simpa using hown.1)
      subst hx0
      rcases hs.2.2 with ⟨rfl, h0⟩ | ⟨ad, c', rfl, hnews⟩
      · exact absurd h0 hm0
      subst hsz hby
      have hr := run_append_nil (P := P) w t ty e i z E.under hi hz ad m c' news hs.1 hnews (by omega) (by simp only [maxLen] at h63; omega) (by have hb := hbytes; simp only [Nat.zero_add] at hb; omega)
      refine ⟨_, _, hr, ⟨by simp [hs.1], .inr ⟨w.heap.size, grownCap w m 0 e, _, by rw [Nat.zero_add], heap_alloc_new w.drew _, by rw [Nat.zero_add]; exact grownCap_ge w m 0 e, grownCap_le_maxLen w m 0 e (by omega), ?_, ?_⟩⟩, ?_, .inr ⟨rfl, by simp⟩, fun h => absurd h hm0⟩
      · have := grownCap_ge w m 0 e
        simp only [Array.size_append, List.size_toArray, size_zeroCells, hzs, hs.1, ← Nat.add_mul]
        rw [show m + (grownCap w m 0 e - m) = grownCap w m 0 e from by omega]
        exact Nat.le_refl _
      · simp only [Array.toList_append, List.nil_append, Nat.zero_add]
        rw [← hs.1]
        exact List.take_left
      · exact ⟨rfl, rfl, rfl, by simp, fun k hk _ => Below.heap_alloc w.drew _ _ hk⟩
    · by_cases hroom : n + m ≤ cap
      · rcases hs.2.2 with ⟨rfl, h0⟩ | ⟨ad, c', rfl, hnews⟩
        · exact absurd h0 hm0
        subst hsz hby
        have hfit : n * i.size + news.length ≤ cur.size := by
          rw [hs.1, ← Nat.add_mul]; exact Nat.le_trans (Nat.mul_le_mul_right _ hroom) hcs
        have hr := run_append_room (P := P) w t ty e i E.under hi g n cap cur hg ad m c' news hs.1 hnews hs.2.1 hroom hfit
        refine ⟨_, _, hr, ⟨by rw [List.length_append, hown.1, hs.1, Nat.add_mul], .inr ⟨g, cap, _, rfl, setRow_heap w g cur _ e _ hg, hroom, hcm, ?_, ?_⟩⟩,
          ⟨rfl, rfl, rfl, by simp, fun k _ hk => setRow_other w g k _ (fun e => hk (by simp [Value.ownBlock, e]))⟩, .inl rfl, fun h => absurd h hm0⟩
        · simp only [List.size_toArray, List.length_append, List.length_take, List.length_drop, Array.length_toList]
          omega
        · rw [htake, Nat.add_mul, ← hown.1, ← hs.1, ← List.length_append]
          exact List.take_left
      · have hcells := fun g' => GRow.cells hown (g := g')
        obtain ⟨v', w', h1, h2, h3, h4, h5⟩ := run_append_full (ty := ty) E ⟨g, 0, none⟩ n cap xs hown.1 (fun j u hu => by rw [addr_add]; exact hcells g rfl j u hu) x m news hs (by omega) hnc h63 hbytes
        exact ⟨v', w', h1, h2, h3.mono (fun _ _ h => absurd h id), .inr ⟨h4, h5⟩, fun h => absurd h hm0⟩

theorem wp_append_g {o : Oper} {a : Act} {K : Act → World → Prop} {Q : Exit → Act → World → Prop} (s x : Operand) (E : ElemInfo P t e sz bytes)
    (ho : o.op = .call { callee := .builtin .append, args := #[s, x], argTypes := #[t, t] })
    (v : Value) (n : Nat) (xs : List Value) (hs : a.eval s = v) (hown : GRow w e sz v n xs)
    (xv : Value) (m : Nat) (news : List Value) (hx : a.eval x = xv) (hsrc : Src w sz xv m news)
    (h63 : n + m ≤ maxLen) (hbytes : (n + m) * bytes ≤ 140737488355328)
    (h : ∀ v' w', GRow w' e sz v' (n + m) (xs ++ news) → Fr (fun k => v.ownBlock = some k) w w' →
      (v'.ownBlock = v.ownBlock ∨ v'.ownBlock = some w.heap.size ∧ w.heap.size < w'.heap.size) → (m = 0 → v' = v) → K (a.put o.dst v') w') : o.wp P a w K Q := by
  obtain ⟨v', w', hr, h2, h3, h4, h5⟩ := run_append_g (ty := o.type) E v n xs hown xv m news hsrc h63 hbytes
  unfold Oper.wp execOp
  simp only [ho, resolve, invoke, builtin, Sem.run_bind, Sem.run_pure, Result.andThen_ok, List.map_toArray, List.map_cons, List.map_nil, hs, hx, hr]
  exact h v' w' h2 h3 h4 h5

theorem wpList_append_g {ops : Array Oper} {rest : List Oper} {o : Oper} {a : Act} {Q : Exit → Act → World → Prop} (hgd : o.guard = none) (s x : Operand) (E : ElemInfo P t e sz bytes)
    (ho : o.op = .call { callee := .builtin .append, args := #[s, x], argTypes := #[t, t] })
    (v : Value) (n : Nat) (xs : List Value) (hs : a.eval s = v) (hown : GRow w e sz v n xs)
    (xv : Value) (m : Nat) (news : List Value) (hx : a.eval x = xv) (hsrc : Src w sz xv m news)
    (h63 : n + m ≤ maxLen) (hbytes : (n + m) * bytes ≤ 140737488355328)
    (h : ∀ v' w', GRow w' e sz v' (n + m) (xs ++ news) → Fr (fun k => v.ownBlock = some k) w w' →
      (v'.ownBlock = v.ownBlock ∨ v'.ownBlock = some w.heap.size ∧ w.heap.size < w'.heap.size) → (m = 0 → v' = v) → wpList P ops Q rest (a.put o.dst v') w') : wpList P ops Q (o :: rest) a w :=
  wpList_plain hgd fun _ hK => wp_append_g s x E ho v n xs hs hown xv m news hx hsrc h63 hbytes fun v' w' h1 h2 h3 h4 => hK _ _ (h v' w' h1 h2 h3 h4)

theorem step_append_g {ops : Array Oper} {o : Oper} {a : Act} {K : Act → World → Prop} {Q : Exit → Act → World → Prop} {F : Prop} (hgd : o.guard = none) (s x : Operand) (E : ElemInfo P t e sz bytes)
    (ho : o.op = .call { callee := .builtin .append, args := #[s, x], argTypes := #[t, t] })
    (v : Value) (n : Nat) (xs : List Value) (hs : a.eval s = v) (hown : GRow w e sz v n xs)
    (xv : Value) (m : Nat) (news : List Value) (hx : a.eval x = xv) (hsrc : Src w sz xv m news)
    (h63 : n + m ≤ maxLen) (hbytes : (n + m) * bytes ≤ 140737488355328)
    (h : ∀ v' w', GRow w' e sz v' (n + m) (xs ++ news) → Fr (fun k => v.ownBlock = some k) w w' →
      (v'.ownBlock = v.ownBlock ∨ v'.ownBlock = some w.heap.size ∧ w.heap.size < w'.heap.size) → (m = 0 → v' = v) → K (a.put o.dst v') w') :
    if Region.wanted o (yielded ops a.tmps) = true then Oper.wp P o a w K Q else F := by
  rw [if_pos (by simp [Region.wanted, hgd])]
  exact wp_append_g s x E ho v n xs hs hown xv m news hx hsrc h63 hbytes h

/-- Append to a full slice (or of nothing): what was there stays. -/
theorem wp_append_f {o : Oper} {a : Act} {K : Act → World → Prop} {Q : Exit → Act → World → Prop} (s x : Operand) (E : ElemInfo P t e sz bytes)
    (ho : o.op = .call { callee := .builtin .append, args := #[s, x], argTypes := #[t, t] })
    (b : Addr) (n c : Nat) (xs : List Value) (hs : a.eval s = .slice (some b) n c) (hl : xs.length = n * sz) (hb : ∀ j u, xs[j]? = some u → w.cell? (b.add j) = some u)
    (xv : Value) (m : Nat) (news : List Value) (hx : a.eval x = xv) (hsrc : Src w sz xv m news) (hg : c < n + m) (hnc : n ≤ c)
    (h63 : n + m ≤ maxLen) (hbytes : (n + m) * bytes ≤ 140737488355328)
    (h : ∀ v' w', GRow w' e sz v' (n + m) (xs ++ news) → Fr Non w w' → v'.ownBlock = some w.heap.size → w.heap.size < w'.heap.size → K (a.put o.dst v') w') : o.wp P a w K Q := by
  obtain ⟨v', w', hr, h2, h3, h4, h5⟩ := run_append_full (ty := o.type) E b n c xs hl hb xv m news hsrc hg hnc h63 hbytes
  unfold Oper.wp execOp
  simp only [ho, resolve, invoke, builtin, Sem.run_bind, Sem.run_pure, Result.andThen_ok, List.map_toArray, List.map_cons, List.map_nil, hs, hx, hr]
  exact h v' w' h2 h3 h4 h5

theorem wpList_append_f {ops : Array Oper} {rest : List Oper} {o : Oper} {a : Act} {Q : Exit → Act → World → Prop} (hgd : o.guard = none) (s x : Operand) (E : ElemInfo P t e sz bytes)
    (ho : o.op = .call { callee := .builtin .append, args := #[s, x], argTypes := #[t, t] })
    (b : Addr) (n c : Nat) (xs : List Value) (hs : a.eval s = .slice (some b) n c) (hl : xs.length = n * sz) (hb : ∀ j u, xs[j]? = some u → w.cell? (b.add j) = some u)
    (xv : Value) (m : Nat) (news : List Value) (hx : a.eval x = xv) (hsrc : Src w sz xv m news) (hg : c < n + m) (hnc : n ≤ c)
    (h63 : n + m ≤ maxLen) (hbytes : (n + m) * bytes ≤ 140737488355328)
    (h : ∀ v' w', GRow w' e sz v' (n + m) (xs ++ news) → Fr Non w w' → v'.ownBlock = some w.heap.size → w.heap.size < w'.heap.size → wpList P ops Q rest (a.put o.dst v') w') : wpList P ops Q (o :: rest) a w :=
  wpList_plain hgd fun _ hK => wp_append_f s x E ho b n c xs hs hl hb xv m news hx hsrc hg hnc h63 hbytes fun v' w' h1 h2 h3 h4 => hK _ _ (h v' w' h1 h2 h3 h4)

theorem step_append_f {ops : Array Oper} {o : Oper} {a : Act} {K : Act → World → Prop} {Q : Exit → Act → World → Prop} {F : Prop} (hgd : o.guard = none) (s x : Operand) (E : ElemInfo P t e sz bytes)
    (ho : o.op = .call { callee := .builtin .append, args := #[s, x], argTypes := #[t, t] })
    (b : Addr) (n c : Nat) (xs : List Value) (hs : a.eval s = .slice (some b) n c) (hl : xs.length = n * sz) (hb : ∀ j u, xs[j]? = some u → w.cell? (b.add j) = some u)
    (xv : Value) (m : Nat) (news : List Value) (hx : a.eval x = xv) (hsrc : Src w sz xv m news) (hg : c < n + m) (hnc : n ≤ c)
    (h63 : n + m ≤ maxLen) (hbytes : (n + m) * bytes ≤ 140737488355328)
    (h : ∀ v' w', GRow w' e sz v' (n + m) (xs ++ news) → Fr Non w w' → v'.ownBlock = some w.heap.size → w.heap.size < w'.heap.size → K (a.put o.dst v') w') :
    if Region.wanted o (yielded ops a.tmps) = true then Oper.wp P o a w K Q else F := by
  rw [if_pos (by simp [Region.wanted, hgd])]
  exact wp_append_f s x E ho b n c xs hs hl hb xv m news hx hsrc hg hnc h63 hbytes h

/-- Nothing is appended: nothing happens. -/
theorem wp_append_z {o : Oper} {a : Act} {K : Act → World → Prop} {Q : Exit → Act → World → Prop} (s x : Operand) (E : ElemInfo P t e sz bytes)
    (ho : o.op = .call { callee := .builtin .append, args := #[s, x], argTypes := #[t, t] })
    (b : Option Addr) (n c : Nat) (hs : a.eval s = .slice b n c) (hnc : n ≤ c) (xv : Value) (hx : a.eval x = xv) (hsrc : Src w sz xv 0 []) (h : K (a.put o.dst (.slice b n c)) w) : o.wp P a w K Q := by
  have hr := run_append_zero (ty := o.type) E b n c hnc xv hsrc
  unfold Oper.wp execOp
  simp only [ho, resolve, invoke, builtin, Sem.run_bind, Sem.run_pure, Result.andThen_ok, List.map_toArray, List.map_cons, List.map_nil, hs, hx, hr]
  exact h

theorem wpList_append_z {ops : Array Oper} {rest : List Oper} {o : Oper} {a : Act} {Q : Exit → Act → World → Prop} (hgd : o.guard = none) (s x : Operand) (E : ElemInfo P t e sz bytes)
    (ho : o.op = .call { callee := .builtin .append, args := #[s, x], argTypes := #[t, t] })
    (b : Option Addr) (n c : Nat) (hs : a.eval s = .slice b n c) (hnc : n ≤ c) (xv : Value) (hx : a.eval x = xv) (hsrc : Src w sz xv 0 []) (h : wpList P ops Q rest (a.put o.dst (.slice b n c)) w) : wpList P ops Q (o :: rest) a w :=
  wpList_plain hgd fun _ hK => wp_append_z s x E ho b n c hs hnc xv hx hsrc (hK _ _ h)

theorem step_append_z {ops : Array Oper} {o : Oper} {a : Act} {K : Act → World → Prop} {Q : Exit → Act → World → Prop} {F : Prop} (hgd : o.guard = none) (s x : Operand) (E : ElemInfo P t e sz bytes)
    (ho : o.op = .call { callee := .builtin .append, args := #[s, x], argTypes := #[t, t] })
    (b : Option Addr) (n c : Nat) (hs : a.eval s = .slice b n c) (hnc : n ≤ c) (xv : Value) (hx : a.eval x = xv) (hsrc : Src w sz xv 0 []) (h : K (a.put o.dst (.slice b n c)) w) :
    if Region.wanted o (yielded ops a.tmps) = true then Oper.wp P o a w K Q else F := by
  rw [if_pos (by simp [Region.wanted, hgd])]
  exact wp_append_z s x E ho b n c hs hnc xv hx hsrc h

end

#print axioms wpList_append_g
end Go.Proofs.Ytplhcfaonhkegaa
