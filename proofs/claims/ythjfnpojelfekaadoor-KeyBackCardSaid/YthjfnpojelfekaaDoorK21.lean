/-
  Keys: what a text is read as, plainly; and that both sides read it so.
-/
import Derived.Test.YthjfnpojelfekaaDoorK20
namespace Go.Proofs.YthjfnpojelfekaaDoor
open Go.RowKit Go.Lib

def kParse (l : List UInt8) : MK × Int :=
  if l = [45] then ((1, 0), 0) else if l = [43] then ((3, 0), 0) else
    match parseUintB 64 l with
    | .ok u => if decDigits u = l then ((2, (u : Int)), 0) else ((0, 0), 20)
    | _ => ((0, 0), 20)
def val (acc : Nat) (l : List UInt8) : Nat := l.foldl (fun a c => a * 10 + (c.toNat - 48)) acc
theorem val_ge (l : List UInt8) : ∀ acc, acc ≤ val acc l := by
  induction l with
  | nil => intro acc; exact Nat.le_refl _
  | cons c l ih =>
    intro acc
    have := ih (acc * 10 + (c.toNat - 48))
    unfold val at this ⊢
    rw [List.foldl_cons]
    omega
theorem val_app (acc : Nat) (a b : List UInt8) : val acc (a ++ b) = val (val acc a) b := by unfold val; rw [List.foldl_append]
def isDig (c : UInt8) : Prop := 48 ≤ c.toNat ∧ c.toNat ≤ 57
theorem parse_val {M : Nat} (hM : M = 18446744073709551615) : ∀ (l : List UInt8) (acc : Nat), (∀ c ∈ l, isDig c) → val acc l ≤ M → parseUintM M acc l = .ok (val acc l)
  | [], acc, _, _ => rfl
  | c :: l, acc, hd, hv => by
    have hc := hd c (by simp)
    have hv2 : val (acc * 10 + (c.toNat - 48)) l ≤ M := hv
    have hge := val_ge l (acc * 10 + (c.toNat - 48))
    unfold isDig at hc
    rw [parseUintM, if_pos hc, if_neg (by omega), if_neg (by omega), parse_val hM l _ (fun x hx => hd x (by simp [hx])) hv2]
    rfl
theorem dig_toNat {d : Nat} (h : d < 10) : (UInt8.ofNat (48 + d)).toNat = 48 + d := by
  rw [UInt8.toNat_ofNat']
  omega
theorem dec_dig (u : Nat) : ∀ c ∈ decDigits u, isDig c := by
  induction u using Nat.strongRecOn with
  | _ u ih =>
    intro c hc
    by_cases h : u < 10
    · rw [dec_small h] at hc
      simp only [List.mem_singleton] at hc
      subst hc
      unfold isDig
      rw [dig_toNat h]
      omega
    · rw [dec_big h, List.mem_append] at hc
      rcases hc with hc | hc
      · exact ih (u / 10) (by omega) c hc
      · simp only [List.mem_singleton] at hc
        subst hc
        unfold isDig
        rw [dig_toNat (by omega)]
        omega
theorem dec_val (u : Nat) : val 0 (decDigits u) = u := by
  induction u using Nat.strongRecOn with
  | _ u ih =>
    by_cases h : u < 10
    · rw [dec_small h]
      unfold val
      simp only [List.foldl_cons, List.foldl_nil]
      rw [dig_toNat h]
      omega
    · rw [dec_big h, val_app, ih (u / 10) (by omega)]
      unfold val
      simp only [List.foldl_cons, List.foldl_nil]
      rw [dig_toNat (by omega)]
      omega
theorem dec_ne (u : Nat) : decDigits u ≠ [] := by
  by_cases h : u < 10
  · rw [dec_small h]; simp
  · rw [dec_big h]; simp
theorem parse_dec {u : Nat} (h : u < 18446744073709551616) : parseUintB 64 (decDigits u) = .ok u := by
  have hv : val 0 (decDigits u) ≤ 2 ^ 64 - 1 := by
    rw [dec_val]
    have : 2 ^ 64 - 1 = 18446744073709551615 := by decide
    omega
  have hp := parse_val (by decide) _ _ (dec_dig u) hv
  rw [dec_val] at hp
  unfold parseUintB
  rw [if_neg (dec_ne u)]
  exact hp
def aStep (n : Nat) (b : UInt8) : Nat := (n * 10 % 18446744073709551616 + (b.toNat + 208) % 256) % 18446744073709551616
def aVal (l : List UInt8) : Nat := l.foldl aStep 0
theorem aVal_lt (l : List UInt8) : aVal l < 18446744073709551616 := by
  unfold aVal
  have : ∀ (l : List UInt8) n, n < 18446744073709551616 → l.foldl aStep n < 18446744073709551616 := by
    intro l
    induction l with
    | nil => intro n h; exact h
    | cons c l ih => intro n _; exact ih _ (Nat.mod_lt _ (by decide))
  exact this l 0 (by decide)
theorem aVal_next {l : List UInt8} {j : Nat} (h : j < l.length) : aVal (l.take (j + 1)) = aStep (aVal (l.take j)) l[j] := by
  unfold aVal
  rw [← List.take_append_getElem h, List.foldl_append]
  rfl
theorem dec_aVal {u : Nat} (h : u < 18446744073709551616) : aVal (decDigits u) = u := by
  induction u using Nat.strongRecOn with
  | _ u ih =>
    by_cases h1 : u < 10
    · rw [dec_small h1]
      unfold aVal aStep
      simp only [List.foldl_cons, List.foldl_nil]
      rw [dig_toNat h1]
      omega
    · rw [dec_big h1]
      have := ih (u / 10) (by omega) (by omega)
      unfold aVal at this ⊢
      rw [List.foldl_append, this]
      unfold aStep
      simp only [List.foldl_cons, List.foldl_nil]
      rw [dig_toNat (by omega)]
      omega
/-- What the reference asks. -/
theorem kParse_ref {l : List UInt8} (h1 : l ≠ [45]) (h2 : l ≠ [43]) : kParse l = if l.length ≤ 20 ∧ decDigits (aVal (l.take 20)) = l then ((2, (aVal (l.take 20) : Int)), 0) else ((0, 0), 20) := by
  unfold kParse
  rw [if_neg h1, if_neg h2]
  by_cases hr : l.length ≤ 20 ∧ decDigits (aVal (l.take 20)) = l
  · rw [if_pos hr]
    have hp := parse_dec (aVal_lt (l.take 20))
    rw [hr.2] at hp
    rw [hp]
    simp only
    rw [if_pos hr.2]
  · rw [if_neg hr]
    cases hp : parseUintB 64 l with
    | ok u =>
      simp only
      by_cases hd : decDigits u = l
      · exfalso
        have hu : u < 18446744073709551616 := by have := parseUintB_le hp; have : 2 ^ 64 - 1 = 18446744073709551615 := by decide
                                                 omega
        have hl := dec_len u hu
        rw [hd] at hl
        refine hr ⟨hl, ?_⟩
        rw [List.take_of_length_le hl, ← hd, dec_aVal hu]
      · rw [if_neg hd]
    | «syntax» => rfl
    | range => rfl
end Go.Proofs.YthjfnpojelfekaaDoor
