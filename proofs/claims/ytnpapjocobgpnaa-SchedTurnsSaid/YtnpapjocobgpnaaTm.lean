/- The plain law of SchedTurns. -/
import Derived.Test.YtnpapjocobgpnaaAid
namespace Go.Proofs.Ytnpapjocobgpnaa
open Go.RowKit

/-- The numbers below n. -/
def upTo (n : Nat) : List Int := (List.range n).map fun i : Nat => (i : Int)
theorem us_all (ms : List Int) (n : Nat) (h : ∀ i, i < n → 0 ≤ ms.getD i 0) : usN ms n = upTo n := by
  unfold usN upTo
  rw [List.filter_eq_self.2]
  intro i hi
  simpa using h i (by simpa using hi)

/-- Where the turns go on. -/
def nxtN (n k : Nat) : Nat := if k = 0 then 0 else (k - 1) % n + 1
theorem rd_small : ∀ n : Nat, n < 4 → 0 < n → ∀ k : Nat, k < 16 → rdN (nxtN n k : Nat) (upTo n) = ((k % n : Nat) : Int) ∧ nxtN n (k + 1) = k % n + 1 := by decide +kernel
def cntN (n k : Nat) : List Int := (List.range n).map fun c : Nat => (((k + n - 1 - c) / n : Nat) : Int)
theorem cnt_zero : ∀ n : Nat, n < 4 → 0 < n → cntN n 0 = List.replicate n 0 := by decide +kernel
theorem cnt_step : ∀ n : Nat, n < 4 → 0 < n → ∀ k : Nat, k < 16 → cntN n (k + 1) = (cntN n k).set (k % n) ((cntN n k).getD (k % n) 0 + 1) := by decide +kernel
theorem cnt_end : ∀ n : Nat, n < 4 → 0 < n → ∀ r : Nat, r < 6 → cntN n (r * n) = List.replicate n (r : Int) := by decide +kernel
theorem cnt_small : ∀ n : Nat, n < 4 → 0 < n → ∀ k : Nat, k < 16 → ∀ x ∈ cntN n k, 0 ≤ x ∧ x ≤ 100 := by decide +kernel
theorem cnt_length (n k : Nat) : (cntN n k).length = n := by simp [cntN]

theorem upTo_ne (n : Nat) (h : 0 < n) : upTo n ≠ [] := by
  intro e
  have := congrArg List.length e
  simp [upTo] at this
  omega

theorem turn_round (ms : List Int) (n : Nat) (hl : ms.length = n) (n4 : n < 4) (n0 : 0 < n) (h : ∀ i, i < n → 0 ≤ ms.getD i 0) (k : Nat) (hk : k < 16) :
    pkN 2 (nxtN n k : Nat) ms = [((k % n : Nat) : Int)] ∧ nxN 2 (nxtN n k : Nat) ms = (nxtN n (k + 1) : Nat) := by
  have hu := us_all ms n h
  have hr := rd_small n n4 n0 k hk
  have hc : ¬ (upTo n = [] ∨ (2 : Int) = 3) := by simp [upTo_ne n n0]
  unfold pkN nxN
  simp only [hl, hu]
  rw [if_neg hc, if_neg hc]
  simp only [if_true, hr.1, hr.2]
  exact ⟨trivial, by simp⟩

theorem turn_all (ms : List Int) (n : Nat) (hl : ms.length = n) (h : ∀ i, i < n → 0 ≤ ms.getD i 0) : pkN 3 0 ms = upTo n := by
  have hu := us_all ms n h
  simp [pkN, hl, hu]

theorem turn_quick (ms : List Int) (n : Nat) (hl : ms.length = n) (_n4 : n < 4) (n0 : 0 < n) (h : ∀ i, i < n → 0 ≤ ms.getD i 0) :
    ∃ y : Nat, pkN 1 0 ms = [(y : Int)] ∧ y < n ∧ ∀ i, i < n → ¬ ms.getD i 0 < ms.getD y 0 ∧ (ms.getD i 0 = ms.getD y 0 → y ≤ i) := by
  have hu := us_all ms n h
  have hp : pkN 1 0 ms = [bsN ms (upTo n) (upTo n).length] := by
    have hc : ¬ (upTo n = [] ∨ (1 : Int) = 3) := by simp [upTo_ne n n0]
    unfold pkN
    simp only [hl, hu]
    rw [if_neg hc, if_neg (by decide)]
  have hlu : (upTo n).length = n := by simp [upTo]
  rw [hp, hlu]
  have key : ∀ k, k ≤ n → 0 < k → ∃ y : Nat, bsN ms (upTo n) k = (y : Int) ∧ y < k ∧ ∀ i, i < k → ¬ ms.getD i 0 < ms.getD y 0 ∧ (ms.getD i 0 = ms.getD y 0 → y ≤ i) := by
    intro k
    have hg : ∀ i, i < n → (upTo n).getD i 0 = (i : Int) := fun i hi => by
      rw [List.getD_eq_getElem?_getD, List.getElem?_eq_getElem (by omega)]
      simp [upTo]
    induction k with
    | zero => intro _ h; omega
    | succ k ih =>
      intro hk _
      rw [bsN_succ _ _ _ (by omega), hg k (by omega)]
      by_cases k0 : k = 0
      · subst k0
        rw [bsN_zero, hg 0 (by omega)]
        refine ⟨0, by simp, by omega, fun i hi => ?_⟩
        obtain rfl : i = 0 := by omega
        exact ⟨by omega, by omega⟩
      · obtain ⟨y, e, hy, hm⟩ := ih (by omega) (by omega)
        rw [e]
        simp only [Int.toNat_natCast]
        by_cases hlt : ms.getD k 0 < ms.getD y 0
        · rw [if_pos hlt]
          refine ⟨k, rfl, by omega, fun i hi => ?_⟩
          by_cases hik : i = k
          · subst hik
            exact ⟨by omega, fun _ => Nat.le_refl _⟩
          · have := hm i (by omega)
            omega
        · rw [if_neg hlt]
          refine ⟨y, rfl, by omega, fun i hi => ?_⟩
          by_cases hik : i = k
          · subst hik
            exact ⟨hlt, fun _ => by omega⟩
          · exact hm i (by omega)
  obtain ⟨y, e, hy, hm⟩ := key n (Nat.le_refl _) n0
  exact ⟨y, by rw [e], hy, hm⟩

theorem pick_none (nx : Int) : pkN 2 nx [-1, -2] = [] := by
  have : usN [-1, -2] 2 = [] := by decide
  simp [pkN, this]
end Go.Proofs.Ytnpapjocobgpnaa
