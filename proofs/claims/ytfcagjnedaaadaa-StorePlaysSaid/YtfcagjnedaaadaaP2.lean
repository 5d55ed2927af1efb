/- More plain laws of the store's state. -/
import Derived.Test.YtfcagjnedaaadaaWk
namespace Go.Proofs.Ytfcagjnedaaadaa
open Go.RowKit

theorem _root_.Go.RowKit.Below.un {w w' : World} (h : Below w.drew.heap.size w.drew w') : Below w.heap.size w w' := ⟨h.os, h.tape, h.output, h.size, h.block⟩
theorem crash_full (k : Int) (l : List Int) : crash1 k (l, (l.length : Int), true) = some (l, (l.length : Int), true) := by
  have hc : crn k (l, (l.length : Int), true) = l.length := by
    unfold crn mn mx
    simp only
    split <;> split <;> omega
  simp [crash1, hc]
theorem crash_part (kp : Nat) (l1 l2 : List Int) (hk : kp ≤ l2.length) : crash1 kp (l1 ++ l2, (l1.length : Int), true) = some (l1 ++ l2.take kp, ((l1 ++ l2.take kp).length : Int), true) := by
  have hc : crn kp (l1 ++ l2, (l1.length : Int), true) = l1.length + kp := by
    unfold crn mn mx
    simp only [List.length_append]
    split <;> split <;> omega
  have hl : (l2.take kp).length = kp := by rw [List.length_take]; omega
  have ht : (l1 ++ l2).take (l1.length + kp) = l1 ++ l2.take kp := by rw [List.take_append]; simp [List.take_of_length_le]
  simp [crash1, hc, ht, Nat.min_eq_left hk]
theorem rising_nil {ss : List Int} (h : ∀ k, ¬ k ∈ ss) : ss = [] := List.eq_nil_iff_forall_not_mem.2 h
theorem rising_one {ss : List Int} {n : Int} (hp : ss.Pairwise (· < ·)) (h : ∀ k, k ∈ ss ↔ k = n) : ss = [n] := by
  cases ss with
  | nil => exact absurd ((h n).2 rfl) (by simp)
  | cons a r =>
    obtain rfl : a = n := (h a).1 (by simp)
    obtain ⟨h1, _⟩ := List.pairwise_cons.1 hp
    cases r with
    | nil => rfl
    | cons c r =>
      have e := (h c).1 (by simp)
      have := h1 c (by simp)
      omega
end Go.Proofs.Ytfcagjnedaaadaa
