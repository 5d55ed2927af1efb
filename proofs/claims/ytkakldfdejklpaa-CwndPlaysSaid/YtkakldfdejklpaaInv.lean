/- What a window's numbers are: plain laws. -/
import Derived.Test.YtkakldfdejklpaaFns
namespace Go.Proofs.Ytkakldfdejklpaa
open Go.RowKit

/-- A window that New, Ack and Loss can come to. -/
structure Good (m s t c : Int) : Prop where
  s1 : 1 ≤ s
  sm : s ≤ m
  m16 : m ≤ 16
  t1 : 1 ≤ t
  tm : t ≤ m
  c0 : 0 ≤ c
  cs : c < s

theorem good_new {m : Int} (h1 : 1 ≤ m) (h2 : m ≤ 16) : Good (mn (mx m 1) 16) (mn 2 (mn (mx m 1) 16)) (mn (mx m 1) 16) 0 ∧ mn (mx m 1) 16 = m ∧ mn 2 (mn (mx m 1) 16) = mn 2 m := by
  have e : mn (mx m 1) 16 = m := by
    unfold mx mn
    repeat' split
    all_goals omega
  rw [e]
  refine ⟨⟨?_, ?_, h2, h1, Int.le_refl _, Int.le_refl _, ?_⟩, rfl, rfl⟩ <;> (unfold mn; split <;> omega)

theorem good_ack {m s t c : Int} (h : Good m s t c) : Good m (ackS m s t c) t (ackC s t c) := by
  obtain ⟨h1, h2, h3, h4, h5, h6, h7⟩ := h
  unfold ackS ackC mn
  constructor <;> (repeat' split) <;> omega

theorem good_loss {m s t c : Int} (h : Good m s t c) : Good m (mx (s / 2) 1) (mx (s / 2) 1) 0 := by
  obtain ⟨h1, h2, h3, h4, h5, h6, h7⟩ := h
  unfold mx
  constructor <;> (repeat' split) <;> omega

theorem ack_step {m s t c : Int} (h : Good m s t c) : ackS m s t c = s ∨ ackS m s t c = s + 1 := by
  obtain ⟨h1, h2, h3, h4, h5, h6, h7⟩ := h
  unfold ackS mn
  (repeat' split) <;> omega

/-- So many answers, with no loss between, take a window at least so far. -/
def Far (m s c i : Int) : Prop := s = m ∨ 2 * i ≤ s * (s - 1) + 2 * c

theorem far_ack {m s t c i : Int} (h : Good m s t c) (f : Far m s c i) : Far m (ackS m s t c) (ackC s t c) (i + 1) := by
  obtain ⟨h1, h2, h3, h4, h5, h6, h7⟩ := h
  unfold Far at *
  have e : (s + 1) * (s + 1 - 1) = s * (s - 1) + 2 * s := by
    rw [show s + 1 - 1 = s from by omega, Int.add_mul, Int.mul_sub]
    omega
  unfold ackS ackC mn
  by_cases a : s < t
  · rw [if_pos a, if_pos a]
    by_cases b : m < s + 1
    · rw [if_pos b]; exact .inl rfl
    · rw [if_neg b]
      rcases f with rfl | f
      · omega
      · right; rw [e]; omega
  · rw [if_neg a, if_neg a]
    by_cases b : c + 1 < s
    · rw [if_pos b, if_pos b]
      rcases f with rfl | f
      · exact .inl rfl
      · right; omega
    · rw [if_neg b, if_neg b]
      by_cases d : m < s + 1
      · rw [if_pos d]; exact .inl rfl
      · rw [if_neg d]
        rcases f with rfl | f
        · omega
        · right; rw [e]; omega

theorem far_end {m s t c : Int} (h : Good m s t c) (f : Far m s c 200) : s = m := by
  obtain ⟨h1, h2, h3, h4, h5, h6, h7⟩ := h
  rcases f with f | f
  · exact f
  · have : s * (s - 1) ≤ 16 * 15 := by
      have h8 : s * (s - 1) ≤ 16 * (s - 1) := Int.mul_le_mul_of_nonneg_right (by omega) (by omega)
      omega
    omega
theorem ack_full {m s c : Int} (h : Good m s m c) : ackS m s m c = mn (s + 1) m := by
  obtain ⟨h1, h2, h3, h4, h5, h6, h7⟩ := h
  unfold ackS mn
  (repeat' split) <;> omega

theorem all_step {s c : Int} {k : Nat} (h : Good 16 s 16 c) (hs : s = 16 ∨ s = 2 + (k : Int)) : ackS 16 s 16 c = 16 ∨ ackS 16 s 16 c = 2 + ((k + 1 : Nat) : Int) := by
  obtain ⟨h1, h2, h3, h4, h5, h6, h7⟩ := h
  unfold ackS mn
  (repeat' split) <;> omega

theorem new_good (m : Int) (w : World) (h1 : 1 ≤ m) (h2 : m ≤ 16) : Calls Try.prog 8 #[.int .i64 m] w fun e w' => ∃ g, e = .returned (.pointer (some ⟨g, 0, none⟩)) ∧ w.heap.size ≤ g ∧ Good m (mn 2 m) m 0 ∧ Win w' g m (mn 2 m) m 0 ∧ Below w.heap.size w w' := by
  obtain ⟨G, e1, e2⟩ := good_new h1 h2
  refine (new_any m w).mono ?_
  rintro e w1 ⟨g, rfl, hg, hw, hb⟩
  rw [e2, e1] at G hw
  exact ⟨g, rfl, hg, G, hw, hb⟩
end Go.Proofs.Ytkakldfdejklpaa
