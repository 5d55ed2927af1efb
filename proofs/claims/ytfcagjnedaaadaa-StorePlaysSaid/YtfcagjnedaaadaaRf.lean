/- Rows of the reference's blocks: their beginnings, ends, and joints. -/
import Derived.Test.YtfcagjnedaaadaaRd
namespace Go.Proofs.Ytfcagjnedaaadaa
open Go.RowKit

theorem rcells_take : ∀ (l : List (Int × Bk)) (vs : List Value) (k : Nat), vs.length = l.length → (rcells l vs).take (k * 4) = rcells (l.take k) (vs.take k)
  | [], [], k, _ => by simp [rcells]
  | x :: l, v :: vs, 0, _ => by simp [rcells]
  | x :: l, v :: vs, k + 1, h => by
    simp only [rcells, List.take_succ_cons]
    rw [← rcells_take l vs k (by simpa using h), List.take_append]
    have e : (k + 1) * 4 - (rcell x v).length = k * 4 := by simp [rcell]; omega
    rw [e, List.take_of_length_le (by simp [rcell]; omega)]
theorem rcells_drop : ∀ (l : List (Int × Bk)) (vs : List Value) (k : Nat), vs.length = l.length → (rcells l vs).drop (k * 4) = rcells (l.drop k) (vs.drop k)
  | [], [], k, _ => by simp [rcells]
  | x :: l, v :: vs, 0, _ => by simp [rcells]
  | x :: l, v :: vs, k + 1, h => by
    simp only [rcells, List.drop_succ_cons]
    rw [← rcells_drop l vs k (by simpa using h), List.drop_append]
    have e : (k + 1) * 4 - (rcell x v).length = k * 4 := by simp [rcell]; omega
    rw [e, List.drop_of_length_le (by simp [rcell]; omega), List.nil_append]
theorem rcells_append : ∀ (l l2 : List (Int × Bk)) (vs vs2 : List Value), vs.length = l.length → rcells (l ++ l2) (vs ++ vs2) = rcells l vs ++ rcells l2 vs2
  | [], l2, [], vs2, _ => by simp [rcells]
  | x :: l, l2, v :: vs, vs2, h => by
    simp only [List.cons_append, rcells, List.append_assoc]
    rw [rcells_append l l2 vs vs2 (by simpa using h)]
theorem rcells_one : ∀ (l : List (Int × Bk)) (vs : List Value), vs.length = l.length → (∀ v ∈ vs, v.oneCell' = true) → ∀ u ∈ rcells l vs, u.oneCell' = true
  | [], [], _, _ => by simp [rcells]
  | x :: l, v :: vs, h, hv => by
    intro u hu
    simp only [rcells, List.mem_append] at hu
    rcases hu with hu | hu
    · simp only [rcell, List.mem_cons, List.not_mem_nil, or_false] at hu
      rcases hu with rfl | rfl | rfl | rfl
      · rfl
      · exact hv _ (by simp)
      · rfl
      · rfl
    · exact rcells_one l vs (by simpa using h) (fun v hv' => hv v (by simp [hv'])) u hu

/-- A part of an own row, as a slice. -/
theorem own_part {w : World} {base e size g n c a m : Nat} {xs : List Value} (h : w.ownsRow base e size (.slice (some ⟨g, 0, none⟩) n c) n xs) (h1 : ∀ u ∈ xs, u.oneCell' = true) (hm : a + m ≤ n) :
    Sl w size (.slice (some ⟨g, a * size, none⟩) m (c - a)) m ((xs.drop (a * size)).take (m * size)) := by
  obtain ⟨_, _, e', g1, g2, g3, _⟩ := Sl.of_own h h1
  injection e' with _ _ e3
  subst e3
  have hmul : a * size + m * size ≤ n * size := by rw [← Nat.add_mul]; exact Nat.mul_le_mul_right _ hm
  refine ⟨_, c - a, rfl, by omega, by omega, by rw [List.length_take, List.length_drop, g3]; omega, fun u hu => h1 u (List.mem_of_mem_drop (List.mem_of_mem_take hu)), fun _ => ⟨_, rfl, fun j u hj => ?_⟩⟩
  have hlt := (List.getElem?_eq_some_iff.1 hj).1
  rw [List.length_take, List.length_drop, g3] at hlt
  have ha : (⟨g, a * size, none⟩ : Addr).add j = ⟨g, a * size + j, none⟩ := by unfold Addr.add; split <;> simp_all
  rw [ha, h.cellAt (a * size + j) (by omega)]
  rw [List.getElem?_take, if_pos (by omega), List.getElem?_drop] at hj
  exact hj
end Go.Proofs.Ytfcagjnedaaadaa
