/- Spoilt bytes, on plain numbers. -/
namespace Go.Proofs.Ytgcolhcajmbehaa

/-- Is a digit turned in that round? -/
def spC (n : Nat) (bit : Int) (mask k : Nat) : Prop := (bit < 8 * (n : Int) ∧ 0 ≤ bit + k ∧ bit + k < 8 * (n : Int)) ∧ mask.testBit k = true
instance (n : Nat) (bit : Int) (mask k : Nat) : Decidable (spC n bit mask k) := by unfold spC; exact inferInstance
def flip (l : List Nat) (p : Nat) : List Nat := l.set (p / 8) (l.getD (p / 8) 0 ^^^ 2 ^ (p % 8))
/-- The bytes behind so many rounds. -/
def spN (bit : Int) (mask : Nat) (b : List Nat) : Nat → List Nat
  | 0 => b
  | k + 1 => if spC b.length bit mask k then flip (spN bit mask b k) (bit + k).toNat else spN bit mask b k

theorem flip_length (l : List Nat) (p : Nat) : (flip l p).length = l.length := by simp [flip]
theorem flip_lt {l : List Nat} (h : ∀ x ∈ l, x < 256) (p : Nat) : ∀ x ∈ flip l p, x < 256 := by
  intro x hx
  unfold flip at hx
  rcases List.mem_or_eq_of_mem_set hx with h1 | h1
  · exact h x h1
  · rw [h1]
    have h2 : l.getD (p / 8) 0 < 256 := by
      rw [List.getD_eq_getElem?_getD]
      rcases hk : l[p / 8]? with _ | y
      · simp
      · simpa using h y (List.mem_of_getElem? hk)
    exact Nat.xor_lt_two_pow (n := 8) h2 (Nat.pow_lt_pow_right (by omega) (Nat.mod_lt _ (by omega)))
theorem spN_length (bit : Int) (mask : Nat) (b : List Nat) : ∀ k, (spN bit mask b k).length = b.length
  | 0 => rfl
  | k + 1 => by
    unfold spN
    split
    · rw [flip_length, spN_length bit mask b k]
    · exact spN_length bit mask b k
theorem spN_lt {bit : Int} {mask : Nat} {b : List Nat} (h : ∀ x ∈ b, x < 256) : ∀ k, ∀ x ∈ spN bit mask b k, x < 256
  | 0 => h
  | k + 1 => by
    unfold spN
    split
    · exact flip_lt (spN_lt h k) _
    · exact spN_lt h k

/-- A digit of bytes, by its place. -/
def bitAt (l : List Nat) (j : Nat) : Bool := (l.getD (j / 8) 0).testBit (j % 8)

theorem bitAt_flip (l : List Nat) (p j : Nat) (hp : p < 8 * l.length) : bitAt (flip l p) j = (bitAt l j ^^ decide (j = p)) := by
  unfold bitAt flip
  rw [List.getD_eq_getElem?_getD, List.getElem?_set]
  by_cases hq : p / 8 = j / 8
  · rw [if_pos hq, if_pos (by omega), hq]
    simp only [Option.getD_some, Nat.testBit_xor, Nat.testBit_two_pow]
    congr 1
    rw [decide_eq_decide]
    omega
  · rw [if_neg hq, ← List.getD_eq_getElem?_getD, show decide (j = p) = false from decide_eq_false (by omega), Bool.xor_false]

theorem bitAt_spN (bit : Int) (mask : Nat) (b : List Nat) (j : Nat) (hj : j < 8 * b.length) : ∀ k, k ≤ 32 →
    bitAt (spN bit mask b k) j = (bitAt b j ^^ decide (0 ≤ (j : Int) - bit ∧ (j : Int) - bit < k ∧ mask.testBit ((j : Int) - bit).toNat = true))
  | 0, _ => by
    rw [decide_eq_false (by omega), Bool.xor_false]
    rfl
  | k + 1, hk => by
    have ih := bitAt_spN bit mask b j hj k (by omega)
    unfold spN
    by_cases hc : spC b.length bit mask k
    · rw [if_pos hc]
      obtain ⟨⟨h1, h2, h3⟩, h4⟩ := hc
      rw [bitAt_flip _ _ _ (by rw [spN_length]; omega), ih, Bool.xor_assoc]
      congr 1
      by_cases he : j = (bit + k).toNat
      · have e1 : (j : Int) - bit = k := by omega
        rw [e1]
        simp only [Int.toNat_natCast]
        rw [decide_eq_false (by omega), decide_eq_true he, decide_eq_true (by exact ⟨by omega, by omega, h4⟩)]
        rfl
      · rw [decide_eq_false he, Bool.xor_false, decide_eq_decide]
        have : (j : Int) - bit ≠ k := by omega
        exact ⟨fun ⟨a, b, c⟩ => ⟨a, by omega, c⟩, fun ⟨a, b, c⟩ => ⟨a, by omega, c⟩⟩
    · rw [if_neg hc, ih]
      congr 1
      rw [decide_eq_decide]
      refine ⟨fun ⟨a, b, c⟩ => ⟨a, by omega, c⟩, fun ⟨a, b, c⟩ => ⟨a, ?_, c⟩⟩
      by_cases he : (j : Int) - bit = k
      · exfalso
        rw [he] at c
        simp only [Int.toNat_natCast] at c
        exact hc ⟨⟨by omega, by omega, by omega⟩, c⟩
      · omega

theorem bits_ext {a b : List Nat} (hl : a.length = b.length) (ha : ∀ x ∈ a, x < 256) (hb : ∀ x ∈ b, x < 256) (h : ∀ j, j < 8 * b.length → bitAt a j = bitAt b j) : a = b := by
  apply List.ext_getElem hl
  intro i h1 h2
  apply Nat.eq_of_testBit_eq
  intro r
  by_cases hr : r < 8
  · have := h (8 * i + r) (by omega)
    unfold bitAt at this
    rw [show (8 * i + r) / 8 = i from by omega, show (8 * i + r) % 8 = r from by omega, List.getD_eq_getElem?_getD, List.getD_eq_getElem?_getD, List.getElem?_eq_getElem h1, List.getElem?_eq_getElem h2] at this
    exact this
  · rw [Nat.testBit_lt_two_pow, Nat.testBit_lt_two_pow]
    · exact Nat.lt_of_lt_of_le (hb _ (List.getElem_mem _)) (Nat.pow_le_pow_right (n := 2) (by omega) (show 8 ≤ r by omega))
    · exact Nat.lt_of_lt_of_le (ha _ (List.getElem_mem _)) (Nat.pow_le_pow_right (n := 2) (by omega) (show 8 ≤ r by omega))

theorem sp_twice (bit : Int) (mask : Nat) (b : List Nat) (hb : ∀ x ∈ b, x < 256) : spN bit mask (spN bit mask b 32) 32 = b := by
  refine bits_ext (by rw [spN_length, spN_length]) (spN_lt (spN_lt hb 32) 32) hb (fun j hj => ?_)
  rw [bitAt_spN _ _ _ _ (by rw [spN_length]; exact hj) 32 (Nat.le_refl _), bitAt_spN _ _ _ _ hj 32 (Nat.le_refl _), Bool.xor_assoc, Bool.xor_self, Bool.xor_false]
theorem sp_none (bit : Int) (b : List Nat) : ∀ k, spN bit 0 b k = b
  | 0 => rfl
  | k + 1 => by
    unfold spN
    rw [if_neg (fun h => by have := h.2; simp at this), sp_none bit b k]
end Go.Proofs.Ytgcolhcajmbehaa
