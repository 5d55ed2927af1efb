/- The cyclic sum on plain numbers. -/
namespace Go.Proofs.Ytgcolhcajmbehaa

/-- One turn of a table's entry. -/
def gN (n : Nat) : Nat := if n % 2 = 1 then (n / 2) ^^^ 3988292384 else n / 2
def itN : Nat → Nat → Nat
  | 0, n => n
  | k + 1, n => gN (itN k n)
def entN (n : Nat) : Nat := itN 8 n
def tabN (k : Nat) : List Nat := (List.range k).map entN

theorem xor_lt32 {a b : Nat} (ha : a < 4294967296) (hb : b < 4294967296) : a ^^^ b < 4294967296 := Nat.xor_lt_two_pow (n := 32) ha hb
theorem gN_lt {n : Nat} (h : n < 4294967296) : gN n < 4294967296 := by
  unfold gN
  split
  · exact xor_lt32 (by omega) (by omega)
  · omega
theorem itN_lt {n : Nat} (h : n < 4294967296) : ∀ k, itN k n < 4294967296
  | 0 => h
  | k + 1 => gN_lt (itN_lt h k)
theorem entN_lt {n : Nat} (h : n < 4294967296) : entN n < 4294967296 := itN_lt h 8
theorem tabN_length (k : Nat) : (tabN k).length = k := by simp [tabN]
theorem tabN_snoc (k : Nat) : tabN (k + 1) = tabN k ++ [entN k] := by simp [tabN, List.range_succ]

/-- One step of a sum over a table. -/
def stN (t : List Nat) (s c : Nat) : Nat := (s / 256) ^^^ t.getD ((s % 256) ^^^ c) 0
def upN (t : List Nat) (s : Nat) (b : List Nat) : Nat := b.foldl (stN t) s
def ofN (t : List Nat) (b : List Nat) : Nat := if t.length ≠ 256 then 0 else 4294967295 ^^^ upN t 4294967295 b

theorem stN_lt {t : List Nat} (ht : ∀ x ∈ t, x < 4294967296) {s : Nat} (hs : s < 4294967296) (c : Nat) : stN t s c < 4294967296 := by
  unfold stN
  refine xor_lt32 (by omega) ?_
  rw [List.getD_eq_getElem?_getD]
  rcases h : t[(s % 256) ^^^ c]? with _ | x
  · simp
  · simpa using ht x (List.mem_of_getElem? h)
theorem upN_lt {t : List Nat} (ht : ∀ x ∈ t, x < 4294967296) (b : List Nat) : ∀ {s : Nat}, s < 4294967296 → upN t s b < 4294967296 := by
  induction b with
  | nil => intro s hs; exact hs
  | cons c b ih => intro s hs; exact ih (stN_lt ht hs c)
theorem upN_snoc (t : List Nat) (s : Nat) (b : List Nat) (c : Nat) : upN t s (b ++ [c]) = stN t (upN t s b) c := by simp [upN]
theorem upN_append (t : List Nat) (s : Nat) (b c : List Nat) : upN t s (b ++ c) = upN t (upN t s b) c := by simp [upN]
theorem tabN_lt (k : Nat) (hk : k ≤ 256) : ∀ x ∈ tabN k, x < 4294967296 := by
  intro x hx
  simp only [tabN, List.mem_map, List.mem_range] at hx
  obtain ⟨i, hi, rfl⟩ := hx
  exact entN_lt (by omega)
theorem tabN_zero : tabN 0 = [] := rfl
theorem upN_nil (t : List Nat) (s : Nat) : upN t s [] = s := rfl
theorem entN_eq (n : Nat) : entN n = itN 8 n := rfl
attribute [irreducible] tabN entN upN
end Go.Proofs.Ytgcolhcajmbehaa
