/- Sums of three texts of one length, and of their sum, are one: on plain numbers. -/
import Derived.Test.YtgcolhcajmbehaaLin
namespace Go.Proofs.Ytgcolhcajmbehaa

theorem up_xor (a : List Nat) : ∀ (b : List Nat) (s s' : Nat), a.length = b.length → (∀ x ∈ a, x < 256) → (∀ x ∈ b, x < 256) →
    upN (tabN 256) (s ^^^ s') (List.zipWith (· ^^^ ·) a b) = upN (tabN 256) s a ^^^ upN (tabN 256) s' b := by
  induction a with
  | nil =>
    intro b s s' hl _ _
    cases b with
    | nil => rw [List.zipWith_nil_left, upN_nil, upN_nil, upN_nil]
    | cons _ _ => simp at hl
  | cons x a ih =>
    intro b s s' hl ha hb
    cases b with
    | nil => simp at hl
    | cons y b =>
      rw [List.zipWith_cons_cons, up_cons, up_cons, up_cons, st_xor s s' (ha x (by simp)) (hb y (by simp))]
      exact ih b _ _ (by simpa using hl) (fun z hz => ha z (by simp [hz])) (fun z hz => hb z (by simp [hz]))

theorem zip_zero (c : List Nat) : List.zipWith (· ^^^ ·) c (List.replicate c.length 0) = c := by
  induction c with
  | nil => rfl
  | cons x c ih => rw [List.length_cons, List.replicate_succ, List.zipWith_cons_cons, ih, Nat.xor_zero]

theorem zip_lt (a : List Nat) : ∀ (b : List Nat), (∀ x ∈ a, x < 256) → (∀ x ∈ b, x < 256) → ∀ x ∈ List.zipWith (· ^^^ ·) a b, x < 256 := by
  induction a with
  | nil => intro b _ _ x hx; simp at hx
  | cons y a ih =>
    intro b ha hb x hx
    cases b with
    | nil => simp at hx
    | cons z b =>
      rw [List.zipWith_cons_cons, List.mem_cons] at hx
      rcases hx with rfl | hx
      · exact Nat.xor_lt_two_pow (n := 8) (ha y (by simp)) (hb z (by simp))
      · exact ih b (fun u hu => ha u (by simp [hu])) (fun u hu => hb u (by simp [hu])) x hx

theorem of_three (a b : List Nat) (hl : a.length = b.length) (ha : ∀ x ∈ a, x < 256) (hb : ∀ x ∈ b, x < 256) :
    ofN (tabN 256) a ^^^ ofN (tabN 256) b = ofN (tabN 256) (List.zipWith (· ^^^ ·) a b) ^^^ ofN (tabN 256) (List.replicate a.length 0) := by
  have hc := zip_lt a b ha hb
  have hcl : (List.zipWith (· ^^^ ·) a b).length = a.length := by simp [hl]
  rw [of_eq, of_eq, of_eq, of_eq, xor_shuffle, Nat.xor_self, Nat.zero_xor, xor_shuffle, Nat.xor_self, Nat.zero_xor,
    ← up_xor a b _ _ hl ha hb, ← up_xor (List.zipWith (· ^^^ ·) a b) (List.replicate a.length 0) _ _ (by rw [hcl]; simp) hc (by simp),
    show List.replicate a.length 0 = List.replicate (List.zipWith (· ^^^ ·) a b).length 0 from by rw [hcl], zip_zero]

/-- The third text, so far. -/
def so (a b : List Nat) (n k : Nat) : List Nat := List.zipWith (· ^^^ ·) (a.take k) (b.take k) ++ List.replicate (n - k) 0
theorem so_zero (a b : List Nat) (n : Nat) : so a b n 0 = List.replicate n 0 := by simp [so]
theorem so_all (a b : List Nat) (n : Nat) : so a b n n = List.zipWith (· ^^^ ·) (a.take n) (b.take n) := by simp [so]
theorem so_length (a b : List Nat) (n k : Nat) (ha : n ≤ a.length) (hb : n ≤ b.length) (hk : k ≤ n) : (so a b n k).length = n := by
  simp [so]; omega
theorem so_set (a b : List Nat) (n k : Nat) (ha : n ≤ a.length) (hb : n ≤ b.length) (hk : k < n) : (so a b n k).set k (a.getD k 0 ^^^ b.getD k 0) = so a b n (k + 1) := by
  have h1 : (List.zipWith (· ^^^ ·) (a.take k) (b.take k)).length = k := by simp; omega
  have ha1 : a.take (k + 1) = a.take k ++ [a.getD k 0] := by
    rw [List.take_succ_eq_append_getElem (by omega), List.getD_eq_getElem?_getD, List.getElem?_eq_getElem (by omega)]
    rfl
  have hb1 : b.take (k + 1) = b.take k ++ [b.getD k 0] := by
    rw [List.take_succ_eq_append_getElem (by omega), List.getD_eq_getElem?_getD, List.getElem?_eq_getElem (by omega)]
    rfl
  have hr : List.replicate (n - k) 0 = 0 :: List.replicate (n - (k + 1)) 0 := by
    rw [show n - k = (n - (k + 1)) + 1 from by omega, List.replicate_succ]
  unfold so
  rw [List.set_append, if_neg (by rw [h1]; omega), h1, Nat.sub_self, hr, List.set_cons_zero, ha1, hb1, List.zipWith_append (by simp; omega)]
  simp
end Go.Proofs.Ytgcolhcajmbehaa
