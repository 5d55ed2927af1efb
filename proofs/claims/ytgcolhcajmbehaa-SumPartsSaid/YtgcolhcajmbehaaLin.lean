/- The cyclic sum is linear, and tells swapped and turned bytes: on plain numbers. -/
import Derived.Test.YtgcolhcajmbehaaMath
namespace Go.Proofs.Ytgcolhcajmbehaa

theorem xor_shuffle (a b c d : Nat) : (a ^^^ b) ^^^ (c ^^^ d) = (a ^^^ c) ^^^ (b ^^^ d) := by
  rw [Nat.xor_assoc, Nat.xor_assoc]
  congr 1
  rw [← Nat.xor_assoc, ← Nat.xor_assoc, Nat.xor_comm b c]

theorem xor_eq_zero {a b : Nat} (h : a ^^^ b = 0) : a = b := by
  have : a ^^^ b ^^^ b = b := by rw [h, Nat.zero_xor]
  rwa [Nat.xor_assoc, Nat.xor_self, Nat.xor_zero] at this

theorem gN_xor (a b : Nat) : gN (a ^^^ b) = gN a ^^^ gN b := by
  have h2 : (a ^^^ b) % 2 = (a % 2) ^^^ (b % 2) := by
    have := @Nat.xor_mod_two_pow a b 1
    simpa using this
  unfold gN
  rw [Nat.xor_div_two]
  rcases Nat.mod_two_eq_zero_or_one a with ha | ha <;> rcases Nat.mod_two_eq_zero_or_one b with hb | hb
  · rw [h2, ha, hb, if_neg (by decide), if_neg (by decide), if_neg (by decide)]
  · rw [h2, ha, hb, if_pos (by decide), if_neg (by decide), if_pos (by decide), Nat.xor_assoc]
  · rw [h2, ha, hb, if_pos (by decide), if_pos (by decide), if_neg (by decide), Nat.xor_assoc, Nat.xor_assoc, Nat.xor_comm 3988292384]
  · rw [h2, ha, hb, if_neg (by decide), if_pos (by decide), if_pos (by decide), xor_shuffle, Nat.xor_self, Nat.xor_zero]
theorem itN_xor (a b : Nat) : ∀ k, itN k (a ^^^ b) = itN k a ^^^ itN k b
  | 0 => rfl
  | k + 1 => by rw [itN, itN_xor a b k, gN_xor]; rfl
theorem entN_xor (a b : Nat) : entN (a ^^^ b) = entN a ^^^ entN b := by rw [entN_eq, entN_eq, entN_eq, itN_xor]
theorem entN_zero : entN 0 = 0 := by rw [entN_eq]; decide +kernel

theorem tabN_get {x : Nat} (h : x < 256) : (tabN 256).getD x 0 = entN x := by
  unfold tabN
  rw [List.getD_eq_getElem?_getD, List.getElem?_map, List.getElem?_range h]
  rfl

/-- A step over the table. -/
theorem st_eq (s : Nat) {c : Nat} (hc : c < 256) : stN (tabN 256) s c = (s / 256) ^^^ entN ((s % 256) ^^^ c) := by
  unfold stN
  rw [tabN_get (Nat.xor_lt_two_pow (n := 8) (by omega) hc)]

theorem div_xor (a b : Nat) : (a ^^^ b) / 256 = a / 256 ^^^ b / 256 := by
  have := Nat.shiftRight_xor_distrib (a := a) (b := b) (i := 8)
  simpa [Nat.shiftRight_eq_div_pow] using this
theorem mod_xor (a b : Nat) : (a ^^^ b) % 256 = a % 256 ^^^ b % 256 := by
  have := @Nat.xor_mod_two_pow a b 8
  simpa using this

theorem st_xor (s s' : Nat) {c c' : Nat} (hc : c < 256) (hc' : c' < 256) : stN (tabN 256) (s ^^^ s') (c ^^^ c') = stN (tabN 256) s c ^^^ stN (tabN 256) s' c' := by
  rw [st_eq _ hc, st_eq _ hc', st_eq _ (Nat.xor_lt_two_pow (n := 8) hc hc'), div_xor, mod_xor, xor_shuffle (s % 256), entN_xor, xor_shuffle]

theorem ent_high : ∀ x < 256, x ≠ 0 → 16777216 ≤ entN x := by
  have h : ∀ x < 256, x ≠ 0 → 16777216 ≤ itN 8 x := by decide +kernel
  intro x hx h0
  rw [entN_eq]
  exact h x hx h0

theorem st_zero {D : Nat} (hD : D < 4294967296) (h : stN (tabN 256) D 0 = 0) : D = 0 := by
  rw [st_eq _ (by omega), Nat.xor_zero] at h
  have h1 := xor_eq_zero h
  by_cases h0 : D % 256 = 0
  · rw [h0, entN_zero] at h1
    omega
  · have := ent_high _ (Nat.mod_lt _ (by omega)) h0
    omega

theorem st_inj {s s' c : Nat} (hs : s < 4294967296) (hs' : s' < 4294967296) (hc : c < 256) (h : stN (tabN 256) s c = stN (tabN 256) s' c) : s = s' := by
  have e := st_xor s s' hc hc
  rw [h, Nat.xor_self, Nat.xor_self] at e
  exact xor_eq_zero (st_zero (xor_lt32 hs hs') e)

theorem up_cons (t : List Nat) (s c : Nat) (b : List Nat) : upN t s (c :: b) = upN t (stN t s c) b := by
  unfold upN
  rfl

theorem up_inj (b : List Nat) (hb : ∀ x ∈ b, x < 256) : ∀ {s s' : Nat}, s < 4294967296 → s' < 4294967296 → upN (tabN 256) s b = upN (tabN 256) s' b → s = s' := by
  induction b with
  | nil => intro s s' _ _ h; rwa [upN_nil, upN_nil] at h
  | cons c b ih =>
    intro s s' hs hs' h
    rw [up_cons, up_cons] at h
    have ht := tabN_lt 256 (Nat.le_refl _)
    exact st_inj hs hs' (hb c (by simp)) (ih (fun x hx => hb x (by simp [hx])) (stN_lt ht hs c) (stN_lt ht hs' c) h)

theorem of_eq (b : List Nat) : ofN (tabN 256) b = 4294967295 ^^^ upN (tabN 256) 4294967295 b := by
  unfold ofN
  rw [tabN_length, if_neg (by omega)]

theorem xor_left_cancel {a b c : Nat} (h : a ^^^ b = a ^^^ c) : b = c := by
  have := congrArg (a ^^^ ·) h
  simpa only [← Nat.xor_assoc, Nat.xor_self, Nat.zero_xor] using this

theorem of_iff (p q : List Nat) : ofN (tabN 256) p = ofN (tabN 256) q ↔ upN (tabN 256) 4294967295 p = upN (tabN 256) 4294967295 q := by
  rw [of_eq, of_eq]
  exact ⟨xor_left_cancel, fun h => by rw [h]⟩

theorem swap_high : ∀ d < 256, d ≠ 0 → (itN 8 d / 256) ^^^ itN 8 ((itN 8 d % 256) ^^^ d) ≠ 0 := by decide +kernel

/-- Two bytes changed for each other. -/
theorem of_swap (pre post : List Nat) (x y : Nat) (hx : x < 256) (hy : y < 256) (hpost : ∀ z ∈ post, z < 256) :
    ofN (tabN 256) (pre ++ y :: x :: post) = ofN (tabN 256) (pre ++ x :: y :: post) ↔ x = y := by
  rw [of_iff, upN_append, upN_append, up_cons, up_cons, up_cons, up_cons]
  have ht := tabN_lt 256 (Nat.le_refl _)
  have hs : upN (tabN 256) 4294967295 pre < 4294967296 := upN_lt ht pre (by omega)
  generalize upN (tabN 256) 4294967295 pre = s at *
  constructor
  · intro h
    have h1 := up_inj post hpost (stN_lt ht (stN_lt ht hs y) x) (stN_lt ht (stN_lt ht hs x) y) h
    have h2 := st_xor (stN (tabN 256) s y) (stN (tabN 256) s x) hx hy
    rw [h1, Nat.xor_self, ← st_xor s s hy hx, Nat.xor_self, Nat.xor_comm y x] at h2
    have hd : x ^^^ y < 256 := Nat.xor_lt_two_pow (n := 8) hx hy
    by_cases h0 : x ^^^ y = 0
    · exact xor_eq_zero h0
    · exfalso
      refine swap_high _ hd h0 ?_
      rw [st_eq 0 hd, st_eq _ hd, Nat.zero_mod, Nat.zero_div, Nat.zero_xor, Nat.zero_xor, entN_eq, entN_eq] at h2
      exact h2
  · rintro rfl
    rfl

/-- One byte turned. -/
theorem of_turn (pre post : List Nat) (x m : Nat) (hx : x < 256) (hm : m < 256) (h0 : m ≠ 0) (hpost : ∀ z ∈ post, z < 256) :
    ofN (tabN 256) (pre ++ (x ^^^ m) :: post) ≠ ofN (tabN 256) (pre ++ x :: post) := by
  rw [Ne, of_iff, upN_append, upN_append, up_cons, up_cons]
  have ht := tabN_lt 256 (Nat.le_refl _)
  have hs : upN (tabN 256) 4294967295 pre < 4294967296 := upN_lt ht pre (by omega)
  generalize upN (tabN 256) 4294967295 pre = s at *
  intro h
  have h1 := up_inj post hpost (stN_lt ht hs _) (stN_lt ht hs _) h
  have h2 := st_xor s 0 hx hm
  rw [Nat.xor_zero, h1] at h2
  have h3 : stN (tabN 256) 0 m = 0 := by
    have := congrArg (stN (tabN 256) s x ^^^ ·) h2
    simp only [← Nat.xor_assoc, Nat.xor_self, Nat.zero_xor] at this
    exact this.symm
  rw [st_eq 0 hm, Nat.zero_mod, Nat.zero_div, Nat.zero_xor, Nat.zero_xor] at h3
  have := ent_high m hm h0
  omega

end Go.Proofs.Ytgcolhcajmbehaa
