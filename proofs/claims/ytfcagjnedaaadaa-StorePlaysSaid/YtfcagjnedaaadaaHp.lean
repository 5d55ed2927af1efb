/- The contracts of the statements' helps: Within, Copy, Cut, Same. -/
import Derived.Test.YtfcagjnedaaadaaLb
namespace Go.Proofs.Ytfcagjnedaaadaa
open Go.RowKit
attribute [local go_sem] run_max2 run_min2 run_max_ run_min_
theorem Try.info3 : (Try.prog.info? 3).map (fun i => (i.zero, i.size, i.bytes)) = some (some (.int .i64 0), 1, 8) := by kernel_rfl
theorem ret_int {k : IntKind} {a b : Int} (h : a = b) : Ending.returned (.int k a) = .returned (.int k b) := by rw [h]
def i64s (l : List Int) : List Value := l.map fun n : Int => .int .i64 n
theorem i64s_one (l : List Int) : ∀ u ∈ i64s l, u.oneCell' = true := by simp [i64s, Value.oneCell']
theorem i64s_getD (l : List Int) (i : Nat) (h : i < l.length) : (i64s l).getD i undef = .int .i64 (l.getD i 0) := by
  simp [i64s, List.getD_eq_getElem?_getD, h]
theorem u8s_getD (l : List Int) (i : Nat) (h : i < l.length) : (u8s l).getD i undef = .int .u8 (l.getD i 0) := by
  simp [u8s, List.getD_eq_getElem?_getD, h]
theorem sl_len {w : World} {v : Value} {n : Nat} {l : List Int} (h : Sl w 1 v n (u8s l)) : l.length = n := by
  obtain ⟨_, _, _, _, _, h, _⟩ := h
  simpa [u8s] using h
theorem sl_leni {w : World} {v : Value} {n : Nat} {l : List Int} (h : Sl w 1 v n (i64s l)) : l.length = n := by
  obtain ⟨_, _, _, _, _, h, _⟩ := h
  simpa [i64s] using h

theorem within_any (v n : Int) (w : World) (hn : 0 < n) (hn2 : n ≤ 1000000) : Calls Try.prog 10 #[.int .i64 v, .int .i64 n] w fun e w' => e = .returned (.int .i64 (v % n)) ∧ w = w' := by
  have h1 : ¬ n < 1 := by omega
  have h2 : ¬ n = 0 := by omega
  have hz : (n == 0) = false := by simpa using h2
  by_cases h : v.tmod n < 0
  · have e : v.tmod n + n = v % n := by
      rw [Int.tmod_eq_emod]
      have := Int.emod_nonneg v h2
      rw [Int.tmod_eq_emod] at h
      split at h <;> split <;> omega
    have l : -n < v.tmod n := by
      have := Int.emod_nonneg v h2
      have := Int.emod_lt_of_pos v hn
      rw [Int.tmod_eq_emod]
      split <;> omega
    have E := Lib.hid e
    clear e
    go_enter Try.func10, Try.ntmps10
    go_wp2
    go_ret
    exact ⟨ret_int E.out, rfl⟩
  · have e : v.tmod n = v % n := by
      have := Int.emod_nonneg v h2
      have := Int.emod_lt_of_pos v hn
      rw [Int.tmod_eq_emod] at h ⊢
      split at h <;> split <;> omega
    have E := Lib.hid e
    clear e
    go_enter Try.func10, Try.ntmps10
    go_wp2
    go_ret
    exact ⟨ret_int E.out, rfl⟩


theorem copy_any (w : World) (v : Value) (n : Nat) (xs : List Value) (h : Sl w 1 v n xs) (hn : n ≤ 1000000) :
    Calls Try.prog 11 #[v] w fun e w' => ∃ v', e = .returned v' ∧ w'.ownsRow w.heap.size 5 1 v' n xs ∧ Below w.heap.size w w' := by
  have H := Lib.hid h
  have HI := Lib.hid Try.info5
  clear h
  go_enter Try.func11, Try.ntmps11
  go_wp2_with (at_builtin; refine wp_app w.heap.size rfl _ _ 23 5 (.int .u8 0) 1 1 rfl Try.underlying23 HI.out rfl (by omega) (by omega) rfl rfl (World.ownsRow_nil _ _ _ _) H.out (by omega) (Nat.le_refl _) ?_; intro v1 w1 hown hfr hat)
  simp only [Nat.zero_add, List.nil_append] at hown
  have HO := Lib.hid hown
  have HB : Hid (Below w.heap.size w w1) := Frm.below (Below.refl _ _) hfr (Nat.le_refl _) (fun g hg => by cases hg)
  clear hown hfr hat
  go_wp2_with fail
  go_ret
  exact ⟨_, rfl, HO.out, HB.out⟩

theorem sameb_any (w : World) (v u : Value) (n : Nat) (l : List Int) (h : Sl w 1 v n (u8s l)) (k : Sl w 1 u n (u8s l)) :
    Calls Try.prog 15 #[v, u] w fun e w' => e = .returned (.bool true) ∧ ∃ m, w' = w.drewN m := by
  obtain ⟨A, c, rfl, h1, h2⟩ := h.len
  obtain ⟨B, d, rfl, k1, k2⟩ := k.len
  have hm : n ≤ 9223372036854775807 := by unfold maxLen at h2; omega
  have HL := Lib.hid (sl_len h)
  have H := Lib.hid h
  have K := Lib.hid k
  clear h k
  go_enter Try.func15, Try.ntmps15
  go_wp2_with fail
  go_loopw [5] (fun i wr => ∃ j m : Nat, j ≤ n ∧ i = .int .i64 j ∧ wr = w.drewN m) (fun i _ => n - (intOf i).toNat)
  case atStart => exact ⟨0, 0, by omega, rfl, rfl⟩
  case round =>
    obtain ⟨j, m, hj, rfl, rfl⟩ := hrel
    by_cases hlt : j < n
    · obtain ⟨x, rfl, cx⟩ := H.out.at_ hlt
      obtain ⟨y, rfl, cy⟩ := K.out.at_ hlt
      rw [u8s_getD _ _ (by rw [HL.out]; exact hlt)] at cx cy
      generalize l.getD j 0 = z at cx cy
      have j1 : (j : Int) < (n : Int) := by omega
      have j0 : (0 : Int) ≤ (j : Int) := by omega
      go_wp2_with fail
      go_quiet (fail)
      go_wp2_with fail
      go_roundw
      case rel => exact ⟨j + 1, _, by omega, by go_num, rfl⟩
      case measure => simp [intOf]; omega
    · go_wp2_with fail
      go_ret
      exact ⟨rfl, _, rfl⟩

theorem samei_any (w : World) (v u : Value) (n : Nat) (l : List Int) (h : Sl w 1 v n (i64s l)) (k : Sl w 1 u n (i64s l)) :
    Calls Try.prog 33 #[v, u] w fun e w' => e = .returned (.bool true) ∧ ∃ m, w' = w.drewN m := by
  obtain ⟨A, c, rfl, h1, h2⟩ := h.len
  obtain ⟨B, d, rfl, k1, k2⟩ := k.len
  have hm : n ≤ 9223372036854775807 := by unfold maxLen at h2; omega
  have HL := Lib.hid (sl_leni h)
  have H := Lib.hid h
  have K := Lib.hid k
  clear h k
  go_enter Try.func33, Try.ntmps33
  go_wp2_with fail
  go_loopw [5] (fun i wr => ∃ j m : Nat, j ≤ n ∧ i = .int .i64 j ∧ wr = w.drewN m) (fun i _ => n - (intOf i).toNat)
  case atStart => exact ⟨0, 0, by omega, rfl, rfl⟩
  case round =>
    obtain ⟨j, m, hj, rfl, rfl⟩ := hrel
    by_cases hlt : j < n
    · obtain ⟨x, rfl, cx⟩ := H.out.at_ hlt
      obtain ⟨y, rfl, cy⟩ := K.out.at_ hlt
      rw [i64s_getD _ _ (by rw [HL.out]; exact hlt)] at cx cy
      generalize l.getD j 0 = z at cx cy
      have j1 : (j : Int) < (n : Int) := by omega
      have j0 : (0 : Int) ≤ (j : Int) := by omega
      go_wp2_with fail
      go_quiet (fail)
      go_wp2_with fail
      go_roundw
      case rel => exact ⟨j + 1, _, by omega, by go_num, rfl⟩
      case measure => simp [intOf]; omega
    · go_wp2_with fail
      go_ret
      exact ⟨rfl, _, rfl⟩

theorem cutb_any (w : World) (v : Value) (n : Nat) (xs : List Value) (m : Nat) (h : Sl w 1 v n xs) (hm : m ≤ 1000000) :
    Calls Try.prog 9 #[v, .int .i64 m] w fun e w' => ∃ v', e = .returned v' ∧ w'.ownsRow w.heap.size 5 1 v' (min n m) (xs.take m) ∧ Below w.heap.size w w' := by
  obtain ⟨A, c, rfl, h1, h2⟩ := h.len
  have H := Lib.hid h
  unfold maxLen at h2
  have hl : xs.length = n := by
    obtain ⟨_, _, _, _, _, h, _⟩ := h
    simpa using h
  by_cases hmn : m < n
  · rw [show min n m = m from by omega]
    have HS := Lib.hid (H.out.take (Nat.le_of_lt hmn))
    clear h hl
    go_enter Try.func9, Try.ntmps9
    go_wp2_with fail
    refine (copy_any _ _ _ _ HS.out (by omega)).mono ?_
    rintro e w1 ⟨v', rfl, ho, hb⟩
    have HO := Lib.hid ho
    have HB := Lib.hid hb
    clear ho hb
    go_wp2_with fail
    go_ret
    exact ⟨_, rfl, HO.out, HB.out⟩
  · rw [show min n m = n from by omega, List.take_of_length_le (by omega)]
    clear h hl
    have hn : n ≤ 1000000 := by omega
    go_enter Try.func9, Try.ntmps9
    go_wp2_with fail
    refine (copy_any _ _ _ _ H.out (by omega)).mono ?_
    rintro e w1 ⟨v', rfl, ho, hb⟩
    have HO := Lib.hid ho
    have HB := Lib.hid hb
    clear ho hb
    go_wp2_with fail
    go_ret
    exact ⟨_, rfl, HO.out, HB.out⟩

end Go.Proofs.Ytfcagjnedaaadaa
