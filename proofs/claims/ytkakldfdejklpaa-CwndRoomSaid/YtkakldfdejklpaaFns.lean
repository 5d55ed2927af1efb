/- The contracts of cwnd's functions. -/
import Derived.Test.YtkakldfdejklpaaProg
import Derived.Test.YtkakldfdejklpaaHK
namespace Go.Proofs.Ytkakldfdejklpaa
open Go.RowKit
attribute [local go_sem] run_max2 run_min2 run_max_ run_min_

/-- The window at block g. -/
def Win (w : World) (g : Nat) (m s t c : Int) : Prop := Blk w g #[.int .i64 m, .int .i64 s, .int .i64 t, .int .i64 c] 38

theorem Win.set3 {w : World} {g : Nat} {m s t c : Int} (h : Win w g m s t c) (x : Int) : Win (w.setCell ⟨g, 3, none⟩ (.int .i64 x)) g m s t x := by
  have := Blk.set h 3 (.int .i64 x)
  simpa [Win] using this

theorem ret_i64 {a b : Int} (h : a = b) : Ending.returned (.int .i64 a) = .returned (.int .i64 b) := by rw [h]

theorem within_any (v n : Int) (w : World) (hn : 0 < n) (hn2 : n ≤ 1000000) : Calls Try.prog 7 #[.int .i64 v, .int .i64 n] w fun e w' => e = .returned (.int .i64 (v % n)) ∧ w = w' := by
  have h1 : ¬ n < 1 := by omega
  have h2 : ¬ n = 0 := by omega
  have hz : (n == 0) = false := by simpa using h2
  by_cases h : v.tmod n < 0
  · have e : v.tmod n + n = v % n := by
      rw [Int.tmod_eq_emod]
      have := Int.emod_nonneg v h2
      rw [Int.tmod_eq_emod] at h
      split at h <;> split <;> omega
    have l : -n < v.tmod n := by
      have := Int.emod_nonneg v h2
      have := Int.emod_lt_of_pos v hn
      rw [Int.tmod_eq_emod]
      split <;> omega
    have E := Lib.hid e
    clear e
    go_enter Try.func7, Try.ntmps7
    go_wp2
    go_ret
    exact ⟨ret_i64 E.out, rfl⟩
  · have e : v.tmod n = v % n := by
      have := Int.emod_nonneg v h2
      have := Int.emod_lt_of_pos v hn
      rw [Int.tmod_eq_emod] at h ⊢
      split at h <;> split <;> omega
    have E := Lib.hid e
    clear e
    go_enter Try.func7, Try.ntmps7
    go_wp2
    go_ret
    exact ⟨ret_i64 E.out, rfl⟩

theorem new_any (m : Int) (w : World) : Calls Try.prog 8 #[.int .i64 m] w fun e w' => ∃ g, e = .returned (.pointer (some ⟨g, 0, none⟩)) ∧ w.heap.size ≤ g ∧ Win w' g (mn (mx m 1) 16) (mn 2 (mn (mx m 1) 16)) (mn (mx m 1) 16) 0 ∧ Below w.heap.size w w' := by
  have hu := Try.underlying38
  obtain ⟨a, ha⟩ : ∃ a, a = (if m < 1 then 1 else m) := ⟨_, rfl⟩
  obtain ⟨b, hb⟩ : ∃ b, b = (if 16 < a then 16 else a) := ⟨_, rfl⟩
  obtain ⟨c, hc⟩ : ∃ c, c = (if b < 2 then b else 2) := ⟨_, rfl⟩
  have A := Lib.hid ha
  have B := Lib.hid hb
  have C := Lib.hid hc
  replace ha := ha.symm
  replace hb := hb.symm
  replace hc := hc.symm
  go_enter Try.func8, Try.ntmps8
  go_wp2
  go_ret
  refine ⟨_, rfl, Nat.le_refl _, ?_, (Below.refl _ _).alloc (Nat.le_refl _) _⟩
  have e1 : mx m 1 = a := ha
  rw [e1]
  have e2 : mn a 16 = b := hb
  rw [e2]
  have e3 : mn 2 b = c := hc
  rw [e3]
  exact Blk.new _ _ _

theorem size_any (g : Nat) (m s t c : Int) (w : World) (h : Win w g m s t c) : Calls Try.prog 9 #[.pointer (some ⟨g, 0, none⟩)] w fun e w' => e = .returned (.int .i64 s) ∧ w = w' := by
  have c1 := h.cell 1
  clear h
  simp at c1
  go_enter Try.func9, Try.ntmps9
  go_wp2
  go_ret
  exact ⟨rfl, rfl⟩

theorem room_any (g : Nat) (m s t c o : Int) (w : World) (h : Win w g m s t c) : Calls Try.prog 12 #[.pointer (some ⟨g, 0, none⟩), .int .i64 o] w fun e w' => e = .returned (.bool (decide (o < s))) ∧ w = w' := by
  have c1 := h.cell 1
  clear h
  simp at c1
  go_enter Try.func12, Try.ntmps12
  go_wp2
  go_ret
  exact ⟨rfl, rfl⟩

theorem room_yes (g : Nat) (m s t c o : Int) (w : World) (h : Win w g m s t c) (ho : o < s) : Calls Try.prog 12 #[.pointer (some ⟨g, 0, none⟩), .int .i64 o] w fun e w' => e = .returned (.bool true) ∧ w = w' :=
  (room_any g m s t c o w h).mono fun _ _ ⟨a, b⟩ => ⟨by rw [a]; simp [ho], b⟩
theorem room_no (g : Nat) (m s t c o : Int) (w : World) (h : Win w g m s t c) (ho : s ≤ o) : Calls Try.prog 12 #[.pointer (some ⟨g, 0, none⟩), .int .i64 o] w fun e w' => e = .returned (.bool false) ∧ w = w' :=
  (room_any g m s t c o w h).mono fun _ _ ⟨a, b⟩ => ⟨by rw [a, decide_eq_false (by omega)], b⟩

theorem loss_any (g : Nat) (m s t c : Int) (w : World) (h : Win w g m s t c) (hs : 0 ≤ s) (hs2 : s ≤ 100) : Calls Try.prog 10 #[.pointer (some ⟨g, 0, none⟩)] w fun e w' => e = .returned (.tuple #[]) ∧ Win w' g m (mx (s / 2) 1) (mx (s / 2) 1) 0 ∧ Frm (· = g) w w' := by
  have c1 := h.cell 1
  have c2 := h.cell 2
  have c3 := h.cell 3
  have f1 := h.free 1
  have f2 := h.free 2
  have f3 := h.free 3
  have H := Lib.hid h
  clear h
  simp at c1 c2 c3
  obtain ⟨a, ha⟩ : ∃ a, a = (if s / 2 < 1 then 1 else s / 2) := ⟨_, rfl⟩
  replace ha := ha.symm
  go_enter Try.func10, Try.ntmps10
  go_wp2
  go_end0
  have e1 : mx (s / 2) 1 = a := ha
  rw [e1]
  refine ⟨rfl, ?_, (((Frm.refl _ _).setg _).setg _).setg _⟩
  have := ((Blk.set H.out 2 (.int .i64 a)).set 1 (.int .i64 a)).set 3 (.int .i64 0)
  simpa [Win] using this

theorem grow_any (g : Nat) (m s t c : Int) (w : World) (h : Win w g m s t c) (hs : 0 ≤ s) (hs2 : s ≤ 100) : Calls Try.prog 18 #[.pointer (some ⟨g, 0, none⟩)] w fun e w' => e = .returned (.tuple #[]) ∧ Win w' g m (mn (s + 1) m) t 0 ∧ Frm (· = g) w w' := by
  have c0 := h.cell 0
  have c1 := h.cell 1
  have c2 := h.cell 2
  have c3 := h.cell 3
  have f1 := h.free 1
  have f2 := h.free 2
  have f3 := h.free 3
  have H := Lib.hid h
  clear h
  simp at c0 c1 c2 c3
  obtain ⟨a, ha⟩ : ∃ a, a = (if m < s + 1 then m else s + 1) := ⟨_, rfl⟩
  replace ha := ha.symm
  go_enter Try.func18, Try.ntmps18
  go_wp2
  go_region
  go_end0
  have e1 : mn (s + 1) m = a := ha
  rw [e1]
  refine ⟨rfl, ?_, (((Frm.refl _ _).setg _).setg _).drew⟩
  have := (((Blk.set H.out 1 (.int .i64 a)).set 3 (.int .i64 0))).drew
  simpa [Win] using this

theorem clone_any (g : Nat) (m s t c : Int) (w : World) (h : Win w g m s t c) : Calls Try.prog 14 #[.pointer (some ⟨g, 0, none⟩)] w fun e w' => ∃ g', e = .returned (.pointer (some ⟨g', 0, none⟩)) ∧ w.heap.size ≤ g' ∧ Win w' g' m s t c ∧ Below w.heap.size w w' := by
  have c0 := h.cell 0
  have c1 := h.cell 1
  have c2 := h.cell 2
  have c3 := h.cell 3
  have hl := h.lt
  clear h
  simp at c0 c1 c2 c3
  go_enter Try.func14, Try.ntmps14
  go_wp2
  go_ret
  exact ⟨_, rfl, Nat.le_refl _, Blk.new _ _ _, (Below.refl _ _).alloc (Nat.le_refl _) _⟩

/-- What an answer makes of a window. -/
def ackS (m s t c : Int) : Int := if s < t then mn (s + 1) m else if c + 1 < s then s else mn (s + 1) m
def ackC (s t c : Int) : Int := if s < t then 0 else if c + 1 < s then c + 1 else 0

theorem ack_any (g : Nat) (m s t c : Int) (w : World) (h : Win w g m s t c) (hs : 0 ≤ s) (hs2 : s ≤ 100) (hc : 0 ≤ c) (hc2 : c ≤ 100) : Calls Try.prog 11 #[.pointer (some ⟨g, 0, none⟩)] w fun e w' => e = .returned (.tuple #[]) ∧ Win w' g m (ackS m s t c) t (ackC s t c) ∧ Frm (· = g) w w' := by
  have c0 := h.cell 0
  have c1 := h.cell 1
  have c2 := h.cell 2
  have c3 := h.cell 3
  have f3 := h.free 3
  have H := Lib.hid h
  clear h
  simp at c0 c1 c2 c3
  unfold ackS ackC
  by_cases hlt : s < t
  · rw [if_pos hlt, if_pos hlt]
    go_enter Try.func11, Try.ntmps11
    go_wp2_with fail
    go_quiet (fail)
    go_wp2_with fail
    refine (grow_any g m s t c _ (Blk.drewN H.out _) hs hs2).mono ?_
    rintro e w1 ⟨rfl, h1, k1⟩
    go_wp2_with fail
    refine bodyPost_ret (results_none rfl _ _ _) rfl ?_
    exact ⟨rfl, h1, ((Frm.refl _ _).drewN _).trans k1⟩
  · rw [if_neg hlt, if_neg hlt]
    by_cases hl2 : c + 1 < s
    · rw [if_pos hl2, if_pos hl2]
      go_enter Try.func11, Try.ntmps11
      go_wp2_with fail
      go_quiet (fail)
      go_wp2_with fail
      go_quiet (fail)
      go_wp2_with fail
      go_end0
      exact ⟨rfl, (Win.set3 (Blk.drewN H.out _) _).drewN _, (((Frm.refl _ _).drewN _).setg _).drewN _⟩
    · rw [if_neg hl2, if_neg hl2]
      go_enter Try.func11, Try.ntmps11
      go_wp2_with fail
      go_quiet (fail)
      go_wp2_with fail
      go_quiet (fail)
      go_wp2_with fail
      refine (grow_any g m s t (c + 1) _ ((Win.set3 (Blk.drewN H.out _) _).drewN _) hs hs2).mono ?_
      rintro e w1 ⟨rfl, h1, k1⟩
      go_wp2_with fail
      go_end0
      exact ⟨rfl, h1, ((((Frm.refl _ _).drewN _).setg _).drewN _).trans k1⟩
end Go.Proofs.Ytkakldfdejklpaa
