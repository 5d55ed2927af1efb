/- The contracts of the reference's window. -/
import Derived.Test.YtkakldfdejklpaaInv
namespace Go.Proofs.Ytkakldfdejklpaa
open Go.RowKit
attribute [local go_sem] run_max2 run_min2 run_max_ run_min_

/-- The reference's window at block g. -/
def Rwin (w : World) (g : Nat) (m s t c : Int) : Prop := Blk w g #[.int .i64 m, .int .i64 s, .int .i64 t, .int .i64 c] 36

theorem size_q (g : Nat) (m s t c : Int) (w : World) (h : Win w g m s t c) : Calls Try.prog 9 #[.pointer (some ⟨g, 0, none⟩)] w fun e w' => e = .returned (.int .i64 s) ∧ w' = w :=
  (size_any g m s t c w h).mono fun _ _ ⟨a, b⟩ => ⟨a, b.symm⟩
theorem room_q (g : Nat) (m s t c o : Int) (w : World) (h : Win w g m s t c) : Calls Try.prog 12 #[.pointer (some ⟨g, 0, none⟩), .int .i64 o] w fun e w' => e = .returned (.bool (decide (o < s))) ∧ w' = w :=
  (room_any g m s t c o w h).mono fun _ _ ⟨a, b⟩ => ⟨a, b.symm⟩

theorem clamp_any (n l m : Int) (w : World) : Calls Try.prog 19 #[.int .i64 n, .int .i64 l, .int .i64 m] w fun e w' => e = .returned (.int .i64 (mn (mx n l) m)) ∧ w = w' := by
  obtain ⟨a, ha⟩ : ∃ a, a = (if n < l then l else n) := ⟨_, rfl⟩
  obtain ⟨b, hb⟩ : ∃ b, b = (if m < a then m else a) := ⟨_, rfl⟩
  replace ha := ha.symm
  replace hb := hb.symm
  go_enter Try.func19, Try.ntmps19
  go_wp2
  go_ret
  have e1 : mx n l = a := ha
  rw [e1]
  have e2 : mn a m = b := hb
  rw [e2]
  exact ⟨rfl, rfl⟩

theorem refnew_any (m : Int) (w : World) : Calls Try.prog 15 #[.int .i64 m] w fun e w' => ∃ g, e = .returned (.pointer (some ⟨g, 0, none⟩)) ∧ w.heap.size ≤ g ∧ Rwin w' g (mn (mx m 1) 16) (mn 2 (mn (mx m 1) 16)) (mn (mx m 1) 16) 0 ∧ Below w.heap.size w w' := by
  have hu := Try.underlying36
  obtain ⟨b, hb⟩ : ∃ b, b = mn (mx m 1) 16 := ⟨_, rfl⟩
  obtain ⟨c, hc⟩ : ∃ c, c = mn 2 b := ⟨_, rfl⟩
  have B := Lib.hid hb
  have C := Lib.hid hc
  have hc' : (if b < 2 then b else 2) = c := hc.symm
  clear hb hc
  go_enter Try.func15, Try.ntmps15
  go_wp2_with fail
  refine (clamp_any _ _ _ _).mono ?_
  rintro e _ ⟨rfl, rfl⟩
  rw [← B.out]
  go_wp2_with fail
  go_ret
  rw [← B.out, ← C.out]
  exact ⟨_, rfl, Nat.le_refl _, Blk.new _ _ _, (Below.refl _ _).alloc (Nat.le_refl _) _⟩

theorem refloss_any (g : Nat) (m s t c : Int) (w : World) (h : Rwin w g m s t c) (hs : 0 ≤ s) (hs2 : s ≤ 100) : Calls Try.prog 17 #[.pointer (some ⟨g, 0, none⟩)] w fun e w' => e = .returned (.tuple #[]) ∧ Rwin w' g m (mx (s / 2) 1) (mx (s / 2) 1) 0 ∧ Frm (· = g) w w' := by
  have c1 := h.cell 1
  have c2 := h.cell 2
  have c3 := h.cell 3
  have f1 := h.free 1
  have f2 := h.free 2
  have f3 := h.free 3
  have H := Lib.hid h
  clear h
  simp at c1 c2 c3
  obtain ⟨a, ha⟩ : ∃ a, a = (if s / 2 < 1 then 1 else s / 2) := ⟨_, rfl⟩
  replace ha := ha.symm
  go_enter Try.func17, Try.ntmps17
  go_wp2
  go_end0
  have e1 : mx (s / 2) 1 = a := ha
  rw [e1]
  refine ⟨rfl, ?_, (((Frm.refl _ _).setg _).setg _).setg _⟩
  have := ((Blk.set H.out 2 (.int .i64 a)).set 1 (.int .i64 a)).set 3 (.int .i64 0)
  simpa [Rwin] using this

/-- What the reference's count is behind an answer. -/
def rackC (s t c : Int) : Int := if s < t then c else if c + 1 < s then c + 1 else 0
theorem rackC_eq {s t c : Int} (h : s < t → c = 0) : rackC s t c = ackC s t c := by
  unfold rackC ackC
  by_cases a : s < t
  · rw [if_pos a, if_pos a, h a]
  · rw [if_neg a, if_neg a]
theorem Rwin.set3 {w : World} {g : Nat} {m s t c : Int} (h : Rwin w g m s t c) (x : Int) : Rwin (w.setCell ⟨g, 3, none⟩ (.int .i64 x)) g m s t x := by
  have := Blk.set h 3 (.int .i64 x)
  simpa [Rwin] using this
theorem Rwin.set1 {w : World} {g : Nat} {m s t c : Int} (h : Rwin w g m s t c) (x : Int) : Rwin (w.setCell ⟨g, 1, none⟩ (.int .i64 x)) g m x t c := by
  have := Blk.set h 1 (.int .i64 x)
  simpa [Rwin] using this

theorem refack_any (g : Nat) (m s t c : Int) (w : World) (h : Rwin w g m s t c) (hs : 0 ≤ s) (hs2 : s ≤ 100) (hc : 0 ≤ c) (hc2 : c ≤ 100) : Calls Try.prog 16 #[.pointer (some ⟨g, 0, none⟩)] w fun e w' => e = .returned (.tuple #[]) ∧ Rwin w' g m (ackS m s t c) t (rackC s t c) ∧ Frm (· = g) w w' := by
  have c0 := h.cell 0
  have c1 := h.cell 1
  have c2 := h.cell 2
  have c3 := h.cell 3
  have f1 := h.free 1
  have f3 := h.free 3
  have H := Lib.hid h
  clear h
  simp at c0 c1 c2 c3
  unfold ackS rackC
  obtain ⟨a, ha⟩ : ∃ a, a = (if m < s + 1 then m else s + 1) := ⟨_, rfl⟩
  have ea : mn (s + 1) m = a := ha.symm
  rw [ea]
  clear ea
  replace ha := ha.symm
  by_cases hlt : s < t
  · rw [if_pos hlt, if_pos hlt]
    go_enter Try.func16, Try.ntmps16
    go_wp2_with fail
    go_quiet (fail)
    go_wp2_with fail
    go_region
    go_wp2_with fail
    refine bodyPost_ret (results_none rfl _ _ _) rfl ?_
    exact ⟨rfl, ((Rwin.set1 (Blk.drewN H.out _) _).drew), by repeat (first | exact Frm.refl _ _ | apply Frm.setg | apply Frm.drewN | apply Frm.drew)⟩
  · rw [if_neg hlt, if_neg hlt]
    by_cases hl2 : c + 1 < s
    · rw [if_pos hl2, if_pos hl2]
      go_enter Try.func16, Try.ntmps16
      go_wp2_with fail
      go_quiet (fail)
      go_wp2_with fail
      go_quiet (fail)
      go_wp2_with fail
      go_end0
      exact ⟨rfl, (Rwin.set3 (Blk.drewN H.out _) _).drewN _, (((Frm.refl _ _).drewN _).setg _).drewN _⟩
    · rw [if_neg hl2, if_neg hl2]
      go_enter Try.func16, Try.ntmps16
      go_wp2_with fail
      go_quiet (fail)
      go_wp2_with fail
      go_quiet (fail)
      go_wp2_with fail
      go_region
      go_wp2_with fail
      go_end0
      exact ⟨rfl, (((Rwin.set1 ((Rwin.set3 (Blk.drewN H.out _) _).drewN _) _).set3 _)).drew, by repeat (first | exact Frm.refl _ _ | apply Frm.setg | apply Frm.drewN | apply Frm.drew)⟩
theorem Below.drewN' {B : Nat} {a w : World} (h : Below B a w) (n : Nat) : Below B a (w.drewN n) := ⟨h.os, h.tape, h.output, h.size, h.block⟩
theorem zero_ack {m s t c : Int} (h : Good m s t c) (_z : s < t → c = 0) : ackS m s t c < t → ackC s t c = 0 := by
  obtain ⟨h1, h2, h3, h4, h5, h6, h7⟩ := h
  unfold ackS ackC mn
  by_cases a : s < t
  · rw [if_pos a, if_pos a]; intro _; rfl
  · rw [if_neg a, if_neg a]
    (repeat' split) <;> omega
theorem good_any (m : Int) : Good (mn (mx m 1) 16) (mn 2 (mn (mx m 1) 16)) (mn (mx m 1) 16) 0 := by
  have h : 1 ≤ mn (mx m 1) 16 ∧ mn (mx m 1) 16 ≤ 16 := by
    unfold mn mx
    (repeat' split) <;> omega
  generalize mn (mx m 1) 16 = b at *
  unfold mn
  constructor <;> (try split) <;> omega
end Go.Proofs.Ytkakldfdejklpaa
