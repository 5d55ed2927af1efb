/- The contracts of Copy, Same and wakes. -/
import Derived.Test.YtnpapjocobgpnaaRf
namespace Go.Proofs.Ytnpapjocobgpnaa
open Go.RowKit

theorem copy_any (w : World) (v : Value) (n : Nat) (xs : List Value) (h : Sl w 1 v n xs) (hn : n ≤ 1000000) :
    Calls Try.prog 11 #[v] w fun e w' => ∃ v', e = .returned v' ∧ w'.ownsRow w.heap.size 3 1 v' n xs ∧ Below w.heap.size w w' := by
  have H := Lib.hid h
  have HI := Lib.hid Try.info3
  clear h
  go_enter Try.func11, Try.ntmps11
  go_wp2_with (at_builtin; refine wp_app w.heap.size rfl _ _ 22 3 (.int .i64 0) 1 8 rfl Try.underlying22 HI.out rfl (by omega) (by omega) rfl rfl (World.ownsRow_nil _ _ _ _) H.out (by omega) (Nat.le_refl _) ?_; intro v1 w1 hown hfr hat)
  simp only [Nat.zero_add, List.nil_append] at hown
  have HO := Lib.hid hown
  have HB : Hid (Below w.heap.size w w1) := Frm.below (Below.refl _ _) hfr (Nat.le_refl _) (fun g hg => by cases hg)
  clear hown hfr hat
  go_wp2_with fail
  go_ret
  exact ⟨_, rfl, HO.out, HB.out⟩

theorem same_any (w : World) (v u : Value) (n : Nat) (l : List Int) (h : Sl w 1 v n (i64s l)) (k : Sl w 1 u n (i64s l)) :
    Calls Try.prog 12 #[v, u] w fun e w' => e = .returned (.bool true) ∧ ∃ m, w' = w.drewN m := by
  obtain ⟨A, c, rfl, h1, h2⟩ := h.len
  obtain ⟨B, d, rfl, k1, k2⟩ := k.len
  have hm : n ≤ 9223372036854775807 := by unfold maxLen at h2; omega
  have HL := Lib.hid (sl_len h)
  have H := Lib.hid h
  have K := Lib.hid k
  clear h k
  go_enter Try.func12, Try.ntmps12
  go_wp2_with fail
  go_loopw [5] (fun i wr => ∃ j m : Nat, j ≤ n ∧ i = .int .i64 j ∧ wr = w.drewN m) (fun i _ => n - (intOf i).toNat)
  case atStart => exact ⟨0, 0, by omega, rfl, rfl⟩
  case round =>
    obtain ⟨j, m, hj, rfl, rfl⟩ := hrel
    by_cases hlt : j < n
    · obtain ⟨x, rfl, cx⟩ := H.out.at_ hlt
      obtain ⟨y, rfl, cy⟩ := K.out.at_ hlt
      rw [i64s_getD _ _ (by rw [HL.out]; exact hlt)] at cx cy
      generalize l.getD j 0 = z at cx cy
      have j1 : (j : Int) < (n : Int) := by omega
      have j0 : (0 : Int) ≤ (j : Int) := by omega
      go_wp2_with fail
      go_quiet (fail)
      go_wp2_with fail
      go_roundw
      case rel => exact ⟨j + 1, _, by omega, by go_num, rfl⟩
      case measure => simp [intOf]; omega
    · go_wp2_with fail
      go_ret
      exact ⟨rfl, _, rfl⟩

theorem pick_ex (nx : Int) : pkN 1 nx [5, -1, 3] = [2] := by
  unfold pkN
  rw [if_neg (by decide), if_neg (by decide)]
  decide
theorem pick_nil (kd nx : Int) : pkN kd nx [] = [] := by
  unfold pkN
  rw [if_pos (.inl rfl)]
  rfl
theorem nx_none (kd nx : Int) (ms : List Int) (h : ¬ kd = 2) : nxN kd nx ms = nx := by
  unfold nxN
  simp only
  split <;> rfl

theorem Below.drewN' {B : Nat} {a w : World} (h : Below B a w) (n : Nat) : Below B a (w.drewN n) := ⟨h.os, h.tape, h.output, h.size, h.block⟩

theorem wakes_any (w : World) : Calls Try.prog 9 #[] w fun e w' => e = .returned (.bool true) ∧ Below w.heap.size w w' := by
  go_enter Try.func9, Try.ntmps9
  go_wp2_with fail
  refine (new_any 1 _).mono ?_
  rintro e w1 ⟨g, rfl, hg, h, hb⟩
  have H := Lib.hid h
  have HB := Lib.hid hb
  have sz := hb.size
  have lg := h.lt
  clear h hb
  go_wp2_with fail
  refine (pick_any _ 3 [5, -1, 3] g 1 0 _ (Sl.box w1 3 #[.int .i64 5, .int .i64 (-1), .int .i64 3] 3 rfl (by simp [maxLen]) (by simp [Value.oneCell'])) (H.out.alloc _) (by omega) (by intro j hj; injection hj with hj; simp only at hj; omega)).mono ?_
  rintro e w2 ⟨v2, rfl, ho, hs, hf⟩
  rw [pick_ex] at ho
  rw [nx_none _ _ _ (by omega)] at hs
  obtain ⟨A2, c2, rfl⟩ := own_slice' ho
  have HO := Lib.hid ho
  have HS := Lib.hid hs
  have HB2 := Lib.hid (Frm.below (HB.out.alloc sz _) hf (Nat.le_trans sz (by simp)) (by rintro j rfl; exact hg))
  have sz2 : w.heap.size ≤ w2.heap.size := Nat.le_trans (Nat.le_trans sz (by simp)) hf.size
  clear ho hs hf HB H sz
  go_wp2_with fail
  refine (same_any _ _ _ 1 [2] ((Sl.of_own HO.out (i64s_one _)).alloc _) (Sl.box w2 3 #[.int .i64 2] 1 rfl (by simp [maxLen]) (by simp [Value.oneCell']))).mono ?_
  rintro e w3 ⟨rfl, m, rfl⟩
  go_wp2_with fail
  refine (pick_any _ 0 [] g 1 0 _ (Sl.nil _ 1) ((HS.out.alloc _).drewN m) (by omega) (by intro j hj; cases hj)).mono ?_
  rintro e w4 ⟨v4, rfl, ho, hs, hf⟩
  rw [pick_nil] at ho
  obtain ⟨A4, c4, rfl⟩ := own_slice' ho
  have HB4 := Lib.hid (Frm.below (Below.drewN' (HB2.out.alloc sz2 (.cells #[.int .i64 2] 3)) m) hf (Nat.le_trans sz2 (by simp)) (by rintro j rfl; exact hg))
  clear ho hs hf
  go_wp2_with fail
  go_ret
  exact ⟨rfl, HB4.out⟩
end Go.Proofs.Ytnpapjocobgpnaa
