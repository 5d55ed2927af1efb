/- Lend: bytes with room behind them; Intact: they are as they were. -/
import Derived.Test.YtfcagjnedaaadaaP3
import Derived.Laws.CopyOwn
namespace Go.Proofs.Ytfcagjnedaaadaa
open Go.RowKit
attribute [local go_sem] run_max2 run_min2 run_max_ run_min_

theorem make_cap (t e : TypeId) (z : Value) (bytes : Nat) (ht : Try.prog.underlying t = some (.slice e)) (hinfo : (Try.prog.info? e).map (fun i => (i.zero, i.size, i.bytes)) = some (some z, 1, bytes)) (hz : z.cells = #[z])
    (m c : Nat) (hmc : m ≤ c) (hm : bytes * c ≤ 281474976710656) (hm2 : c ≤ 281474976710656) (W : World) :
    (Instr.makeSlice t (.int .i64 (m : Int)) (.int .i64 (c : Int))).run Try.prog W = .ok (.slice (some ⟨W.heap.size, 0, none⟩) m c) (W.alloc (.cells (madeCells #[z] c) e)) := by
  obtain ⟨i0, hi, hzz⟩ := Option.map_eq_some_iff.1 hinfo
  simp only [Prod.mk.injEq] at hzz
  obtain ⟨hz0, hz1, hz2⟩ := hzz
  have hb' : (i0.bytes : Int) * (c : Int) ≤ 281474976710656 := by
    rw [hz2]
    have h : ((bytes * c : Nat) : Int) ≤ 281474976710656 := by omega
    rwa [Int.natCast_mul] at h
  have hr := run_make (P := Try.prog) W t e i0 z ht hi hz0 .i64 .i64 m c (by omega) (by omega) hb' (by omega)
  simp only [Int.toNat_natCast, hz1, Nat.mul_one, hz] at hr
  exact hr

/-- The lent bytes when k of the room's bytes are written. -/
def lentC (l : List Int) (k : Nat) : List Value := u8s l ++ (u8s (List.replicate k 85) ++ u8s (List.replicate (3 - k) 0))
theorem lentC_length (l : List Int) (k : Nat) (hk : k ≤ 3) : (lentC l k).length = l.length + 3 := by
  simp [lentC, u8s]; omega
theorem lentC_set (l : List Int) (n k : Nat) (hn : l.length = n) (hk : k < 3) : (lentC l k).toArray.setIfInBounds (n + k) (.int .u8 85) = (lentC l (k + 1)).toArray := by
  have h1 : (lentC l k) = (u8s l ++ u8s (List.replicate k 85)) ++ (.int .u8 0 :: u8s (List.replicate (3 - (k + 1)) 0)) := by
    unfold lentC
    rw [show 3 - k = (3 - (k + 1)) + 1 by omega, List.replicate_succ, List.append_assoc]
    simp [u8s]
  have h2 : (lentC l (k + 1)) = (u8s l ++ u8s (List.replicate k 85)) ++ (.int .u8 85 :: u8s (List.replicate (3 - (k + 1)) 0)) := by
    unfold lentC
    rw [List.replicate_succ', u8s_append]
    simp [u8s]
  rw [h1, h2]
  rw [List.setIfInBounds_toArray]
  congr 1
  rw [List.set_append_right _ _ (by simp [u8s]; omega)]
  congr 1
  rw [show n + k - (u8s l ++ u8s (List.replicate k 85)).length = 0 by simp [u8s]; omega]
  rfl

set_option maxHeartbeats 1000000 in
set_option maxRecDepth 100000 in
theorem lend_any (w : World) (A : Option Addr) (n c : Nat) (l : List Int) (h : Sl w 1 (.slice A n c) n (u8s l)) (hn : n ≤ 1000) :
    Calls Try.prog 21 #[.slice A n c] w fun e w' => ∃ g, e = .returned (.slice (some ⟨g, 0, none⟩) n (n + 3)) ∧ w.heap.size ≤ g ∧ Blk w' g (lentC l 3).toArray 5 ∧ Below w.heap.size w w' := by
  have hl := sl_len h
  obtain ⟨n3, hn3⟩ : ∃ m, m = n + 3 := ⟨_, rfl⟩
  have HN3 := Lib.hid hn3
  have i3 : IntKind.i64.wrap ((n : Int) + 3) = (n3 : Int) := by rw [hn3, Int.natCast_add]; exact IntWalk.i64_in _ ⟨by omega, by omega⟩
  have hmk := make_cap 23 5 (.int .u8 0) 1 Try.underlying23 Try.info5 rfl n n3 (by omega) (by omega) (by omega) w
  have b0 : (0 : Int) ≤ (n : Int) := by omega
  have b1 : (n : Int) ≤ (n3 : Int) := by omega
  have b2 : (0 : Int) ≤ (n3 : Int) := by omega
  have b3 : n ≤ n3 := by omega
  have HL := Lib.hid hl
  have H := Lib.hid h
  have hbk : Blk (w.alloc (.cells (madeCells #[Value.int .u8 0] n3) 5)) w.heap.size (List.replicate n3 (.int .u8 0)).toArray 5 := by
    have := Blk.new w (madeCells #[Value.int .u8 0] n3) 5
    have e : (madeCells #[Value.int .u8 0] n3) = (List.replicate n3 (.int .u8 0)).toArray := by rw [← toList_madeCells_one]
    rw [e] at this ⊢
    exact this
  have HBK := Lib.hid hbk
  obtain ⟨g, hg⟩ : ∃ g, g = w.heap.size := ⟨_, rfl⟩
  have HG := Lib.hid hg
  have hb := ((Below.refl w.heap.size w).alloc (Nat.le_refl _) (.cells (madeCells #[Value.int .u8 0] n3) 5))
  have hsl := h.alloc (.cells (madeCells #[Value.int .u8 0] n3) 5)
  obtain ⟨w1, hw1⟩ : ∃ W, W = w.alloc (.cells (madeCells #[Value.int .u8 0] n3) 5) := ⟨_, rfl⟩
  rw [← hw1] at hmk HBK hb hsl
  rw [← hg] at hmk HBK
  have HB := Lib.hid hb
  have HS := Lib.hid hsl
  have hgl : w.heap.size ≤ g := by omega
  have hng : ¬ n3 < n := by omega
  clear h hl hn3 hg hbk hb hsl hw1
  go_enter Try.func21, Try.ntmps21
  go_wp2_with (refine wpList_copy_splice (o := ⟨some 14, _, _, _, _, _⟩) rfl _ _ 23 23 rfl 5 Try.underlying23 (by kernel_rfl) (some ⟨g, 0, none⟩) A n n3 n c rfl rfl g 0 (List.replicate n3 (.int .u8 0)) 5 HBK.out (u8s l) (by rw [u8s_length, HL.out]; simp) (fun h0 => ⟨rfl, by obtain ⟨_, _, e, _, _, _, _, hr⟩ := HS.out; injection e with e1; subst e1; exact hr h0⟩) (by rw [u8s_length, HL.out]; simp; omega) (u8s_one _) w.heap.size w HB.out hgl ?_; intro w2 hg2 hb2)
  have HB2 : Hid (Blk w2 g (lentC l 0).toArray 5) := by
    have h := hg2.out
    have e : splice (List.replicate n3 (Value.int .u8 0)) 0 (u8s l) = lentC l 0 := by
      unfold splice lentC
      rw [u8s_length, HL.out]
      simp only [List.take_zero, List.nil_append, Nat.zero_add, List.drop_replicate, List.replicate_zero, Nat.sub_zero]
      rw [show n3 - n = 3 by have := HN3.out; omega]
      simp [u8s]
    rw [e] at h
    exact Lib.hid h
  have HBB := Lib.hid hb2
  clear hg2 hb2 HBK HB HS hmk
  go_wp2_with fail
  go_loopw [5] (fun i wr => ∃ k : Nat, k ≤ 3 ∧ i = .int .i64 ((n + k : Nat) : Int) ∧ Blk wr g (lentC l k).toArray 5 ∧ Below w.heap.size w wr) (fun i _ => n3 - (intOf i).toNat)
  case atStart => exact ⟨0, Nat.zero_le _, rfl, HB2.out, HBB.out⟩
  case round =>
    obtain ⟨k, hk, rfl, hbk, hbl⟩ := hrel
    have HK := Lib.hid hbk
    have HL2 := Lib.hid hbl
    clear hbk hbl
    have hn3 := HN3.out
    obtain ⟨j, hj⟩ : ∃ j, j = n + k := ⟨_, rfl⟩
    have HJ := Lib.hid hj
    rw [← hj]
    have iw : IntKind.i64.wrap ((j : Int) + 1) = (j : Int) + 1 := IntWalk.i64_in _ ⟨by omega, by omega⟩
    by_cases hlt : j < n3
    · have j0 : (0 : Int) ≤ (j : Int) := by omega
      have j1 : (j : Int) < (n3 : Int) := by omega
      have cj : wr.cell? ⟨g, j, none⟩ = some (.int .u8 0) := by
        rw [HK.out.cell j, hj]
        simp only [lentC]
        have : k < 3 := by omega
        rw [List.getElem?_toArray, List.getElem?_append_right (by rw [u8s_length, HL.out]; omega), List.getElem?_append_right (by rw [u8s_length, u8s_length, HL.out, List.length_replicate]; omega)]
        rw [u8s_length, HL.out, u8s_length, List.length_replicate, show n + k - n - k = 0 by omega]
        rw [show 3 - k = (3 - (k + 1)) + 1 by omega, List.replicate_succ]
        rfl
      have fj := HK.out.free j
      have hset := HK.out.set j (.int .u8 85)
      rw [hj, lentC_set l n k HL.out (by omega)] at hset
      have HSET := Lib.hid hset
      have HBL := Lib.hid (HL2.out.setCell (p := ⟨g, j, none⟩) hgl (.int .u8 85))
      have hk3 : k + 1 ≤ 3 := by omega
      clear hset hn3 hj
      go_wp2_with fail
      go_roundw
      case rel => exact ⟨k + 1, hk3, by have := HJ.out; subst this; go_num, by have := HJ.out; subst this; exact HSET.out, HBL.out⟩
      case measure => simp [intOf]; omega
    · have j1 : ¬ (j : Int) < (n3 : Int) := by omega
      obtain rfl : k = 3 := by omega
      clear hn3 hj
      go_wp2_with fail
      go_ret
      refine ⟨g, ?_, hgl, HK.out, HL2.out⟩
      have h3 := HN3.out
      subst h3
      rfl

set_option maxHeartbeats 1000000 in
set_option maxRecDepth 100000 in
theorem intact_any (w : World) (g : Nat) (u : Value) (n : Nat) (l : List Int) (hb : Blk w g (lentC l 3).toArray 5) (k : Sl w 1 u n (u8s l)) (hn : n ≤ 1000) :
    Calls Try.prog 31 #[.slice (some ⟨g, 0, none⟩) n (n + 3), u] w fun e w' => e = .returned (.bool true) ∧ ∃ m, w' = w.drewN m := by
  obtain ⟨B, d, rfl, k1, k2⟩ := k.len
  have hl := sl_len k
  obtain ⟨n3, hn3⟩ : ∃ m, m = n + 3 := ⟨_, rfl⟩
  have i3 : IntKind.i64.wrap ((n : Int) + 3) = (n3 : Int) := by rw [hn3, Int.natCast_add]; exact IntWalk.i64_in _ ⟨by omega, by omega⟩
  rw [← hn3]
  have e3 : ((n3 : Int) != (n3 : Int)) = false := by simp
  have b0 : (0 : Int) ≤ (n : Int) := by omega
  have b1 : (n : Int) ≤ (n3 : Int) := by omega
  have b2 : (0 : Int) ≤ (n3 : Int) := by omega
  have b3 : n ≤ n3 := by omega
  have HL := Lib.hid hl
  have K := Lib.hid k
  have HB := Lib.hid hb
  have HN3 := Lib.hid hn3
  have hn4 : n3 ≤ n + 3 := by omega
  clear hb k hl hn3
  go_enter Try.func31, Try.ntmps31
  go_wp2_with fail
  go_loopw [27, 6] (fun i _ wr => ∃ j m : Nat, j ≤ n3 ∧ i = .int .i64 j ∧ wr = w.drewN m) (fun i _ _ => n3 - (intOf i).toNat)
  case atStart => exact ⟨0, 0, by omega, rfl, rfl⟩
  case round =>
    obtain ⟨j, m, hj, rfl, rfl⟩ := hrel
    have iw : IntKind.i64.wrap ((j : Int) + 1) = (j : Int) + 1 := IntWalk.i64_in _ ⟨by omega, by omega⟩
    by_cases hlt : j < n3
    · have j1 : (j : Int) < (n3 : Int) := by omega
      have j0 : (0 : Int) ≤ (j : Int) := by omega
      by_cases hln : j < n
      · have j2 : (j : Int) < (n : Int) := by omega
        have d2 : decide (j < n) = true := by simpa using hln
        have d3 : decide (n ≤ j) = false := by simp; omega
        obtain ⟨y, rfl, cy⟩ := K.out.at_ hln
        rw [u8s_getD _ _ (by rw [HL.out]; exact hln)] at cy
        have cx : w.cell? ⟨g, j, none⟩ = some (.int .u8 (l.getD j 0)) := by
          rw [HB.out.cell j]
          simp only [lentC]
          rw [List.getElem?_toArray, List.getElem?_append_left (by rw [u8s_length, HL.out]; exact hln)]
          simp [u8s, List.getD_eq_getElem?_getD, List.getElem?_eq_getElem (show j < l.length by rw [HL.out]; exact hln)]
        generalize l.getD j 0 = z at cx cy
        go_wp2_with fail
        go_quiet (fail)
        go_wp2_with fail
        go_roundw
        case rel => exact ⟨j + 1, _, by omega, by go_num, rfl⟩
        case measure => simp [intOf]; omega
      · have j2 : ¬ (j : Int) < (n : Int) := by omega
        have d2 : decide (j < n) = false := by simpa using hln
        have d3 : decide (n ≤ j) = true := by simp; omega
        have cx : w.cell? ⟨g, j, none⟩ = some (.int .u8 85) := by
          rw [HB.out.cell j]
          simp only [lentC]
          rw [List.getElem?_toArray, List.getElem?_append_right (by rw [u8s_length, HL.out]; omega), List.getElem?_append_left (by rw [u8s_length, u8s_length, HL.out, List.length_replicate]; have := HN3.out; omega)]
          rw [u8s_length, HL.out]
          have h3 : j - n < 3 := by have := HN3.out; omega
          obtain h | h | h : j - n = 0 ∨ j - n = 1 ∨ j - n = 2 := by omega
          all_goals rw [h]; rfl
        go_wp2_with fail
        go_quiet (fail)
        go_wp2_with fail
        go_roundw
        case rel => exact ⟨j + 1, _, by omega, by go_num, rfl⟩
        case measure => simp [intOf]; omega
    · go_wp2_with fail
      go_ret
      exact ⟨rfl, _, rfl⟩
end Go.Proofs.Ytfcagjnedaaadaa
