/- Parts of the walk: Ug, Uh. -/
import Derived.Test.YtdneakejlbabeaaGreatM00
import Derived.Test.YtdneakejlbabeaaGreatM34
import Derived.Test.YtdneakejlbabeaaGreatM35
namespace Go.Proofs.YtdneakejlbabeaaGreat
open Go.RowKit
set_option linter.unusedVariables false
set_option linter.unusedSimpArgs false
section
attribute [local go_sem] idx80_0 idx80_1
def NN (N j : Nat) : Bool → Nat := fun t => if sN t < j then N + 500000 else N
def TkI (o : Nat → Nat) (B : Nat) (w : World) (gd N : Nat) (ge : Bool → Nat) (gs : Nat) (cs : Array Value) (j : Nat) (wr : World) : Prop :=
 ∃ (o' : Nat → Nat) (d' : DuV) (wl' : List (Int × Ev)), DuS o' B wr gd d' ∧ Stp DC o o' w wr ∧ DInv (NN N j) d' wl' ∧ d'.ge = ge ∧ Blk wr gs cs 61 ∧ o' gs = 0
theorem TkI.next {o o1 : Nat → Nat} {B : Nat} {w wr w' : World} {gd N : Nat} {ge : Bool → Nat} {gs : Nat} {cs : Array Value} {s : Bool} {d1 : DuV} {wl1 : List (Int × Ev)} (hN : N + 500000 ≤ 40000000) (h1 : DuS o1 B wr gd d1) (st1 : Stp DC o o1 w wr) (hi : DInv (NN N (sN s)) d1 wl1) (hge : d1.ge = ge) (hb : Blk wr gs cs 61) (og : o1 gs = 0) (hc : CallR o1 (kk s) B N wr (d1.ge s) (d1.x s) w') : TkI o B w gd N ge gs cs (sN s + 1) w' := by
 obtain ⟨o', x', es, hx, st2, ha, h4⟩ := hc
 have hk := kk_cases s
 have e1 : NN N (sN s) s = N := by simp [NN]
 refine ⟨o', _, _, h1.putE hx st2, st1.trans (st2.mono (EC_DC s)), (hi.act (s := s) (by rw [e1]; exact ha) (fun e he h => absurd h (h4 e he))).upN (fun t => ?_), hge, hb.frm st2.f (fun e => by rw [og] at e; have := e.1; omega), (st2.ag gs hb.lt).trans og⟩
 by_cases ht : t = s
 ·subst ht
  rw [up_same, e1]
  unfold NN
  rw [if_pos (by omega)]
  exact ⟨Nat.le_refl _, hN⟩
 ·rw [up_other _ _ ht]
  unfold NN
  constructor
  ·split <;> split <;> omega
  ·split <;> omega
set_option maxHeartbeats 16000000 in
set_option maxRecDepth 100000 in
theorem do_k4 (o : Nat → Nat) (B : Nat) (w : World) (gd N : Nat) (d : DuV) (wl : List (Int × Ev)) (sd n bit mask : Int) (v : Value) (l : List Int) (h : DuS o B w gd d) (hi : DInv (fun _ => N) d wl) (hN : N + 500000 ≤ 40000000) (hB : B ≤ w.heap.size) (hv : BV w (frozen o) v l) (hl : l.length ≤ 1000000) :
  Calls Tryz.prog 31 #[.pointer (some ⟨gd, 0, none⟩), .agg #[.int .i64 4, .int .i64 sd, .int .i64 n, .int .i64 bit, .int .u32 mask, v]] w fun e w' => DoR o B w gd N d wl e w' := by
 obtain ⟨Av, cv, rfl, _, _⟩ := hv.len
 obtain ⟨w0, hw0⟩ := lx (w.alloc (.cells #[.int .i64 4, .int .i64 sd, .int .i64 n, .int .i64 bit, .int .u32 mask, .slice Av l.length cv] 61))
 obtain ⟨gs, hgs⟩ := lx (w.heap.size)
 have B0 : Hid (Below w.heap.size w w0) := hid (by rw [hw0]; exact ba)
 have BX : Hid (Blk w0 gs #[.int .i64 4, .int .i64 sd, .int .i64 n, .int .i64 bit, .int .u32 mask, .slice Av l.length cv] 61) := hid (by rw [hw0, hgs]; exact Blk.new _ _ _)
 have S0 : Hid (Stp (fun _ => False) o (scr o w.heap.size 0) w w0) := hid ⟨Frm.of_below B0.out, scr_agr _ _ _⟩
 have og : scr o w.heap.size 0 gs = 0 := by rw [hgs]; exact scr_new (Nat.le_refl _)
 obtain ⟨o0, ho0⟩ := lx (scr o w.heap.size 0)
 rw [← ho0] at S0 og
 have H0 := hid (h.frm S0.out (fun h => h) (fun _ h => h.elim))
 have V0 : Hid (BV w0 (frozen o0) (.slice Av l.length cv) l) := hid (BV.stpK hv S0.out (fun h => h))
 have IV := hid hi
 have hw0' := hw0.symm
 have hgs' := hgs.symm
 have sB : B ≤ w0.heap.size := Nat.le_trans hB B0.out.size
 have k0 := BX.out.cell 0
 have k1 := BX.out.cell 1
 have k2 := BX.out.cell 2
 have k3 := BX.out.cell 3
 have k4 := BX.out.cell 4
 have k5 := BX.out.cell 5
 have n0 := H0.out.blk.cell 0
 have n1 := H0.out.blk.cell 1
 simp only [gA, gZ, gC] at k0 k1 k2 k3 k4 k5 n0 n1
 clear h hi hv hw0 hgs ho0
 have NO : Hid (∀ W, Below w0.heap.size w0 W → DuR o B w gd N W) := hid (fun W hW => DuR.rest hN ((S0.out.trans (Stp.below hW)).mono (fun _ h => h.elim)) (H0.out.below hW) IV.out)
 have n8 := (H0.out.e false).blk.cell 8
 simp only [gA, gZ, gC] at n8
 have nw := (IV.out.ok false).now
 have GD0 : Hid (Below w0.heap.size w0 w0.drew) := hid (Below.refl _ _).drew
 by_cases c1 : n < 1
 ·go_enter Tryz.func31, Tryz.ntmps31
  go_wp2_with fail
  clear hw0' hgs'
  refine wp_region_held_drew (S := fun w' => w'.cell? ⟨gs, 2, none⟩ = some (.int .i64 n)) (by kernel_rfl) k2 (fun hHeld => ?_)
  refine tk 0 (oi := ⟨some 18, _, _, _, _, _⟩) rfl ?_
  refine tk 1 (oi := ⟨some 19, _, _, _, _, _⟩) rfl ?_
  refine tk 2 (oi := ⟨some 20, _, _, _, _, _⟩) rfl ?_
  refine tk 3 (oi := ⟨some 21, _, _, _, _, _⟩) rfl ?_
  refine sk 4 (oi := ⟨some 22, _, _, _, _, _⟩) rfl ?_
  refine sk 5 (oi := ⟨some 23, _, _, _, _, _⟩) rfl ?_
  refine sk 6 (oi := ⟨some 24, _, _, _, _, _⟩) rfl ?_
  refine tk 7 (oi := ⟨some 25, _, _, _, _, _⟩) rfl ?_
  refine tk 8 (oi := ⟨some 26, _, _, _, _, _⟩) rfl ?_
  refine sk 9 (oi := ⟨some 27, _, _, _, _, _⟩) rfl ?_
  refine sk 10 (oi := ⟨some 28, _, _, _, _, _⟩) rfl ?_
  refine sk 11 (oi := ⟨some 29, _, _, _, _, _⟩) rfl ?_
  refine sk 12 (oi := ⟨some 30, _, _, _, _, _⟩) rfl ?_
  refine sk 13 (oi := ⟨some 31, _, _, _, _, _⟩) rfl ?_
  refine sk 14 (oi := ⟨some 32, _, _, _, _, _⟩) rfl ?_
  refine sk 15 (oi := ⟨some 33, _, _, _, _, _⟩) rfl ?_
  refine sk 16 (oi := ⟨some 34, _, _, _, _, _⟩) rfl ?_
  refine sk 17 (oi := ⟨some 35, _, _, _, _, _⟩) rfl ?_
  refine sk 18 (oi := ⟨some 36, _, _, _, _, _⟩) rfl ?_
  refine sk 19 (oi := ⟨some 37, _, _, _, _, _⟩) rfl ?_
  refine sk 20 (oi := ⟨some 38, _, _, _, _, _⟩) rfl ?_
  refine tk 21 (oi := ⟨some 39, _, _, _, _, _⟩) rfl ?_
  refine dn ?_
  clear hHeld
  go_wp2_with fail
  go_ret
  exact ⟨_, rfl, NO.out _ GD0.out⟩
 ·have hd1 : decide (n < 1) = false := decide_eq_false c1
  by_cases c2 : 1000 < n
  ·go_enter Tryz.func31, Tryz.ntmps31
   go_wp2_with fail
   clear hw0' hgs'
   refine wp_region_held_drew (S := fun w' => w'.cell? ⟨gs, 2, none⟩ = some (.int .i64 n)) (by kernel_rfl) k2 (fun hHeld => ?_)
   refine tk 0 (oi := ⟨some 18, _, _, _, _, _⟩) rfl ?_
   refine tk 1 (oi := ⟨some 19, _, _, _, _, _⟩) rfl ?_
   refine tk 2 (oi := ⟨some 20, _, _, _, _, _⟩) rfl ?_
   refine tk 3 (oi := ⟨some 21, _, _, _, _, _⟩) rfl ?_
   refine tk 4 (oi := ⟨some 22, _, _, _, _, _⟩) rfl ?_
   refine tk 5 (oi := ⟨some 23, _, _, _, _, _⟩) rfl ?_
   refine tk 6 (oi := ⟨some 24, _, _, _, _, _⟩) rfl ?_
   refine tk 7 (oi := ⟨some 25, _, _, _, _, _⟩) rfl ?_
   refine tk 8 (oi := ⟨some 26, _, _, _, _, _⟩) rfl ?_
   refine sk 9 (oi := ⟨some 27, _, _, _, _, _⟩) rfl ?_
   refine sk 10 (oi := ⟨some 28, _, _, _, _, _⟩) rfl ?_
   refine sk 11 (oi := ⟨some 29, _, _, _, _, _⟩) rfl ?_
   refine sk 12 (oi := ⟨some 30, _, _, _, _, _⟩) rfl ?_
   refine sk 13 (oi := ⟨some 31, _, _, _, _, _⟩) rfl ?_
   refine sk 14 (oi := ⟨some 32, _, _, _, _, _⟩) rfl ?_
   refine sk 15 (oi := ⟨some 33, _, _, _, _, _⟩) rfl ?_
   refine sk 16 (oi := ⟨some 34, _, _, _, _, _⟩) rfl ?_
   refine sk 17 (oi := ⟨some 35, _, _, _, _, _⟩) rfl ?_
   refine sk 18 (oi := ⟨some 36, _, _, _, _, _⟩) rfl ?_
   refine sk 19 (oi := ⟨some 37, _, _, _, _, _⟩) rfl ?_
   refine sk 20 (oi := ⟨some 38, _, _, _, _, _⟩) rfl ?_
   refine tk 21 (oi := ⟨some 39, _, _, _, _, _⟩) rfl ?_
   refine dn ?_
   clear hHeld
   go_wp2_with fail
   go_ret
   exact ⟨_, rfl, NO.out _ GD0.out⟩
  ·have hd2 : decide (1000 < n) = false := decide_eq_false c2
   have iw : IntKind.i64.wrap ((d.x false).now + n) = (d.x false).now + n := iX
   by_cases c3 : 1048576 < (d.x false).now + n
   ·go_enter Tryz.func31, Tryz.ntmps31
    go_wp2_with fail
    clear hw0' hgs'
    refine wp_region_held_drew (S := fun w' => w'.cell? ⟨gs, 2, none⟩ = some (.int .i64 n) ∧ w'.cell? ⟨gd, 0, none⟩ = some (.pointer (some ⟨d.ge false, 0, none⟩)) ∧ w'.cell? ⟨d.ge false, 8, none⟩ = some (.int .i64 (d.x false).now)) (by kernel_rfl) ⟨k2, n0, n8⟩ (fun hHeld => ?_)
    refine tk 0 (oi := ⟨some 18, _, _, _, _, _⟩) rfl ?_
    refine tk 1 (oi := ⟨some 19, _, _, _, _, _⟩) rfl ?_
    refine tk 2 (oi := ⟨some 20, _, _, _, _, _⟩) rfl ?_
    refine tk 3 (oi := ⟨some 21, _, _, _, _, _⟩) rfl ?_
    refine tk 4 (oi := ⟨some 22, _, _, _, _, _⟩) rfl ?_
    refine tk 5 (oi := ⟨some 23, _, _, _, _, _⟩) rfl ?_
    refine tk 6 (oi := ⟨some 24, _, _, _, _, _⟩) rfl ?_
    refine tk 7 (oi := ⟨some 25, _, _, _, _, _⟩) rfl ?_
    refine tk 8 (oi := ⟨some 26, _, _, _, _, _⟩) rfl ?_
    refine tk 9 (oi := ⟨some 27, _, _, _, _, _⟩) rfl ?_
    refine tk 10 (oi := ⟨some 28, _, _, _, _, _⟩) rfl ?_
    refine tk 11 (oi := ⟨some 29, _, _, _, _, _⟩) rfl ?_
    refine tk 12 (oi := ⟨some 30, _, _, _, _, _⟩) rfl ?_
    refine tk 13 (oi := ⟨some 31, _, _, _, _, _⟩) rfl ?_
    refine tk 14 (oi := ⟨some 32, _, _, _, _, _⟩) rfl ?_
    refine tk 15 (oi := ⟨some 33, _, _, _, _, _⟩) rfl ?_
    refine tk 16 (oi := ⟨some 34, _, _, _, _, _⟩) rfl ?_
    refine tk 17 (oi := ⟨some 35, _, _, _, _, _⟩) rfl ?_
    refine tk 18 (oi := ⟨some 36, _, _, _, _, _⟩) rfl ?_
    refine tk 19 (oi := ⟨some 37, _, _, _, _, _⟩) rfl ?_
    refine tk 20 (oi := ⟨some 38, _, _, _, _, _⟩) rfl ?_
    refine tk 21 (oi := ⟨some 39, _, _, _, _, _⟩) rfl ?_
    refine dn ?_
    clear hHeld
    go_wp2_with fail
    go_ret
    exact ⟨_, rfl, NO.out _ GD0.out⟩
   ·have hd3 : decide (1048576 < (d.x false).now + n) = false := decide_eq_false c3
    go_enter Tryz.func31, Tryz.ntmps31
    go_wp2_with fail
    clear hw0' hgs'
    refine wp_region_held_drew (S := fun w' => w'.cell? ⟨gs, 2, none⟩ = some (.int .i64 n) ∧ w'.cell? ⟨gd, 0, none⟩ = some (.pointer (some ⟨d.ge false, 0, none⟩)) ∧ w'.cell? ⟨d.ge false, 8, none⟩ = some (.int .i64 (d.x false).now)) (by kernel_rfl) ⟨k2, n0, n8⟩ (fun hHeld => ?_)
    refine tk 0 (oi := ⟨some 18, _, _, _, _, _⟩) rfl ?_
    refine tk 1 (oi := ⟨some 19, _, _, _, _, _⟩) rfl ?_
    refine tk 2 (oi := ⟨some 20, _, _, _, _, _⟩) rfl ?_
    refine tk 3 (oi := ⟨some 21, _, _, _, _, _⟩) rfl ?_
    refine tk 4 (oi := ⟨some 22, _, _, _, _, _⟩) rfl ?_
    refine tk 5 (oi := ⟨some 23, _, _, _, _, _⟩) rfl ?_
    refine tk 6 (oi := ⟨some 24, _, _, _, _, _⟩) rfl ?_
    refine tk 7 (oi := ⟨some 25, _, _, _, _, _⟩) rfl ?_
    refine tk 8 (oi := ⟨some 26, _, _, _, _, _⟩) rfl ?_
    refine tk 9 (oi := ⟨some 27, _, _, _, _, _⟩) rfl ?_
    refine tk 10 (oi := ⟨some 28, _, _, _, _, _⟩) rfl ?_
    refine tk 11 (oi := ⟨some 29, _, _, _, _, _⟩) rfl ?_
    refine tk 12 (oi := ⟨some 30, _, _, _, _, _⟩) rfl ?_
    refine tk 13 (oi := ⟨some 31, _, _, _, _, _⟩) rfl ?_
    refine tk 14 (oi := ⟨some 32, _, _, _, _, _⟩) rfl ?_
    refine tk 15 (oi := ⟨some 33, _, _, _, _, _⟩) rfl ?_
    refine tk 16 (oi := ⟨some 34, _, _, _, _, _⟩) rfl ?_
    refine tk 17 (oi := ⟨some 35, _, _, _, _, _⟩) rfl ?_
    refine tk 18 (oi := ⟨some 36, _, _, _, _, _⟩) rfl ?_
    refine tk 19 (oi := ⟨some 37, _, _, _, _, _⟩) rfl ?_
    refine tk 20 (oi := ⟨some 38, _, _, _, _, _⟩) rfl ?_
    refine tk 21 (oi := ⟨some 39, _, _, _, _, _⟩) rfl ?_
    refine dn ?_
    clear hHeld
    obtain ⟨wd, hwd⟩ := lx (w0.drew)
    rw [← hwd]
    rw [← hwd] at GD0
    have START : Hid (TkI o B w gd N d.ge gs #[.int .i64 4, .int .i64 sd, .int .i64 n, .int .i64 bit, .int .u32 mask, .slice Av l.length cv] 0 wd) := hid ⟨o0, d, wl, H0.out.below GD0.out, (S0.out.trans (Stp.below GD0.out)).mono (fun _ h => h.elim), IV.out.upN (fun t => by unfold NN; rw [if_neg (by omega)]; exact ⟨Nat.le_refl _, by omega⟩), rfl, BX.out.below GD0.out, og⟩
    have sd0 : w.heap.size ≤ wd.heap.size := Nat.le_trans B0.out.size GD0.out.size
    have n0 := (H0.out.below GD0.out).blk.cell 0
    have n1 := (H0.out.below GD0.out).blk.cell 1
    simp only [gA, gZ, gC] at n0 n1
    clear hwd k0 k1 k2 k3 k4 k5 n8
    go_wp2_with fail
    clear n0 n1
    go_loopw [44] (fun i wr => ∃ j : Nat, j ≤ 2 ∧ i = .int .i64 j ∧ TkI o B w gd N d.ge gs #[.int .i64 4, .int .i64 sd, .int .i64 n, .int .i64 bit, .int .u32 mask, .slice Av l.length cv] j wr) (fun i _ => 2 - (intOf i).toNat)
    case atStart => exact ⟨0, Nat.zero_le _, rfl, START.out⟩
    case round =>
     obtain ⟨j, hj, rfl, hI⟩ := hrel
     have HI := hid hI
     clear hI
     by_cases hj2 : j < 2
     ·obtain ⟨o1, d1, wl1, h1, st1, hi1, hge1, hb1, og1⟩ := HI.out
      have sr := st1.size
      have k2 := hb1.cell 2
      have n0 := h1.blk.cell 0
      have n1 := h1.blk.cell 1
      simp only [gA, gZ, gC] at n0 n1 k2
      rcases (by omega : j = 0 ∨ j = 1) with rfl | rfl
      ·have q8 := (h1.e false).blk.cell 8
       simp only [gA, gZ, gC] at q8
       rw [hge1] at q8 n0 n1
       have TK : Hid (∀ W z, Below wr.heap.size wr W → Calls Tryz.prog 39 #[.pointer (some ⟨d.ge false, 0, none⟩), .int .i64 z] W fun e w' => ∃ q : Bool, e = .returned (.bool q) ∧ TkI o B w gd N d.ge gs #[.int .i64 4, .int .i64 sd, .int .i64 n, .int .i64 bit, .int .u32 mask, .slice Av l.length cv] (0 + 1) w') := hid (fun W z hW => by
        have h2 := h1.below hW
        have okk : EOk N (d1.x false) := by have := hi1.ok false; simpa [NN, sN] using this
        rw [← hge1]
        refine (etick_any o1 (kk false) B N W (d1.ge false) (d1.x false) z (h2.e false) okk hN (Nat.le_trans (Nat.le_trans hB sr) hW.size)).mono ?_
        rintro e w' ⟨q, rfl, hc⟩
        exact ⟨q, rfl, TkI.next (s := false) hN h2 (st1.trans (Stp.below hW)) hi1 rfl (hb1.below hW) og1 hc⟩)
       clear h1 st1 hi1 hge1 hb1 og1
       go_wp2_with fail
       refine wp_region_still_tail (id := 7) 8 (by kernel_rfl) (by kernel_rfl) ?_
       change wpStill _ _ (World.drew _) (fun a' => wpList _ _ _ _ a' (World.drew _)) _ _
       simp only [List.take_succ_cons, List.take_zero, List.drop_succ_cons, List.drop_zero]
       repeat still_step
       refine wpStill_nil ?_
       go_wp2_with fail
       refine (TK.out wr.drew _ bD).mono ?_
       rintro e w5 ⟨q, rfl, hp5⟩
       have P5 := hid hp5
       clear hp5
       go_wp2_with fail
       go_roundw
       case rel => exact ⟨0 + 1, by omega, by go_num, P5.out⟩
       case measure => simp [intOf]
      ·have q8 := (h1.e true).blk.cell 8
       simp only [gA, gZ, gC] at q8
       rw [hge1] at q8 n0 n1
       have TK : Hid (∀ W z, Below wr.heap.size wr W → Calls Tryz.prog 39 #[.pointer (some ⟨d.ge true, 0, none⟩), .int .i64 z] W fun e w' => ∃ q : Bool, e = .returned (.bool q) ∧ TkI o B w gd N d.ge gs #[.int .i64 4, .int .i64 sd, .int .i64 n, .int .i64 bit, .int .u32 mask, .slice Av l.length cv] (1 + 1) w') := hid (fun W z hW => by
        have h2 := h1.below hW
        have okk : EOk N (d1.x true) := by have := hi1.ok true; simpa [NN, sN] using this
        rw [← hge1]
        refine (etick_any o1 (kk true) B N W (d1.ge true) (d1.x true) z (h2.e true) okk hN (Nat.le_trans (Nat.le_trans hB sr) hW.size)).mono ?_
        rintro e w' ⟨q, rfl, hc⟩
        exact ⟨q, rfl, TkI.next (s := true) hN h2 (st1.trans (Stp.below hW)) hi1 rfl (hb1.below hW) og1 hc⟩)
       clear h1 st1 hi1 hge1 hb1 og1
       go_wp2_with fail
       refine wp_region_still_tail (id := 7) 8 (by kernel_rfl) (by kernel_rfl) ?_
       change wpStill _ _ (World.drew _) (fun a' => wpList _ _ _ _ a' (World.drew _)) _ _
       simp only [List.take_succ_cons, List.take_zero, List.drop_succ_cons, List.drop_zero]
       repeat still_step
       refine wpStill_nil ?_
       go_wp2_with fail
       refine (TK.out wr.drew _ bD).mono ?_
       rintro e w5 ⟨q, rfl, hp5⟩
       have P5 := hid hp5
       clear hp5
       go_wp2_with fail
       go_roundw
       case rel => exact ⟨1 + 1, by omega, by go_num, P5.out⟩
       case measure => simp [intOf]
     ·obtain rfl : j = 2 := by omega
      have R : Hid (DuR o B w gd N wr) := hid (by
       obtain ⟨o1, d1, wl1, h1, st1, hi1, _, _, _⟩ := HI.out
       exact ⟨o1, d1, wl1, h1, st1, hi1.upN (fun t => ⟨by unfold NN; split <;> omega, hN⟩)⟩)
      go_wp2_with fail
      go_ret
      exact ⟨_, rfl, R.out⟩
set_option maxHeartbeats 16000000 in
set_option maxRecDepth 100000 in
theorem do_side (o : Nat → Nat) (B : Nat) (w : World) (gd N : Nat) (d : DuV) (wl : List (Int × Ev)) (kd sd n bit mask : Int) (v : Value) (l : List Int) (h : DuS o B w gd d) (hi : DInv (fun _ => N) d wl) (hN : N + 500000 ≤ 40000000) (hB : B ≤ w.heap.size) (hv : BV w (frozen o) v l) (hl : l.length ≤ 1000000) (c4 : kd ≠ 4) (c0 : sd ≠ 0) (c1 : sd ≠ 1) :
  Calls Tryz.prog 31 #[.pointer (some ⟨gd, 0, none⟩), .agg #[.int .i64 kd, .int .i64 sd, .int .i64 n, .int .i64 bit, .int .u32 mask, v]] w fun e w' => DoR o B w gd N d wl e w' := by
 obtain ⟨Av, cv, rfl, _, _⟩ := hv.len
 obtain ⟨w0, hw0⟩ := lx (w.alloc (.cells #[.int .i64 kd, .int .i64 sd, .int .i64 n, .int .i64 bit, .int .u32 mask, .slice Av l.length cv] 61))
 obtain ⟨gs, hgs⟩ := lx (w.heap.size)
 have B0 : Hid (Below w.heap.size w w0) := hid (by rw [hw0]; exact ba)
 have BX : Hid (Blk w0 gs #[.int .i64 kd, .int .i64 sd, .int .i64 n, .int .i64 bit, .int .u32 mask, .slice Av l.length cv] 61) := hid (by rw [hw0, hgs]; exact Blk.new _ _ _)
 have S0 : Hid (Stp (fun _ => False) o (scr o w.heap.size 0) w w0) := hid ⟨Frm.of_below B0.out, scr_agr _ _ _⟩
 have og : scr o w.heap.size 0 gs = 0 := by rw [hgs]; exact scr_new (Nat.le_refl _)
 obtain ⟨o0, ho0⟩ := lx (scr o w.heap.size 0)
 rw [← ho0] at S0 og
 have H0 := hid (h.frm S0.out (fun h => h) (fun _ h => h.elim))
 have V0 : Hid (BV w0 (frozen o0) (.slice Av l.length cv) l) := hid (BV.stpK hv S0.out (fun h => h))
 have IV := hid hi
 have hw0' := hw0.symm
 have hgs' := hgs.symm
 have sB : B ≤ w0.heap.size := Nat.le_trans hB B0.out.size
 have k0 := BX.out.cell 0
 have k1 := BX.out.cell 1
 have k2 := BX.out.cell 2
 have k3 := BX.out.cell 3
 have k4 := BX.out.cell 4
 have k5 := BX.out.cell 5
 have n0 := H0.out.blk.cell 0
 have n1 := H0.out.blk.cell 1
 simp only [gA, gZ, gC] at k0 k1 k2 k3 k4 k5 n0 n1
 clear h hi hv hw0 hgs ho0
 have b4 : (kd == 4) = false := by rw [beq_eq_false_iff_ne]; exact c4
 have b0 : (sd != 0) = true := by rw [bne_iff_ne]; exact c0
 have b1 : (sd != 1) = true := by rw [bne_iff_ne]; exact c1
 have R : Hid (DuR o B w gd N w0) := hid (DuR.rest hN (S0.out.mono (fun _ h => h.elim)) H0.out IV.out)
 clear c4 c0 c1
 go_enter Tryz.func31, Tryz.ntmps31
 go_wp2_with fail
 go_ret
 exact ⟨_, rfl, R.out⟩
set_option maxHeartbeats 16000000 in
set_option maxRecDepth 100000 in
theorem do_none (o : Nat → Nat) (B : Nat) (w : World) (gd N : Nat) (d : DuV) (wl : List (Int × Ev)) (s : Bool) (kd n bit mask : Int) (v : Value) (l : List Int) (h : DuS o B w gd d) (hi : DInv (fun _ => N) d wl) (hN : N + 500000 ≤ 40000000) (hB : B ≤ w.heap.size) (hv : BV w (frozen o) v l) (hl : l.length ≤ 1000000) (c1 : kd ≠ 1) (c2 : kd ≠ 2) (c3 : kd ≠ 3) (c4 : kd ≠ 4) (c5 : kd ≠ 5) (c6 : kd ≠ 6) (c7 : kd ≠ 7) (c8 : kd ≠ 8) (c9 : kd ≠ 9) (c10 : kd ≠ 10) :
  Calls Tryz.prog 31 #[.pointer (some ⟨gd, 0, none⟩), .agg #[.int .i64 kd, .int .i64 (sI s), .int .i64 n, .int .i64 bit, .int .u32 mask, v]] w fun e w' => DoR o B w gd N d wl e w' := by
 obtain ⟨Av, cv, rfl, _, _⟩ := hv.len
 obtain ⟨w0, hw0⟩ := lx (w.alloc (.cells #[.int .i64 kd, .int .i64 (sI s), .int .i64 n, .int .i64 bit, .int .u32 mask, .slice Av l.length cv] 61))
 obtain ⟨gs, hgs⟩ := lx (w.heap.size)
 have B0 : Hid (Below w.heap.size w w0) := hid (by rw [hw0]; exact ba)
 have BX : Hid (Blk w0 gs #[.int .i64 kd, .int .i64 (sI s), .int .i64 n, .int .i64 bit, .int .u32 mask, .slice Av l.length cv] 61) := hid (by rw [hw0, hgs]; exact Blk.new _ _ _)
 have S0 : Hid (Stp (fun _ => False) o (scr o w.heap.size 0) w w0) := hid ⟨Frm.of_below B0.out, scr_agr _ _ _⟩
 have og : scr o w.heap.size 0 gs = 0 := by rw [hgs]; exact scr_new (Nat.le_refl _)
 obtain ⟨o0, ho0⟩ := lx (scr o w.heap.size 0)
 rw [← ho0] at S0 og
 have H0 := hid (h.frm S0.out (fun h => h) (fun _ h => h.elim))
 have V0 : Hid (BV w0 (frozen o0) (.slice Av l.length cv) l) := hid (BV.stpK hv S0.out (fun h => h))
 have IV := hid hi
 have hw0' := hw0.symm
 have hgs' := hgs.symm
 have sB : B ≤ w0.heap.size := Nat.le_trans hB B0.out.size
 have k0 := BX.out.cell 0
 have k1 := BX.out.cell 1
 have k2 := BX.out.cell 2
 have k3 := BX.out.cell 3
 have k4 := BX.out.cell 4
 have k5 := BX.out.cell 5
 have n0 := H0.out.blk.cell 0
 have n1 := H0.out.blk.cell 1
 simp only [gA, gZ, gC] at k0 k1 k2 k3 k4 k5 n0 n1
 clear h hi hv hw0 hgs ho0
 have b1 : (kd == 1) = false := by rw [beq_eq_false_iff_ne]; exact c1
 have b2 : (kd == 2) = false := by rw [beq_eq_false_iff_ne]; exact c2
 have b3 : (kd == 3) = false := by rw [beq_eq_false_iff_ne]; exact c3
 have b4 : (kd == 4) = false := by rw [beq_eq_false_iff_ne]; exact c4
 have b5 : (kd == 5) = false := by rw [beq_eq_false_iff_ne]; exact c5
 have b6 : (kd == 6) = false := by rw [beq_eq_false_iff_ne]; exact c6
 have b7 : (kd == 7) = false := by rw [beq_eq_false_iff_ne]; exact c7
 have b8 : (kd == 8) = false := by rw [beq_eq_false_iff_ne]; exact c8
 have b9 : (kd == 9) = false := by rw [beq_eq_false_iff_ne]; exact c9
 have b10 : (kd == 10) = false := by rw [beq_eq_false_iff_ne]; exact c10
 clear c1 c2 c3 c4 c5 c6 c7 c8 c9 c10
 cases s
 case false =>
  have e0 : sI false = 0 := rfl
  rw [e0] at hw0' k1 BX ⊢
  clear e0
  go_enter Tryz.func31, Tryz.ntmps31
  go_wp2_with fail
  clear hw0' hgs'
  go_quiet (fail)
  obtain ⟨wb, hwb⟩ := lx (w0.drewN nq)
  rw [← hwb]
  have GB : Hid (Below w0.heap.size w0 wb) := hid (by rw [hwb]; exact below_drewN (Below.refl _ _) _)
  have SB : Hid (Stp (fun _ => False) o o0 w wb) := hid (S0.out.trans (Stp.below GB.out))
  have HD := hid (H0.out.below GB.out)
  have VB := hid (V0.out.below GB.out)
  have BXB := hid (BX.out.below GB.out)
  have sBb : B ≤ wb.heap.size := Nat.le_trans sB GB.out.size
  clear hwb H0 V0 BX k0 k1 k2 k3 k4 k5 n0 n1
  have k0 := BXB.out.cell 0
  have k1 := BXB.out.cell 1
  have k2 := BXB.out.cell 2
  have k3 := BXB.out.cell 3
  have k4 := BXB.out.cell 4
  have k5 := BXB.out.cell 5
  have n0 := HD.out.blk.cell 0
  have n1 := HD.out.blk.cell 1
  simp only [gA, gZ, gC] at k0 k1 k2 k3 k4 k5 n0 n1
  go_wp2_with fail
  go_ret
  exact ⟨_, rfl, DuR.rest hN (SB.out.mono (fun _ h => h.elim)) HD.out IV.out⟩
 case true =>
  have e0 : sI true = 1 := rfl
  rw [e0] at hw0' k1 BX ⊢
  clear e0
  go_enter Tryz.func31, Tryz.ntmps31
  go_wp2_with fail
  clear hw0' hgs'
  go_quiet (fail)
  obtain ⟨wb, hwb⟩ := lx (w0.drewN nq)
  rw [← hwb]
  have GB : Hid (Below w0.heap.size w0 wb) := hid (by rw [hwb]; exact below_drewN (Below.refl _ _) _)
  have SB : Hid (Stp (fun _ => False) o o0 w wb) := hid (S0.out.trans (Stp.below GB.out))
  have HD := hid (H0.out.below GB.out)
  have VB := hid (V0.out.below GB.out)
  have BXB := hid (BX.out.below GB.out)
  have sBb : B ≤ wb.heap.size := Nat.le_trans sB GB.out.size
  clear hwb H0 V0 BX k0 k1 k2 k3 k4 k5 n0 n1
  have k0 := BXB.out.cell 0
  have k1 := BXB.out.cell 1
  have k2 := BXB.out.cell 2
  have k3 := BXB.out.cell 3
  have k4 := BXB.out.cell 4
  have k5 := BXB.out.cell 5
  have n0 := HD.out.blk.cell 0
  have n1 := HD.out.blk.cell 1
  simp only [gA, gZ, gC] at k0 k1 k2 k3 k4 k5 n0 n1
  go_wp2_with fail
  go_ret
  exact ⟨_, rfl, DuR.rest hN (SB.out.mono (fun _ h => h.elim)) HD.out IV.out⟩
end

section
theorem do_any (o : Nat → Nat) (B : Nat) (w : World) (gd N : Nat) (d : DuV) (wl : List (Int × Ev)) (kd sd n bit mask : Int) (v : Value) (l : List Int) (h : DuS o B w gd d) (hi : DInv (fun _ => N) d wl) (hN : N + 500000 ≤ 40000000) (hB : B ≤ w.heap.size) (hv : BV w (frozen o) v l) (hl : l.length ≤ 1000000) :
  Calls Tryz.prog 31 #[.pointer (some ⟨gd, 0, none⟩), .agg #[.int .i64 kd, .int .i64 sd, .int .i64 n, .int .i64 bit, .int .u32 mask, v]] w fun e w' => DoR o B w gd N d wl e w' := by
 by_cases c4 : kd = 4
 ·subst c4; exact do_k4 o B w gd N d wl sd n bit mask v l h hi hN hB hv hl
 by_cases hs : sd = 0 ∨ sd = 1
 ·obtain ⟨s, rfl⟩ : ∃ s : Bool, sd = sI s := by
   rcases hs with rfl | rfl
   ·exact ⟨false, rfl⟩
   ·exact ⟨true, rfl⟩
  by_cases c1 : kd = 1
  ·subst c1; exact do_k1 o B w gd N d wl s n bit mask v l h hi hN hB hv hl
  by_cases c2 : kd = 2
  ·subst c2; exact do_k2 o B w gd N d wl s n bit mask v l h hi hN hB hv hl
  by_cases c3 : kd = 3
  ·subst c3; exact do_k3 o B w gd N d wl s n bit mask v l h hi hN hB hv hl
  by_cases c5 : kd = 5
  ·subst c5; exact do_k5 o B w gd N d wl s n bit mask v l h hi hN hB hv hl
  by_cases c6 : kd = 6
  ·subst c6; exact do_k6 o B w gd N d wl s n bit mask v l h hi hN hB hv hl
  by_cases c7 : kd = 7
  ·subst c7; exact do_k7 o B w gd N d wl s n bit mask v l h hi hN hB hv hl
  by_cases c8 : kd = 8
  ·subst c8; exact do_k8 o B w gd N d wl s n bit mask v l h hi hN hB hv hl
  by_cases c9 : kd = 9
  ·subst c9; exact do_k9 o B w gd N d wl s n bit mask v l h hi hN hB hv hl
  by_cases c10 : kd = 10
  ·subst c10; exact do_k10 o B w gd N d wl s n bit mask v l h hi hN hB hv hl
  exact do_none o B w gd N d wl s kd n bit mask v l h hi hN hB hv hl c1 c2 c3 c4 c5 c6 c7 c8 c9 c10
 ·exact do_side o B w gd N d wl kd sd n bit mask v l h hi hN hB hv hl c4 (fun e => hs (.inl e)) (fun e => hs (.inr e))
set_option maxHeartbeats 4000000 in
set_option maxRecDepth 100000 in
/-- A step, and what was said is passed on. -/
theorem step_any (o : Nat → Nat) (B : Nat) (w : World) (gd N : Nat) (d : DuV) (wl : List (Int × Ev)) (kd sd n bit mask : Int) (v : Value) (l : List Int) (h : DuS o B w gd d) (hi : DInv (fun _ => N) d wl) (hN : N + 500000 ≤ 40000000) (hB : B ≤ w.heap.size) (hv : BV w (frozen o) v l) (hl : l.length ≤ 1000000) :
  Calls Tryz.prog 20 #[.pointer (some ⟨gd, 0, none⟩), .agg #[.int .i64 kd, .int .i64 sd, .int .i64 n, .int .i64 bit, .int .u32 mask, v]] w fun e w' => DoR o B w gd N d wl e w' := by
 obtain ⟨Av, cv, rfl, _, _⟩ := hv.len
 obtain ⟨w0, hw0⟩ := lx (w.alloc (.cells #[.int .i64 kd, .int .i64 sd, .int .i64 n, .int .i64 bit, .int .u32 mask, .slice Av l.length cv] 61))
 have B0 : Hid (Below w.heap.size w w0) := hid (by rw [hw0]; exact ba)
 have H0 := hid (h.below B0.out)
 have V0 := hid (hv.below B0.out)
 have IV := hid hi
 obtain ⟨gs, hgs⟩ := lx (w.heap.size)
 have BX : Hid (Blk w0 gs #[.int .i64 kd, .int .i64 sd, .int .i64 n, .int .i64 bit, .int .u32 mask, .slice Av l.length cv] 61) := hid (by rw [hw0, hgs]; exact Blk.new _ _ _)
 have k0 := BX.out.cell 0
 have k1 := BX.out.cell 1
 have k2 := BX.out.cell 2
 have k3 := BX.out.cell 3
 have k4 := BX.out.cell 4
 have k5 := BX.out.cell 5
 simp only [gA, gZ, gC] at k0 k1 k2 k3 k4 k5
 have hw0' := hw0.symm
 have hgs' := hgs.symm
 have sB : B ≤ w0.heap.size := Nat.le_trans hB B0.out.size
 clear h hi hv hw0 hgs
 go_enter Tryz.func20, Tryz.ntmps20
 go_wp2_with fail
 clear hw0'
 refine (do_any o B w0 gd N d wl kd sd n bit mask _ l H0.out IV.out hN sB V0.out hl).mono ?_
 rintro e w1 ⟨q, rfl, o1, d1, wl1, h1, st1, hi1⟩
 have H1 := hid h1
 have S1 : Hid (Stp DC o o1 w w1) := hid ((Stp.below B0.out).trans st1)
 have I1 := hid hi1
 clear h1 st1 hi1
 go_wp2_with fail
 refine (pass_any o1 B w1 gd (fun _ => N + 500000) d1 wl1 H1.out I1.out (Nat.le_trans hB S1.out.size)).mono ?_
 rintro e w2 ⟨rfl, o2, d2, h2, st2, hi2, _, _, _⟩
 have R : Hid (DuR o B w gd N w2) := hid ⟨o2, d2, wl1, h2, S1.out.trans st2, hi2⟩
 clear h2 st2 hi2
 go_wp2_with fail
 go_ret
 exact ⟨_, rfl, R.out⟩
def NewDuelR (o : Nat → Nat) (B : Nat) (w : World) (e : Ending) (w' : World) : Prop :=
 ∃ (gd : Nat) (o' : Nat → Nat) (d : DuV), e = .returned (.pointer (some ⟨gd, 0, none⟩)) ∧ DuS o' B w' gd d ∧ Stp (fun _ => False) o o' w w' ∧ DInv (fun _ => 0) d []
theorem newduel_mk {o o1 o2 : Nat → Nat} {B : Nat} {w w1 w2 w3 : World} {g0 g1 gd : Nat} {x0 x1 : EndV} (hB : B ≤ w.heap.size) (h1 : EndS o1 100 B w1 g0 x0) (s1 : Stp (fun _ => False) o o1 w w1) (k1 : EOk 0 x0) (e1 : x0.es = [] ∧ x0.outs = []) (h2 : EndS o2 200 B w2 g1 x1) (s2 : Stp (fun _ => False) o1 o2 w1 w2) (k2 : EOk 0 x1) (e2 : x1.es = [] ∧ x1.outs = [])
  (b3 : Below w2.heap.size w2 w3) (hgd : w2.heap.size ≤ gd) (hb : Blk w3 gd #[.pointer (some ⟨g0, 0, none⟩), .pointer (some ⟨g1, 0, none⟩), .slice none 0 0, .slice none 0 0, .slice none 0 0, .slice none 0 0] 87) : NewDuelR o B w (.returned (.pointer (some ⟨gd, 0, none⟩))) w3 := by
 have s3 : Stp (fun _ => False) o2 (scr o2 w2.heap.size 300) w2 w3 := ⟨Frm.of_below b3, scr_agr _ _ _⟩
 have nl : ∀ (j : Nat), ¬ (Value.slice none 0 0).ownBlock = some j := fun j h => by cases h
 refine ⟨gd, scr o2 w2.heap.size 300, ⟨fun s => if s then g1 else g0, fun s => if s then x1 else x0, fun _ => .slice none 0 0, fun _ => [], fun _ => .slice none 0 0, fun _ => []⟩, rfl, ⟨hb, scr_new hgd, ?_, fun s => ?_, fun s => OutG.nil _ _ _ _ _ _ _, fun s j hj => (nl j hj).elim, fun s => BO.nil _ _, fun s j hj => (nl j hj).elim⟩, (s1.trans s2).trans s3, ⟨fun s => ?_, fun s => ?_, fun i s e h => by simp at h, fun y h => by simp at h, fun s y hy => by simp at hy, fun s => Nat.zero_le _, fun s p hp => ?_, fun s => Nat.zero_le _, fun s e he => ?_⟩⟩
 ·have := s1.size
  have := s2.size
  omega
 ·cases s
  ·exact (h1.frm s2 (fun h => h) (fun _ h => h.elim)).frm s3 (fun h => h) (fun _ h => h.elim)
  ·exact h2.frm s3 (fun h => h) (fun _ h => h.elim)
 ·cases s
  ·exact k1
  ·exact k2
 ·cases s
  ·show [] = x0.es
   rw [e1.1]
  ·show [] = x1.es
   rw [e2.1]
 ·cases s
  ·have hp' : p ∈ x0.outs := hp
   rw [e1.2] at hp'
   cases hp'
  ·have hp' : p ∈ x1.outs := hp
   rw [e2.2] at hp'
   cases hp'
 ·cases s
  ·have hp' : e ∈ x0.es := he
   rw [e1.1] at hp'
   cases hp'
  ·have hp' : e ∈ x1.es := he
   rw [e2.1] at hp'
   cases hp'
set_option maxHeartbeats 4000000 in
set_option maxRecDepth 100000 in
theorem newduel_any (o : Nat → Nat) (B : Nat) (w : World) (c : Cf) (n : Nat) (hc : c.c0 = (n : Int)) (hn : 1 ≤ n ∧ n ≤ 3) (hB : B ≤ w.heap.size) :
  Calls Tryz.prog 30 #[cfA c] w fun e w' => NewDuelR o B w e w' := by
 obtain ⟨w0, hw0⟩ := lx (w.alloc (.cells #[.int .i64 c.c0, .int .i64 c.c1, .int .i64 c.c2, .int .i64 c.c3, .int .i64 c.c4, .int .i64 c.c5, .int .i64 c.c6] 33))
 obtain ⟨gc, hgc⟩ := lx (w.heap.size)
 have BX : Hid (Blk w0 gc (cfL c).toArray 33) := hid (by rw [hw0, hgc]; exact Blk.new _ _ _)
 have B0 : Hid (Below w.heap.size w w0) := hid (by rw [hw0]; exact ba)
 have hw0' := hw0.symm
 have hgc' := hgc.symm
 have sB : B ≤ w0.heap.size := Nat.le_trans hB B0.out.size
 have KE : Hid (∀ W, Below w0.heap.size w0 W → W.cell? ⟨gc, 0, none⟩ = some (.int .i64 c.c0) ∧ W.cell? ⟨gc, 1, none⟩ = some (.int .i64 c.c1) ∧ W.cell? ⟨gc, 2, none⟩ = some (.int .i64 c.c2) ∧ W.cell? ⟨gc, 3, none⟩ = some (.int .i64 c.c3) ∧ W.cell? ⟨gc, 4, none⟩ = some (.int .i64 c.c4) ∧ W.cell? ⟨gc, 5, none⟩ = some (.int .i64 c.c5) ∧ W.cell? ⟨gc, 6, none⟩ = some (.int .i64 c.c6)) := hid (fun W hW => by
  have b := BX.out.below hW
  exact ⟨b.cell 0, b.cell 1, b.cell 2, b.cell 3, b.cell 4, b.cell 5, b.cell 6⟩)
 have HC := hid hc
 clear hw0 hgc hc
 go_enter Tryz.func30, Tryz.ntmps30
 go_wp2_with fail
 clear hw0' hgc'
 refine wp_region_held_drew (S := fun w' => w'.cell? ⟨gc, 0, none⟩ = some (.int .i64 c.c0) ∧ w'.cell? ⟨gc, 1, none⟩ = some (.int .i64 c.c1) ∧ w'.cell? ⟨gc, 2, none⟩ = some (.int .i64 c.c2) ∧ w'.cell? ⟨gc, 3, none⟩ = some (.int .i64 c.c3) ∧ w'.cell? ⟨gc, 4, none⟩ = some (.int .i64 c.c4) ∧ w'.cell? ⟨gc, 5, none⟩ = some (.int .i64 c.c5) ∧ w'.cell? ⟨gc, 6, none⟩ = some (.int .i64 c.c6)) (by kernel_rfl) (KE.out _ bD) (fun hHeld => ?_)
 obtain ⟨wd, hwd⟩ := lx (w0.drew)
 have GD : Hid (Below w0.heap.size w0 wd) := hid (by rw [hwd]; exact bD)
 have SD : Hid (Stp (fun _ => False) o o w wd) := hid (Stp.below (bO B0.out GD.out))
 rw [← hwd] at hHeld ⊢
 clear hwd
 refine tk 0 (oi := ⟨some 3, _, _, _, _, _⟩) rfl ?_
 refine tk 2 (oi := ⟨some 5, _, _, _, _, _⟩) rfl ?_
 refine rD 1 (o := ⟨some 4, _, _, _, _, _⟩) rfl (fun K hK => ?_)
 go_simp
 refine (newend_any o 100 B wd c n 0 HC.out hn (Nat.le_trans hB SD.out.size) (by omega)).mono ?_
 rintro e w1 ⟨g0, o1, x0, rfl, hx1, hs1, hk1, he1, ho1⟩
 have X1 := hid hx1
 have S1 := hid hs1
 have K1 := hid hk1
 have E1 := hid (And.intro he1 ho1)
 have bw1 : Below wd.heap.size wd w1 := ⟨hs1.f.os, hs1.f.tape, hs1.f.output, hs1.f.size, fun j hj => hs1.f.block j hj (fun h => h)⟩
 have G1 := hid (bO GD.out bw1)
 clear hx1 hs1 hk1 he1 ho1 bw1
 refine Ko hK (KE.out _ G1.out) (fun hHeld => ?_)
 clear hK K
 refine rD 3 (o := ⟨some 6, _, _, _, _, _⟩) rfl (fun K hK => ?_)
 go_simp
 refine (newend_any o1 200 B w1 c n 1 HC.out hn (Nat.le_trans hB (Nat.le_trans SD.out.size S1.out.size)) (by omega)).mono ?_
 rintro e w2 ⟨g1, o2, x1, rfl, hx2, hs2, hk2, he2, ho2⟩
 have X2 := hid hx2
 have S2 := hid hs2
 have K2 := hid hk2
 have E2 := hid (And.intro he2 ho2)
 have bw2 : Below w1.heap.size w1 w2 := ⟨hs2.f.os, hs2.f.tape, hs2.f.output, hs2.f.size, fun j hj => hs2.f.block j hj (fun h => h)⟩
 have G2 := hid (bO G1.out bw2)
 clear hx2 hs2 hk2 he2 ho2 bw2
 refine Ko hK (KE.out _ G2.out) (fun hHeld => ?_)
 clear hK K
 refine tk 4 (oi := ⟨some 7, _, _, _, _, _⟩) rfl ?_
 refine tk 5 (oi := ⟨some 8, _, _, _, _, _⟩) rfl ?_
 refine rD 6 (o := ⟨some 9, _, _, _, _, _⟩) rfl (fun K hK => ?_)
 go_simp
 refine Ko hK (KE.out _ (G2.out.alloc G2.out.size _)) (fun hHeld => ?_)
 clear hK K
 refine tk 7 (oi := ⟨some 2, _, _, _, _, _⟩) rfl ?_
 refine dn ?_
 clear hHeld
 go_wp2_with fail
 go_ret
 exact newduel_mk hB X1.out (SD.out.trans S1.out) K1.out E1.out X2.out S2.out K2.out E2.out (ba) (Nat.le_refl _) (Blk.new _ _ _)
end
end Go.Proofs.YtdneakejlbabeaaGreat
