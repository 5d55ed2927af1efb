/- Parts of the walk: Uf. -/
import Derived.Test.YtdneakejlbabeaaGreatM00
import Derived.Test.YtdneakejlbabeaaGreatM34
namespace Go.Proofs.YtdneakejlbabeaaGreat
open Go.RowKit
set_option linter.unusedVariables false
set_option linter.unusedSimpArgs false
section
set_option maxHeartbeats 16000000 in
set_option maxRecDepth 100000 in
theorem do_k8 (o : Nat → Nat) (B : Nat) (w : World) (gd N : Nat) (d : DuV) (wl : List (Int × Ev)) (s : Bool) (n bit mask : Int) (v : Value) (l : List Int) (h : DuS o B w gd d) (hi : DInv (fun _ => N) d wl) (hN : N + 500000 ≤ 40000000) (hB : B ≤ w.heap.size) (hv : BV w (frozen o) v l) (hl : l.length ≤ 1000000) :
  Calls Tryz.prog 31 #[.pointer (some ⟨gd, 0, none⟩), .agg #[.int .i64 8, .int .i64 (sI s), .int .i64 n, .int .i64 bit, .int .u32 mask, v]] w fun e w' => DoR o B w gd N d wl e w' := by
 obtain ⟨Av, cv, rfl, _, _⟩ := hv.len
 obtain ⟨w0, hw0⟩ := lx (w.alloc (.cells #[.int .i64 8, .int .i64 (sI s), .int .i64 n, .int .i64 bit, .int .u32 mask, .slice Av l.length cv] 61))
 obtain ⟨gs, hgs⟩ := lx (w.heap.size)
 have B0 : Hid (Below w.heap.size w w0) := hid (by rw [hw0]; exact ba)
 have BX : Hid (Blk w0 gs #[.int .i64 8, .int .i64 (sI s), .int .i64 n, .int .i64 bit, .int .u32 mask, .slice Av l.length cv] 61) := hid (by rw [hw0, hgs]; exact Blk.new _ _ _)
 have S0 : Hid (Stp (fun _ => False) o (scr o w.heap.size 0) w w0) := hid ⟨Frm.of_below B0.out, scr_agr _ _ _⟩
 have og : scr o w.heap.size 0 gs = 0 := by rw [hgs]; exact scr_new (Nat.le_refl _)
 obtain ⟨o0, ho0⟩ := lx (scr o w.heap.size 0)
 rw [← ho0] at S0 og
 have H0 := hid (h.frm S0.out (fun h => h) (fun _ h => h.elim))
 have V0 : Hid (BV w0 (frozen o0) (.slice Av l.length cv) l) := hid (BV.stpK hv S0.out (fun h => h))
 have IV := hid hi
 have hw0' := hw0.symm
 have hgs' := hgs.symm
 have sB : B ≤ w0.heap.size := Nat.le_trans hB B0.out.size
 have k0 := BX.out.cell 0
 have k1 := BX.out.cell 1
 have k2 := BX.out.cell 2
 have k3 := BX.out.cell 3
 have k4 := BX.out.cell 4
 have k5 := BX.out.cell 5
 have n0 := H0.out.blk.cell 0
 have n1 := H0.out.blk.cell 1
 simp only [gA, gZ, gC] at k0 k1 k2 k3 k4 k5 n0 n1
 clear h hi hv hw0 hgs ho0
 cases s
 case false =>
  have e0 : sI false = 0 := rfl
  rw [e0] at hw0' k1 BX ⊢
  clear e0
  go_enter Tryz.func31, Tryz.ntmps31
  go_wp2_with fail
  clear hw0' hgs'
  go_quiet (fail)
  obtain ⟨wb, hwb⟩ := lx (w0.drewN nq)
  rw [← hwb]
  have GB : Hid (Below w0.heap.size w0 wb) := hid (by rw [hwb]; exact below_drewN (Below.refl _ _) _)
  have SB : Hid (Stp (fun _ => False) o o0 w wb) := hid (S0.out.trans (Stp.below GB.out))
  have HD := hid (H0.out.below GB.out)
  have VB := hid (V0.out.below GB.out)
  have BXB := hid (BX.out.below GB.out)
  have sBb : B ≤ wb.heap.size := Nat.le_trans sB GB.out.size
  clear hwb H0 V0 BX k0 k1 k2 k3 k4 k5 n0 n1
  have k0 := BXB.out.cell 0
  have k1 := BXB.out.cell 1
  have k2 := BXB.out.cell 2
  have k3 := BXB.out.cell 3
  have k4 := BXB.out.cell 4
  have k5 := BXB.out.cell 5
  have n0 := HD.out.blk.cell 0
  have n1 := HD.out.blk.cell 1
  simp only [gA, gZ, gC] at k0 k1 k2 k3 k4 k5 n0 n1
  go_wp2_with fail
  refine wp_region_held_drew (S := fun w' => w'.cell? ⟨gs, 1, none⟩ = some (.int .i64 0) ∧ w'.cell? ⟨gs, 2, none⟩ = some (.int .i64 n)) (by kernel_rfl) ⟨k1, k2⟩ (fun hHeld => ?_)
  obtain ⟨wd, hwd⟩ := lx (wb.drew)
  have GD : Hid (Below wb.heap.size wb wd) := hid (by rw [hwd]; exact bD)
  have HDD := hid (HD.out.below GD.out)
  have BXD := hid (BXB.out.below GD.out)
  have sBd : B ≤ wd.heap.size := Nat.le_trans sBb GD.out.size
  have SD := hid (SB.out.trans (Stp.below GD.out))
  have IN : Hid (∀ c, (c = 300 ∨ c = 302 + sN false) → DC c) := hid (fun c hc => by rcases hc with rfl | rfl <;> simp [DC, sN])
  rw [← hwd] at hHeld ⊢
  clear hwd k0 k1 k2 k3 k4 k5 n0 n1
  refine tk 0 (oi := ⟨some 150, _, _, _, _, _⟩) rfl ?_
  refine tk 1 (oi := ⟨some 151, _, _, _, _, _⟩) rfl ?_
  refine tk 2 (oi := ⟨some 152, _, _, _, _, _⟩) rfl ?_
  refine tk 3 (oi := ⟨some 153, _, _, _, _, _⟩) rfl ?_
  refine tk 4 (oi := ⟨some 154, _, _, _, _, _⟩) rfl ?_
  refine tk 5 (oi := ⟨some 155, _, _, _, _, _⟩) rfl ?_
  refine tk 6 (oi := ⟨some 156, _, _, _, _, _⟩) rfl ?_
  refine rD 7 (o := ⟨some 157, _, _, _, _, _⟩) rfl (fun K hK => ?_)
  go_simp
  refine (ntake_any wd gd o0 B d.v d.l false n (HDD.out.blk.cell 2) (HDD.out.blk.cell 3) (fun i => HDD.out.blk.free i) HDD.out.n HDD.out.og sBd (by have := IV.out.nl false; omega)).mono ?_
  rintro e w2 (⟨hno, rfl, rfl⟩ | ⟨i, y, vy, hin, hy, hvy, rfl, hset⟩)
  ·refine Ko hK ⟨BXD.out.cell 1, BXD.out.cell 2⟩ (fun hHeld => ?_)
   clear hK K
   refine tk 8 (oi := ⟨some 149, _, _, _, _, _⟩) rfl ?_
   refine tk 9 (oi := ⟨some 158, _, _, _, _, _⟩) rfl ?_
   refine tk 10 (oi := ⟨some 159, _, _, _, _, _⟩) rfl ?_
   refine tk 11 (oi := ⟨some 13, _, _, _, _, _⟩) rfl ?_
   refine tk 12 (oi := ⟨some 14, _, _, _, _, _⟩) rfl ?_
   refine dn ?_
   clear hHeld hno
   have R : Hid (Stp (fun _ => False) o o0 w wd) := SD
   go_wp2_with fail
   go_ret
   exact ⟨_, rfl, DuR.rest hN (SD.out.mono (fun _ h => h.elim)) HDD.out IV.out⟩
  ·obtain ⟨o2, v2, h2, s2⟩ := HDD.out.putN hset
   have H2 := hid h2
   have S2 := hid s2
   have BX2 := hid (BXD.out.frm s2.f (by rw [og]; simp [sN]))
   have VY := hid (BV.stpK hvy s2 (by omega))
   have HYM := hid (List.mem_of_getElem? hy)
   have I2 := hid (IV.out.netw (s := false) (l' := (d.l false).take i ++ (d.l false).drop (i + 1)) (up d.v false v2) (by have := IV.out.nl false; rw [List.length_append, List.length_take, List.length_drop]; omega) (fun z hz => IV.out.net false z (by
    rcases List.mem_append.1 hz with h | h
    ·exact List.mem_of_mem_take h
    ·exact List.mem_of_mem_drop h)))
   have SA : Hid (Stp DC o o2 w w2) := hid ((SD.out.mono (fun _ h => h.elim)).trans (s2.mono IN.out))
   obtain ⟨Ay, cy, rfl, _, _⟩ := hvy.len
   clear h2 s2 hset hy hvy hin
   refine Ko hK ⟨BX2.out.cell 1, BX2.out.cell 2⟩ (fun hHeld => ?_)
   clear hK K
   refine tk 8 (oi := ⟨some 149, _, _, _, _, _⟩) rfl ?_
   refine tk 9 (oi := ⟨some 158, _, _, _, _, _⟩) rfl ?_
   refine tk 10 (oi := ⟨some 159, _, _, _, _, _⟩) rfl ?_
   refine tk 11 (oi := ⟨some 13, _, _, _, _, _⟩) rfl ?_
   refine tk 12 (oi := ⟨some 14, _, _, _, _, _⟩) rfl ?_
   refine dn ?_
   clear hHeld
   go_wp2_with fail
   go_ret
   exact ⟨_, rfl, DuR.rest hN SA.out H2.out I2.out⟩
 case true =>
  have e0 : sI true = 1 := rfl
  rw [e0] at hw0' k1 BX ⊢
  clear e0
  go_enter Tryz.func31, Tryz.ntmps31
  go_wp2_with fail
  clear hw0' hgs'
  go_quiet (fail)
  obtain ⟨wb, hwb⟩ := lx (w0.drewN nq)
  rw [← hwb]
  have GB : Hid (Below w0.heap.size w0 wb) := hid (by rw [hwb]; exact below_drewN (Below.refl _ _) _)
  have SB : Hid (Stp (fun _ => False) o o0 w wb) := hid (S0.out.trans (Stp.below GB.out))
  have HD := hid (H0.out.below GB.out)
  have VB := hid (V0.out.below GB.out)
  have BXB := hid (BX.out.below GB.out)
  have sBb : B ≤ wb.heap.size := Nat.le_trans sB GB.out.size
  clear hwb H0 V0 BX k0 k1 k2 k3 k4 k5 n0 n1
  have k0 := BXB.out.cell 0
  have k1 := BXB.out.cell 1
  have k2 := BXB.out.cell 2
  have k3 := BXB.out.cell 3
  have k4 := BXB.out.cell 4
  have k5 := BXB.out.cell 5
  have n0 := HD.out.blk.cell 0
  have n1 := HD.out.blk.cell 1
  simp only [gA, gZ, gC] at k0 k1 k2 k3 k4 k5 n0 n1
  go_wp2_with fail
  refine wp_region_held_drew (S := fun w' => w'.cell? ⟨gs, 1, none⟩ = some (.int .i64 1) ∧ w'.cell? ⟨gs, 2, none⟩ = some (.int .i64 n)) (by kernel_rfl) ⟨k1, k2⟩ (fun hHeld => ?_)
  obtain ⟨wd, hwd⟩ := lx (wb.drew)
  have GD : Hid (Below wb.heap.size wb wd) := hid (by rw [hwd]; exact bD)
  have HDD := hid (HD.out.below GD.out)
  have BXD := hid (BXB.out.below GD.out)
  have sBd : B ≤ wd.heap.size := Nat.le_trans sBb GD.out.size
  have SD := hid (SB.out.trans (Stp.below GD.out))
  have IN : Hid (∀ c, (c = 300 ∨ c = 302 + sN true) → DC c) := hid (fun c hc => by rcases hc with rfl | rfl <;> simp [DC, sN])
  rw [← hwd] at hHeld ⊢
  clear hwd k0 k1 k2 k3 k4 k5 n0 n1
  refine tk 0 (oi := ⟨some 150, _, _, _, _, _⟩) rfl ?_
  refine tk 1 (oi := ⟨some 151, _, _, _, _, _⟩) rfl ?_
  refine tk 2 (oi := ⟨some 152, _, _, _, _, _⟩) rfl ?_
  refine tk 3 (oi := ⟨some 153, _, _, _, _, _⟩) rfl ?_
  refine tk 4 (oi := ⟨some 154, _, _, _, _, _⟩) rfl ?_
  refine tk 5 (oi := ⟨some 155, _, _, _, _, _⟩) rfl ?_
  refine tk 6 (oi := ⟨some 156, _, _, _, _, _⟩) rfl ?_
  refine rD 7 (o := ⟨some 157, _, _, _, _, _⟩) rfl (fun K hK => ?_)
  go_simp
  refine (ntake_any wd gd o0 B d.v d.l true n (HDD.out.blk.cell 2) (HDD.out.blk.cell 3) (fun i => HDD.out.blk.free i) HDD.out.n HDD.out.og sBd (by have := IV.out.nl true; omega)).mono ?_
  rintro e w2 (⟨hno, rfl, rfl⟩ | ⟨i, y, vy, hin, hy, hvy, rfl, hset⟩)
  ·refine Ko hK ⟨BXD.out.cell 1, BXD.out.cell 2⟩ (fun hHeld => ?_)
   clear hK K
   refine tk 8 (oi := ⟨some 149, _, _, _, _, _⟩) rfl ?_
   refine tk 9 (oi := ⟨some 158, _, _, _, _, _⟩) rfl ?_
   refine tk 10 (oi := ⟨some 159, _, _, _, _, _⟩) rfl ?_
   refine tk 11 (oi := ⟨some 13, _, _, _, _, _⟩) rfl ?_
   refine tk 12 (oi := ⟨some 14, _, _, _, _, _⟩) rfl ?_
   refine dn ?_
   clear hHeld hno
   have R : Hid (Stp (fun _ => False) o o0 w wd) := SD
   go_wp2_with fail
   go_ret
   exact ⟨_, rfl, DuR.rest hN (SD.out.mono (fun _ h => h.elim)) HDD.out IV.out⟩
  ·obtain ⟨o2, v2, h2, s2⟩ := HDD.out.putN hset
   have H2 := hid h2
   have S2 := hid s2
   have BX2 := hid (BXD.out.frm s2.f (by rw [og]; simp [sN]))
   have VY := hid (BV.stpK hvy s2 (by omega))
   have HYM := hid (List.mem_of_getElem? hy)
   have I2 := hid (IV.out.netw (s := true) (l' := (d.l true).take i ++ (d.l true).drop (i + 1)) (up d.v true v2) (by have := IV.out.nl true; rw [List.length_append, List.length_take, List.length_drop]; omega) (fun z hz => IV.out.net true z (by
    rcases List.mem_append.1 hz with h | h
    ·exact List.mem_of_mem_take h
    ·exact List.mem_of_mem_drop h)))
   have SA : Hid (Stp DC o o2 w w2) := hid ((SD.out.mono (fun _ h => h.elim)).trans (s2.mono IN.out))
   obtain ⟨Ay, cy, rfl, _, _⟩ := hvy.len
   clear h2 s2 hset hy hvy hin
   refine Ko hK ⟨BX2.out.cell 1, BX2.out.cell 2⟩ (fun hHeld => ?_)
   clear hK K
   refine tk 8 (oi := ⟨some 149, _, _, _, _, _⟩) rfl ?_
   refine tk 9 (oi := ⟨some 158, _, _, _, _, _⟩) rfl ?_
   refine tk 10 (oi := ⟨some 159, _, _, _, _, _⟩) rfl ?_
   refine tk 11 (oi := ⟨some 13, _, _, _, _, _⟩) rfl ?_
   refine tk 12 (oi := ⟨some 14, _, _, _, _, _⟩) rfl ?_
   refine dn ?_
   clear hHeld
   go_wp2_with fail
   go_ret
   exact ⟨_, rfl, DuR.rest hN SA.out H2.out I2.out⟩
set_option maxHeartbeats 16000000 in
set_option maxRecDepth 100000 in
theorem do_k9 (o : Nat → Nat) (B : Nat) (w : World) (gd N : Nat) (d : DuV) (wl : List (Int × Ev)) (s : Bool) (n bit mask : Int) (v : Value) (l : List Int) (h : DuS o B w gd d) (hi : DInv (fun _ => N) d wl) (hN : N + 500000 ≤ 40000000) (hB : B ≤ w.heap.size) (hv : BV w (frozen o) v l) (hl : l.length ≤ 1000000) :
  Calls Tryz.prog 31 #[.pointer (some ⟨gd, 0, none⟩), .agg #[.int .i64 9, .int .i64 (sI s), .int .i64 n, .int .i64 bit, .int .u32 mask, v]] w fun e w' => DoR o B w gd N d wl e w' := by
 obtain ⟨Av, cv, rfl, _, _⟩ := hv.len
 obtain ⟨w0, hw0⟩ := lx (w.alloc (.cells #[.int .i64 9, .int .i64 (sI s), .int .i64 n, .int .i64 bit, .int .u32 mask, .slice Av l.length cv] 61))
 obtain ⟨gs, hgs⟩ := lx (w.heap.size)
 have B0 : Hid (Below w.heap.size w w0) := hid (by rw [hw0]; exact ba)
 have BX : Hid (Blk w0 gs #[.int .i64 9, .int .i64 (sI s), .int .i64 n, .int .i64 bit, .int .u32 mask, .slice Av l.length cv] 61) := hid (by rw [hw0, hgs]; exact Blk.new _ _ _)
 have S0 : Hid (Stp (fun _ => False) o (scr o w.heap.size 0) w w0) := hid ⟨Frm.of_below B0.out, scr_agr _ _ _⟩
 have og : scr o w.heap.size 0 gs = 0 := by rw [hgs]; exact scr_new (Nat.le_refl _)
 obtain ⟨o0, ho0⟩ := lx (scr o w.heap.size 0)
 rw [← ho0] at S0 og
 have H0 := hid (h.frm S0.out (fun h => h) (fun _ h => h.elim))
 have V0 : Hid (BV w0 (frozen o0) (.slice Av l.length cv) l) := hid (BV.stpK hv S0.out (fun h => h))
 have IV := hid hi
 have hw0' := hw0.symm
 have hgs' := hgs.symm
 have sB : B ≤ w0.heap.size := Nat.le_trans hB B0.out.size
 have k0 := BX.out.cell 0
 have k1 := BX.out.cell 1
 have k2 := BX.out.cell 2
 have k3 := BX.out.cell 3
 have k4 := BX.out.cell 4
 have k5 := BX.out.cell 5
 have n0 := H0.out.blk.cell 0
 have n1 := H0.out.blk.cell 1
 simp only [gA, gZ, gC] at k0 k1 k2 k3 k4 k5 n0 n1
 clear h hi hv hw0 hgs ho0
 cases s
 case false =>
  have e0 : sI false = 0 := rfl
  rw [e0] at hw0' k1 BX ⊢
  clear e0
  go_enter Tryz.func31, Tryz.ntmps31
  go_wp2_with fail
  clear hw0' hgs'
  go_quiet (fail)
  obtain ⟨wb, hwb⟩ := lx (w0.drewN nq)
  rw [← hwb]
  have GB : Hid (Below w0.heap.size w0 wb) := hid (by rw [hwb]; exact below_drewN (Below.refl _ _) _)
  have SB : Hid (Stp (fun _ => False) o o0 w wb) := hid (S0.out.trans (Stp.below GB.out))
  have HD := hid (H0.out.below GB.out)
  have VB := hid (V0.out.below GB.out)
  have BXB := hid (BX.out.below GB.out)
  have sBb : B ≤ wb.heap.size := Nat.le_trans sB GB.out.size
  clear hwb H0 V0 BX k0 k1 k2 k3 k4 k5 n0 n1
  have k0 := BXB.out.cell 0
  have k1 := BXB.out.cell 1
  have k2 := BXB.out.cell 2
  have k3 := BXB.out.cell 3
  have k4 := BXB.out.cell 4
  have k5 := BXB.out.cell 5
  have n0 := HD.out.blk.cell 0
  have n1 := HD.out.blk.cell 1
  simp only [gA, gZ, gC] at k0 k1 k2 k3 k4 k5 n0 n1
  go_wp2_with fail
  refine wp_region_held_drew (S := fun w' => w'.cell? ⟨gs, 1, none⟩ = some (.int .i64 0) ∧ w'.cell? ⟨gs, 2, none⟩ = some (.int .i64 n)) (by kernel_rfl) ⟨k1, k2⟩ (fun hHeld => ?_)
  obtain ⟨wd, hwd⟩ := lx (wb.drew)
  have GD : Hid (Below wb.heap.size wb wd) := hid (by rw [hwd]; exact bD)
  have HDD := hid (HD.out.below GD.out)
  have BXD := hid (BXB.out.below GD.out)
  have sBd : B ≤ wd.heap.size := Nat.le_trans sBb GD.out.size
  have SD := hid (SB.out.trans (Stp.below GD.out))
  have IN : Hid (∀ c, (c = 300 ∨ c = 302 + sN false) → DC c) := hid (fun c hc => by rcases hc with rfl | rfl <;> simp [DC, sN])
  rw [← hwd] at hHeld ⊢
  clear hwd k0 k1 k2 k3 k4 k5 n0 n1
  refine tk 0 (oi := ⟨some 163, _, _, _, _, _⟩) rfl ?_
  refine tk 1 (oi := ⟨some 164, _, _, _, _, _⟩) rfl ?_
  refine tk 2 (oi := ⟨some 165, _, _, _, _, _⟩) rfl ?_
  refine tk 3 (oi := ⟨some 166, _, _, _, _, _⟩) rfl ?_
  refine tk 4 (oi := ⟨some 167, _, _, _, _, _⟩) rfl ?_
  refine tk 5 (oi := ⟨some 168, _, _, _, _, _⟩) rfl ?_
  refine tk 6 (oi := ⟨some 169, _, _, _, _, _⟩) rfl ?_
  refine rD 7 (o := ⟨some 170, _, _, _, _, _⟩) rfl (fun K hK => ?_)
  go_simp
  refine (nagain_any wd gd o0 B d.v d.l false n (HDD.out.blk.cell 2) (HDD.out.blk.cell 3) (fun i => HDD.out.blk.free i) HDD.out.n (HDD.out.no false) HDD.out.og sBd).mono ?_
  rintro e w2 ⟨q, rfl, hq⟩
  have R : Hid (DuR o B w gd N w2 ∧ w2.cell? ⟨gs, 1, none⟩ = some (.int .i64 0) ∧ w2.cell? ⟨gs, 2, none⟩ = some (.int .i64 n)) := hid (by
   rcases hq with rfl | ⟨i, y, hy, h200, hset⟩
   ·exact ⟨DuR.rest hN (SD.out.mono (fun _ h => h.elim)) HDD.out IV.out, BXD.out.cell 1, BXD.out.cell 2⟩
   ·obtain ⟨o2, v2, h2, s2⟩ := HDD.out.putN hset
    have b2 := BXD.out.frm s2.f (by rw [og]; simp [sN])
    refine ⟨DuR.rest hN ((SD.out.mono (fun _ h => h.elim)).trans (s2.mono IN.out)) h2 (IV.out.netw _ (by rw [List.length_append]; exact h200) (fun z hz => ?_)), b2.cell 1, b2.cell 2⟩
    rcases List.mem_append.1 hz with h | h
    ·exact IV.out.net false z h
    ·rw [List.mem_singleton.1 h]; exact IV.out.net false y (List.mem_of_getElem? hy))
  clear hq
  refine Ko hK R.out.2 (fun hHeld => ?_)
  clear hK K
  refine tk 8 (oi := ⟨some 4, _, _, _, _, _⟩) rfl ?_
  refine dn ?_
  clear hHeld
  go_wp2_with fail
  go_ret
  exact ⟨_, rfl, R.out.1⟩
 case true =>
  have e0 : sI true = 1 := rfl
  rw [e0] at hw0' k1 BX ⊢
  clear e0
  go_enter Tryz.func31, Tryz.ntmps31
  go_wp2_with fail
  clear hw0' hgs'
  go_quiet (fail)
  obtain ⟨wb, hwb⟩ := lx (w0.drewN nq)
  rw [← hwb]
  have GB : Hid (Below w0.heap.size w0 wb) := hid (by rw [hwb]; exact below_drewN (Below.refl _ _) _)
  have SB : Hid (Stp (fun _ => False) o o0 w wb) := hid (S0.out.trans (Stp.below GB.out))
  have HD := hid (H0.out.below GB.out)
  have VB := hid (V0.out.below GB.out)
  have BXB := hid (BX.out.below GB.out)
  have sBb : B ≤ wb.heap.size := Nat.le_trans sB GB.out.size
  clear hwb H0 V0 BX k0 k1 k2 k3 k4 k5 n0 n1
  have k0 := BXB.out.cell 0
  have k1 := BXB.out.cell 1
  have k2 := BXB.out.cell 2
  have k3 := BXB.out.cell 3
  have k4 := BXB.out.cell 4
  have k5 := BXB.out.cell 5
  have n0 := HD.out.blk.cell 0
  have n1 := HD.out.blk.cell 1
  simp only [gA, gZ, gC] at k0 k1 k2 k3 k4 k5 n0 n1
  go_wp2_with fail
  refine wp_region_held_drew (S := fun w' => w'.cell? ⟨gs, 1, none⟩ = some (.int .i64 1) ∧ w'.cell? ⟨gs, 2, none⟩ = some (.int .i64 n)) (by kernel_rfl) ⟨k1, k2⟩ (fun hHeld => ?_)
  obtain ⟨wd, hwd⟩ := lx (wb.drew)
  have GD : Hid (Below wb.heap.size wb wd) := hid (by rw [hwd]; exact bD)
  have HDD := hid (HD.out.below GD.out)
  have BXD := hid (BXB.out.below GD.out)
  have sBd : B ≤ wd.heap.size := Nat.le_trans sBb GD.out.size
  have SD := hid (SB.out.trans (Stp.below GD.out))
  have IN : Hid (∀ c, (c = 300 ∨ c = 302 + sN true) → DC c) := hid (fun c hc => by rcases hc with rfl | rfl <;> simp [DC, sN])
  rw [← hwd] at hHeld ⊢
  clear hwd k0 k1 k2 k3 k4 k5 n0 n1
  refine tk 0 (oi := ⟨some 163, _, _, _, _, _⟩) rfl ?_
  refine tk 1 (oi := ⟨some 164, _, _, _, _, _⟩) rfl ?_
  refine tk 2 (oi := ⟨some 165, _, _, _, _, _⟩) rfl ?_
  refine tk 3 (oi := ⟨some 166, _, _, _, _, _⟩) rfl ?_
  refine tk 4 (oi := ⟨some 167, _, _, _, _, _⟩) rfl ?_
  refine tk 5 (oi := ⟨some 168, _, _, _, _, _⟩) rfl ?_
  refine tk 6 (oi := ⟨some 169, _, _, _, _, _⟩) rfl ?_
  refine rD 7 (o := ⟨some 170, _, _, _, _, _⟩) rfl (fun K hK => ?_)
  go_simp
  refine (nagain_any wd gd o0 B d.v d.l true n (HDD.out.blk.cell 2) (HDD.out.blk.cell 3) (fun i => HDD.out.blk.free i) HDD.out.n (HDD.out.no true) HDD.out.og sBd).mono ?_
  rintro e w2 ⟨q, rfl, hq⟩
  have R : Hid (DuR o B w gd N w2 ∧ w2.cell? ⟨gs, 1, none⟩ = some (.int .i64 1) ∧ w2.cell? ⟨gs, 2, none⟩ = some (.int .i64 n)) := hid (by
   rcases hq with rfl | ⟨i, y, hy, h200, hset⟩
   ·exact ⟨DuR.rest hN (SD.out.mono (fun _ h => h.elim)) HDD.out IV.out, BXD.out.cell 1, BXD.out.cell 2⟩
   ·obtain ⟨o2, v2, h2, s2⟩ := HDD.out.putN hset
    have b2 := BXD.out.frm s2.f (by rw [og]; simp [sN])
    refine ⟨DuR.rest hN ((SD.out.mono (fun _ h => h.elim)).trans (s2.mono IN.out)) h2 (IV.out.netw _ (by rw [List.length_append]; exact h200) (fun z hz => ?_)), b2.cell 1, b2.cell 2⟩
    rcases List.mem_append.1 hz with h | h
    ·exact IV.out.net true z h
    ·rw [List.mem_singleton.1 h]; exact IV.out.net true y (List.mem_of_getElem? hy))
  clear hq
  refine Ko hK R.out.2 (fun hHeld => ?_)
  clear hK K
  refine tk 8 (oi := ⟨some 4, _, _, _, _, _⟩) rfl ?_
  refine dn ?_
  clear hHeld
  go_wp2_with fail
  go_ret
  exact ⟨_, rfl, R.out.1⟩
set_option maxHeartbeats 16000000 in
set_option maxRecDepth 100000 in
theorem do_k10 (o : Nat → Nat) (B : Nat) (w : World) (gd N : Nat) (d : DuV) (wl : List (Int × Ev)) (s : Bool) (n bit mask : Int) (v : Value) (l : List Int) (h : DuS o B w gd d) (hi : DInv (fun _ => N) d wl) (hN : N + 500000 ≤ 40000000) (hB : B ≤ w.heap.size) (hv : BV w (frozen o) v l) (hl : l.length ≤ 1000000) :
  Calls Tryz.prog 31 #[.pointer (some ⟨gd, 0, none⟩), .agg #[.int .i64 10, .int .i64 (sI s), .int .i64 n, .int .i64 bit, .int .u32 mask, v]] w fun e w' => DoR o B w gd N d wl e w' := by
 obtain ⟨Av, cv, rfl, _, _⟩ := hv.len
 obtain ⟨w0, hw0⟩ := lx (w.alloc (.cells #[.int .i64 10, .int .i64 (sI s), .int .i64 n, .int .i64 bit, .int .u32 mask, .slice Av l.length cv] 61))
 obtain ⟨gs, hgs⟩ := lx (w.heap.size)
 have B0 : Hid (Below w.heap.size w w0) := hid (by rw [hw0]; exact ba)
 have BX : Hid (Blk w0 gs #[.int .i64 10, .int .i64 (sI s), .int .i64 n, .int .i64 bit, .int .u32 mask, .slice Av l.length cv] 61) := hid (by rw [hw0, hgs]; exact Blk.new _ _ _)
 have S0 : Hid (Stp (fun _ => False) o (scr o w.heap.size 0) w w0) := hid ⟨Frm.of_below B0.out, scr_agr _ _ _⟩
 have og : scr o w.heap.size 0 gs = 0 := by rw [hgs]; exact scr_new (Nat.le_refl _)
 obtain ⟨o0, ho0⟩ := lx (scr o w.heap.size 0)
 rw [← ho0] at S0 og
 have H0 := hid (h.frm S0.out (fun h => h) (fun _ h => h.elim))
 have V0 : Hid (BV w0 (frozen o0) (.slice Av l.length cv) l) := hid (BV.stpK hv S0.out (fun h => h))
 have IV := hid hi
 have hw0' := hw0.symm
 have hgs' := hgs.symm
 have sB : B ≤ w0.heap.size := Nat.le_trans hB B0.out.size
 have k0 := BX.out.cell 0
 have k1 := BX.out.cell 1
 have k2 := BX.out.cell 2
 have k3 := BX.out.cell 3
 have k4 := BX.out.cell 4
 have k5 := BX.out.cell 5
 have n0 := H0.out.blk.cell 0
 have n1 := H0.out.blk.cell 1
 simp only [gA, gZ, gC] at k0 k1 k2 k3 k4 k5 n0 n1
 clear h hi hv hw0 hgs ho0
 cases s
 case false =>
  have e0 : sI false = 0 := rfl
  rw [e0] at hw0' k1 BX ⊢
  clear e0
  go_enter Tryz.func31, Tryz.ntmps31
  go_wp2_with fail
  clear hw0' hgs'
  go_quiet (fail)
  obtain ⟨wb, hwb⟩ := lx (w0.drewN nq)
  rw [← hwb]
  have GB : Hid (Below w0.heap.size w0 wb) := hid (by rw [hwb]; exact below_drewN (Below.refl _ _) _)
  have SB : Hid (Stp (fun _ => False) o o0 w wb) := hid (S0.out.trans (Stp.below GB.out))
  have HD := hid (H0.out.below GB.out)
  have VB := hid (V0.out.below GB.out)
  have BXB := hid (BX.out.below GB.out)
  have sBb : B ≤ wb.heap.size := Nat.le_trans sB GB.out.size
  clear hwb H0 V0 BX k0 k1 k2 k3 k4 k5 n0 n1
  have k0 := BXB.out.cell 0
  have k1 := BXB.out.cell 1
  have k2 := BXB.out.cell 2
  have k3 := BXB.out.cell 3
  have k4 := BXB.out.cell 4
  have k5 := BXB.out.cell 5
  have n0 := HD.out.blk.cell 0
  have n1 := HD.out.blk.cell 1
  simp only [gA, gZ, gC] at k0 k1 k2 k3 k4 k5 n0 n1
  go_wp2_with fail
  refine wp_region_held_drew (S := fun w' => w'.cell? ⟨gs, 1, none⟩ = some (.int .i64 0) ∧ w'.cell? ⟨gs, 2, none⟩ = some (.int .i64 n) ∧ w'.cell? ⟨gs, 3, none⟩ = some (.int .i64 bit) ∧ w'.cell? ⟨gs, 4, none⟩ = some (.int .u32 mask)) (by kernel_rfl) ⟨k1, k2, k3, k4⟩ (fun hHeld => ?_)
  obtain ⟨wd, hwd⟩ := lx (wb.drew)
  have GD : Hid (Below wb.heap.size wb wd) := hid (by rw [hwd]; exact bD)
  have HDD := hid (HD.out.below GD.out)
  have BXD := hid (BXB.out.below GD.out)
  have sBd : B ≤ wd.heap.size := Nat.le_trans sBb GD.out.size
  have SD := hid (SB.out.trans (Stp.below GD.out))
  have IN : Hid (∀ c, (c = 300 ∨ c = 302 + sN false) → DC c) := hid (fun c hc => by rcases hc with rfl | rfl <;> simp [DC, sN])
  rw [← hwd] at hHeld ⊢
  clear hwd k0 k1 k2 k3 k4 k5 n0 n1
  refine tk 0 (oi := ⟨some 173, _, _, _, _, _⟩) rfl ?_
  refine tk 1 (oi := ⟨some 174, _, _, _, _, _⟩) rfl ?_
  refine tk 2 (oi := ⟨some 175, _, _, _, _, _⟩) rfl ?_
  refine tk 3 (oi := ⟨some 176, _, _, _, _, _⟩) rfl ?_
  refine tk 4 (oi := ⟨some 177, _, _, _, _, _⟩) rfl ?_
  refine tk 5 (oi := ⟨some 178, _, _, _, _, _⟩) rfl ?_
  refine tk 6 (oi := ⟨some 179, _, _, _, _, _⟩) rfl ?_
  refine tk 7 (oi := ⟨some 180, _, _, _, _, _⟩) rfl ?_
  refine tk 8 (oi := ⟨some 181, _, _, _, _, _⟩) rfl ?_
  refine tk 9 (oi := ⟨some 182, _, _, _, _, _⟩) rfl ?_
  refine tk 10 (oi := ⟨some 183, _, _, _, _, _⟩) rfl ?_
  refine rD 11 (o := ⟨some 184, _, _, _, _, _⟩) rfl (fun K hK => ?_)
  go_simp
  refine (nspoil_any wd gd o0 B d.v d.l false n bit mask (HDD.out.blk.cell 2) (HDD.out.blk.cell 3) (fun i => HDD.out.blk.free i) HDD.out.n HDD.out.og sBd (by have := IV.out.nl false; omega) (fun y hy => by have := (IV.out.net false y hy).len; omega)).mono ?_
  rintro e w2 ⟨q, rfl, hq⟩
  have R : Hid (DuR o B w gd N w2 ∧ w2.cell? ⟨gs, 1, none⟩ = some (.int .i64 0) ∧ w2.cell? ⟨gs, 2, none⟩ = some (.int .i64 n) ∧ w2.cell? ⟨gs, 3, none⟩ = some (.int .i64 bit) ∧ w2.cell? ⟨gs, 4, none⟩ = some (.int .u32 mask)) := hid (by
   rcases hq with hb | ⟨i, y, hy, hne, hset⟩
   ·have b2 := BXD.out.below hb
    exact ⟨DuR.rest hN ((SD.out.trans (Stp.below hb)).mono (fun _ h => h.elim)) (HDD.out.below hb) IV.out, b2.cell 1, b2.cell 2, b2.cell 3, b2.cell 4⟩
   ·obtain ⟨o2, v2, h2, s2⟩ := HDD.out.putN hset
    have b2 := BXD.out.frm s2.f (by rw [og]; simp [sN])
    refine ⟨DuR.rest hN ((SD.out.mono (fun _ h => h.elim)).trans (s2.mono IN.out)) h2 (IV.out.netw _ (by rw [List.length_set]; exact IV.out.nl false) (fun z hz => ?_)), b2.cell 1, b2.cell 2, b2.cell 3, b2.cell 4⟩
    rcases List.mem_or_eq_of_mem_set hz with h | h
    ·exact IV.out.net false z h
    ·rw [h]; exact (IV.out.net false _ (List.mem_of_getElem? hy)).spoil hne)
  clear hq
  refine Ko hK R.out.2 (fun hHeld => ?_)
  clear hK K
  refine tk 12 (oi := ⟨some 4, _, _, _, _, _⟩) rfl ?_
  refine dn ?_
  clear hHeld
  go_wp2_with fail
  go_ret
  exact ⟨_, rfl, R.out.1⟩
 case true =>
  have e0 : sI true = 1 := rfl
  rw [e0] at hw0' k1 BX ⊢
  clear e0
  go_enter Tryz.func31, Tryz.ntmps31
  go_wp2_with fail
  clear hw0' hgs'
  go_quiet (fail)
  obtain ⟨wb, hwb⟩ := lx (w0.drewN nq)
  rw [← hwb]
  have GB : Hid (Below w0.heap.size w0 wb) := hid (by rw [hwb]; exact below_drewN (Below.refl _ _) _)
  have SB : Hid (Stp (fun _ => False) o o0 w wb) := hid (S0.out.trans (Stp.below GB.out))
  have HD := hid (H0.out.below GB.out)
  have VB := hid (V0.out.below GB.out)
  have BXB := hid (BX.out.below GB.out)
  have sBb : B ≤ wb.heap.size := Nat.le_trans sB GB.out.size
  clear hwb H0 V0 BX k0 k1 k2 k3 k4 k5 n0 n1
  have k0 := BXB.out.cell 0
  have k1 := BXB.out.cell 1
  have k2 := BXB.out.cell 2
  have k3 := BXB.out.cell 3
  have k4 := BXB.out.cell 4
  have k5 := BXB.out.cell 5
  have n0 := HD.out.blk.cell 0
  have n1 := HD.out.blk.cell 1
  simp only [gA, gZ, gC] at k0 k1 k2 k3 k4 k5 n0 n1
  go_wp2_with fail
  refine wp_region_held_drew (S := fun w' => w'.cell? ⟨gs, 1, none⟩ = some (.int .i64 1) ∧ w'.cell? ⟨gs, 2, none⟩ = some (.int .i64 n) ∧ w'.cell? ⟨gs, 3, none⟩ = some (.int .i64 bit) ∧ w'.cell? ⟨gs, 4, none⟩ = some (.int .u32 mask)) (by kernel_rfl) ⟨k1, k2, k3, k4⟩ (fun hHeld => ?_)
  obtain ⟨wd, hwd⟩ := lx (wb.drew)
  have GD : Hid (Below wb.heap.size wb wd) := hid (by rw [hwd]; exact bD)
  have HDD := hid (HD.out.below GD.out)
  have BXD := hid (BXB.out.below GD.out)
  have sBd : B ≤ wd.heap.size := Nat.le_trans sBb GD.out.size
  have SD := hid (SB.out.trans (Stp.below GD.out))
  have IN : Hid (∀ c, (c = 300 ∨ c = 302 + sN true) → DC c) := hid (fun c hc => by rcases hc with rfl | rfl <;> simp [DC, sN])
  rw [← hwd] at hHeld ⊢
  clear hwd k0 k1 k2 k3 k4 k5 n0 n1
  refine tk 0 (oi := ⟨some 173, _, _, _, _, _⟩) rfl ?_
  refine tk 1 (oi := ⟨some 174, _, _, _, _, _⟩) rfl ?_
  refine tk 2 (oi := ⟨some 175, _, _, _, _, _⟩) rfl ?_
  refine tk 3 (oi := ⟨some 176, _, _, _, _, _⟩) rfl ?_
  refine tk 4 (oi := ⟨some 177, _, _, _, _, _⟩) rfl ?_
  refine tk 5 (oi := ⟨some 178, _, _, _, _, _⟩) rfl ?_
  refine tk 6 (oi := ⟨some 179, _, _, _, _, _⟩) rfl ?_
  refine tk 7 (oi := ⟨some 180, _, _, _, _, _⟩) rfl ?_
  refine tk 8 (oi := ⟨some 181, _, _, _, _, _⟩) rfl ?_
  refine tk 9 (oi := ⟨some 182, _, _, _, _, _⟩) rfl ?_
  refine tk 10 (oi := ⟨some 183, _, _, _, _, _⟩) rfl ?_
  refine rD 11 (o := ⟨some 184, _, _, _, _, _⟩) rfl (fun K hK => ?_)
  go_simp
  refine (nspoil_any wd gd o0 B d.v d.l true n bit mask (HDD.out.blk.cell 2) (HDD.out.blk.cell 3) (fun i => HDD.out.blk.free i) HDD.out.n HDD.out.og sBd (by have := IV.out.nl true; omega) (fun y hy => by have := (IV.out.net true y hy).len; omega)).mono ?_
  rintro e w2 ⟨q, rfl, hq⟩
  have R : Hid (DuR o B w gd N w2 ∧ w2.cell? ⟨gs, 1, none⟩ = some (.int .i64 1) ∧ w2.cell? ⟨gs, 2, none⟩ = some (.int .i64 n) ∧ w2.cell? ⟨gs, 3, none⟩ = some (.int .i64 bit) ∧ w2.cell? ⟨gs, 4, none⟩ = some (.int .u32 mask)) := hid (by
   rcases hq with hb | ⟨i, y, hy, hne, hset⟩
   ·have b2 := BXD.out.below hb
    exact ⟨DuR.rest hN ((SD.out.trans (Stp.below hb)).mono (fun _ h => h.elim)) (HDD.out.below hb) IV.out, b2.cell 1, b2.cell 2, b2.cell 3, b2.cell 4⟩
   ·obtain ⟨o2, v2, h2, s2⟩ := HDD.out.putN hset
    have b2 := BXD.out.frm s2.f (by rw [og]; simp [sN])
    refine ⟨DuR.rest hN ((SD.out.mono (fun _ h => h.elim)).trans (s2.mono IN.out)) h2 (IV.out.netw _ (by rw [List.length_set]; exact IV.out.nl true) (fun z hz => ?_)), b2.cell 1, b2.cell 2, b2.cell 3, b2.cell 4⟩
    rcases List.mem_or_eq_of_mem_set hz with h | h
    ·exact IV.out.net true z h
    ·rw [h]; exact (IV.out.net true _ (List.mem_of_getElem? hy)).spoil hne)
  clear hq
  refine Ko hK R.out.2 (fun hHeld => ?_)
  clear hK K
  refine tk 12 (oi := ⟨some 4, _, _, _, _, _⟩) rfl ?_
  refine dn ?_
  clear hHeld
  go_wp2_with fail
  go_ret
  exact ⟨_, rfl, R.out.1⟩
end
end Go.Proofs.YtdneakejlbabeaaGreat
