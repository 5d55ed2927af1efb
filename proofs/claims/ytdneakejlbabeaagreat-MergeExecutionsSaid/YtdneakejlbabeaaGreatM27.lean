/- Parts of the walk: Ue. -/
import Derived.Test.YtdneakejlbabeaaGreatM26
namespace Go.Proofs.YtdneakejlbabeaaGreat
open Go.RowKit
set_option linter.unusedVariables false
set_option linter.unusedSimpArgs false

set_option maxHeartbeats 16000000 in
set_option maxRecDepth 100000 in
theorem do_k7 (o : Nat → Nat) (B : Nat) (w : World) (gd N : Nat) (d : DuV) (wl : List (Int × Ev)) (s : Bool) (n bit mask : Int) (v : Value) (l : List Int) (h : DuS o B w gd d) (hi : DInv (fun _ => N) d wl) (hN : N + 500000 ≤ 40000000) (hB : B ≤ w.heap.size) (hv : BV w (frozen o) v l) (hl : l.length ≤ 1000000) :
    Calls Tryz.prog 31 #[.pointer (some ⟨gd, 0, none⟩), .agg #[.int .i64 7, .int .i64 (sI s), .int .i64 n, .int .i64 bit, .int .u32 mask, v]] w fun e w' => DoR o B w gd N d wl e w' := by
  obtain ⟨Av, cv, rfl, _, _⟩ := hv.len
  obtain ⟨w0, hw0⟩ : ∃ W, W = w.alloc (.cells #[.int .i64 7, .int .i64 (sI s), .int .i64 n, .int .i64 bit, .int .u32 mask, .slice Av l.length cv] 61) := ⟨_, rfl⟩
  obtain ⟨gs, hgs⟩ : ∃ h, h = w.heap.size := ⟨_, rfl⟩
  have B0 : Hid (Below w.heap.size w w0) := Lib.hid (by rw [hw0]; exact (Below.refl _ _).alloc (Nat.le_refl _) _)
  have BX : Hid (Blk w0 gs #[.int .i64 7, .int .i64 (sI s), .int .i64 n, .int .i64 bit, .int .u32 mask, .slice Av l.length cv] 61) := Lib.hid (by rw [hw0, hgs]; exact Blk.new _ _ _)
  have S0 : Hid (Stp (fun _ => False) o (scr o w.heap.size 0) w w0) := Lib.hid ⟨Frm.of_below B0.out, scr_agr _ _ _⟩
  have og : scr o w.heap.size 0 gs = 0 := by rw [hgs]; exact scr_new (Nat.le_refl _)
  obtain ⟨o0, ho0⟩ : ∃ f, f = scr o w.heap.size 0 := ⟨_, rfl⟩
  rw [← ho0] at S0 og
  have H0 := Lib.hid (h.frm S0.out (fun h => h) (fun _ h => h.elim))
  have V0 : Hid (BV w0 (frozen o0) (.slice Av l.length cv) l) := Lib.hid (BV.stpK hv S0.out (fun h => h))
  have IV := Lib.hid hi
  have hw0' := hw0.symm
  have hgs' := hgs.symm
  have sB : B ≤ w0.heap.size := Nat.le_trans hB B0.out.size
  have k0 := BX.out.cell 0
  have k1 := BX.out.cell 1
  have k2 := BX.out.cell 2
  have k3 := BX.out.cell 3
  have k4 := BX.out.cell 4
  have k5 := BX.out.cell 5
  have n0 := H0.out.blk.cell 0
  have n1 := H0.out.blk.cell 1
  simp only [List.getElem?_toArray, List.getElem?_cons_zero, List.getElem?_cons_succ] at k0 k1 k2 k3 k4 k5 n0 n1
  clear h hi hv hw0 hgs ho0
  cases s
  case false =>
    have e0 : sI false = 0 := rfl
    rw [e0] at hw0' k1 BX ⊢
    clear e0
    go_enter Tryz.func31, Tryz.ntmps31
    go_wp2_with fail
    clear hw0' hgs'
    go_quiet (fail)
    obtain ⟨wb, hwb⟩ : ∃ W, W = w0.drewN nq := ⟨_, rfl⟩
    rw [← hwb]
    have GB : Hid (Below w0.heap.size w0 wb) := Lib.hid (by rw [hwb]; exact below_drewN (Below.refl _ _) _)
    have SB : Hid (Stp (fun _ => False) o o0 w wb) := Lib.hid (S0.out.trans (Stp.below GB.out))
    have HD := Lib.hid (H0.out.below GB.out)
    have VB := Lib.hid (V0.out.below GB.out)
    have BXB := Lib.hid (BX.out.below GB.out)
    have sBb : B ≤ wb.heap.size := Nat.le_trans sB GB.out.size
    clear hwb H0 V0 BX k0 k1 k2 k3 k4 k5 n0 n1
    have k0 := BXB.out.cell 0
    have k1 := BXB.out.cell 1
    have k2 := BXB.out.cell 2
    have k3 := BXB.out.cell 3
    have k4 := BXB.out.cell 4
    have k5 := BXB.out.cell 5
    have n0 := HD.out.blk.cell 0
    have n1 := HD.out.blk.cell 1
    simp only [List.getElem?_toArray, List.getElem?_cons_zero, List.getElem?_cons_succ] at k0 k1 k2 k3 k4 k5 n0 n1
    go_wp2_with fail
    refine wp_region_held_drew (S := fun w' => w'.cell? ⟨gs, 1, none⟩ = some (.int .i64 0) ∧ w'.cell? ⟨gs, 2, none⟩ = some (.int .i64 n)) (by kernel_rfl) ⟨k1, k2⟩ (fun hHeld => ?_)
    obtain ⟨wd, hwd⟩ : ∃ W, W = wb.drew := ⟨_, rfl⟩
    have GD : Hid (Below wb.heap.size wb wd) := Lib.hid (by rw [hwd]; exact (Below.refl _ _).drew)
    have HDD := Lib.hid (HD.out.below GD.out)
    have BXD := Lib.hid (BXB.out.below GD.out)
    have sBd : B ≤ wd.heap.size := Nat.le_trans sBb GD.out.size
    have SD := Lib.hid (SB.out.trans (Stp.below GD.out))
    have IN : Hid (∀ c, (c = 300 ∨ c = 302 + sN false) → DC c) := Lib.hid (fun c hc => by rcases hc with rfl | rfl <;> simp [DC, sN])
    rw [← hwd] at hHeld ⊢
    clear hwd k0 k1 k2 k3 k4 k5 n0 n1
    refine tk 0 (oi := ⟨some 124, _, _, _, _, _⟩) rfl ?_
    refine tk 1 (oi := ⟨some 125, _, _, _, _, _⟩) rfl ?_
    refine tk 2 (oi := ⟨some 126, _, _, _, _, _⟩) rfl ?_
    refine tk 3 (oi := ⟨some 127, _, _, _, _, _⟩) rfl ?_
    refine tk 4 (oi := ⟨some 128, _, _, _, _, _⟩) rfl ?_
    refine tk 5 (oi := ⟨some 129, _, _, _, _, _⟩) rfl ?_
    refine tk 6 (oi := ⟨some 130, _, _, _, _, _⟩) rfl ?_
    refine wpAnyH_ready (rs := [7]) (by kernel_rfl) (by simp) ?_; refine AllReadyH.cons (o := ⟨some 131, _, _, _, _, _⟩) rfl (fun K hK => ?_) AllReadyH.nil
    go_simp
    refine (ntake_any wd gd o0 B d.v d.l false n (HDD.out.blk.cell 2) (HDD.out.blk.cell 3) (fun i => HDD.out.blk.free i) HDD.out.n HDD.out.og sBd (by have := IV.out.nl false; omega)).mono ?_
    rintro e w2 (⟨hno, rfl, rfl⟩ | ⟨i, y, vy, hin, hy, hvy, rfl, hset⟩)
    · refine hK.out _ _ ⟨BXD.out.cell 1, BXD.out.cell 2⟩ (fun hHeld => ?_)
      clear hK K
      (try simp only [Act.put, List.setIfInBounds_toArray, List.set_cons_zero, List.set_cons_succ])
      refine tk 8 (oi := ⟨some 123, _, _, _, _, _⟩) rfl ?_
      refine tk 9 (oi := ⟨some 132, _, _, _, _, _⟩) rfl ?_
      refine tk 10 (oi := ⟨some 133, _, _, _, _, _⟩) rfl ?_
      refine tk 11 (oi := ⟨some 9, _, _, _, _, _⟩) rfl ?_
      refine tk 12 (oi := ⟨some 10, _, _, _, _, _⟩) rfl ?_
      refine wpAnyH_done (by kernel_rfl) ?_ _
      clear hHeld hno
      have R : Hid (Stp (fun _ => False) o o0 w wd) := SD
      go_wp2_with fail
      refine (unpack_any wd (frozen o0) _ [] (BV.nil _ _) (by simp)).mono ?_
      rintro e w3 ⟨p, vd, q, rfl, hvd, _, _, hb3⟩
      obtain ⟨Ad, cd, rfl, _, _⟩ := hvd.len
      have R : Hid (∀ W, Below wd.heap.size wd W → DuR o B w gd N W) := Lib.hid (fun W hW => DuR.rest hN ((SD.out.trans (Stp.below hW)).mono (fun _ h => h.elim)) (HDD.out.below hW) IV.out)
      have B3 := Lib.hid hb3
      have s3 := hb3.size
      clear hb3 hvd
      go_wp2_with fail
      go_ret
      exact ⟨_, rfl, R.out _ (B3.out.alloc s3 _)⟩
    · obtain ⟨o2, v2, h2, s2⟩ := HDD.out.putN hset
      have H2 := Lib.hid h2
      have S2 := Lib.hid s2
      have BX2 := Lib.hid (BXD.out.frm s2.f (by rw [og]; simp [sN]))
      have VY := Lib.hid (BV.stpK hvy s2 (by omega))
      have HYM := Lib.hid (List.mem_of_getElem? hy)
      have I2 := Lib.hid (IV.out.netw (s := false) (l' := (d.l false).take i ++ (d.l false).drop (i + 1)) (up d.v false v2) (by have := IV.out.nl false; rw [List.length_append, List.length_take, List.length_drop]; omega) (fun z hz => IV.out.net false z (by
        rcases List.mem_append.1 hz with h | h
        · exact List.mem_of_mem_take h
        · exact List.mem_of_mem_drop h)))
      have SA : Hid (Stp DC o o2 w w2) := Lib.hid ((SD.out.mono (fun _ h => h.elim)).trans (s2.mono IN.out))
      obtain ⟨Ay, cy, rfl, _, _⟩ := hvy.len
      clear h2 s2 hset hy hvy hin
      refine hK.out _ _ ⟨BX2.out.cell 1, BX2.out.cell 2⟩ (fun hHeld => ?_)
      clear hK K
      (try simp only [Act.put, List.setIfInBounds_toArray, List.set_cons_zero, List.set_cons_succ])
      refine tk 8 (oi := ⟨some 123, _, _, _, _, _⟩) rfl ?_
      refine tk 9 (oi := ⟨some 132, _, _, _, _, _⟩) rfl ?_
      refine tk 10 (oi := ⟨some 133, _, _, _, _, _⟩) rfl ?_
      refine tk 11 (oi := ⟨some 9, _, _, _, _, _⟩) rfl ?_
      refine tk 12 (oi := ⟨some 10, _, _, _, _, _⟩) rfl ?_
      refine wpAnyH_done (by kernel_rfl) ?_ _
      clear hHeld
      go_wp2_with fail
      refine (unpack_any w2 (frozen o2) _ y.1 VY.out (by have := (IV.out.net false y HYM.out).len; omega)).mono ?_
      rintro e w3 ⟨p, vd, q, rfl, hvd, hpl, hq, hb3⟩
      obtain ⟨Ad, cd, rfl, _, _⟩ := hvd.len
      have s3 := hb3.size
      obtain ⟨W, hW⟩ : ∃ W, W = w3.alloc (.cells #[.int .i64 p.kind, .int .i64 p.path, .int .i64 p.number, .int .i64 p.of_, .int .i64 p.from_, .slice Ad p.data.length cd, .bool p.fin, .int .i64 p.seen, .int .i64 p.limit] 27) := ⟨_, rfl⟩
      have BW : Hid (Below w2.heap.size w2 W) := Lib.hid (by rw [hW]; exact hb3.alloc s3 _)
      obtain ⟨gp, hgp⟩ : ∃ h, h = w3.heap.size := ⟨_, rfl⟩
      have BXW : Hid (Blk W gp (pcells p (.slice Ad p.data.length cd)).toArray 27) := Lib.hid (by rw [hW, hgp]; exact Blk.new _ _ _)
      obtain ⟨j0, j1, j2, j3, j4, j5, j6, j7, j8⟩ := PB.of BXW.out
      have hW' := hW.symm
      have hgp' := hgp.symm
      have SW : Hid (Stp (fun _ => False) o2 (scr o2 w2.heap.size 0) w2 W) := Lib.hid ⟨Frm.of_below BW.out, scr_agr _ _ _⟩
      have HW := Lib.hid (H2.out.frm SW.out (fun h => h) (fun _ h => h.elim))
      have VW : Hid (BV W (frozen (scr o2 w2.heap.size 0)) (.slice Ad p.data.length cd) p.data) := Lib.hid ((hvd.below (show Below w3.heap.size w3 W by rw [hW]; exact (Below.refl _ _).alloc (Nat.le_refl _) _)).mono (fun j hj _ => scr_new hj))
      have SAW : Hid (Stp DC o (scr o2 w2.heap.size 0) w W) := Lib.hid (SA.out.trans (SW.out.mono (fun _ h => h.elim)))
      have NOK := Lib.hid (IV.out.net false y HYM.out)
      have HQ := Lib.hid hq
      have HPL : Hid (p.data.length ≤ 1000000) := Lib.hid (by have := NOK.out.len; omega)
      clear hvd hb3 hpl hq hW hgp
      cases q
      · go_wp2_with fail
        go_ret
        exact ⟨_, rfl, DuR.rest hN SAW.out HW.out I2.out⟩
      · obtain ⟨rp, he⟩ := HQ.out rfl
        have CM := Lib.hid (NOK.out.came VY.out.byt rp he)
        clear rp he HQ
        go_wp2_with fail
        refine (come_any (scr o2 w2.heap.size 0) (kk false) B N W (d.ge false) (d.x false) p Ad cd (HW.out.e false) (I2.out.ok false) hN (Nat.le_trans hB SAW.out.size) VW.out HPL.out).mono ?_
        rintro e w5 ⟨q5, rfl, o5, x5, es5, hx5, hs5, ha5, h45⟩
        have R : Hid (DuR o B w gd N w5) := Lib.hid (DuR.act (s := false) hN SAW.out HW.out I2.out hx5 hs5 ha5 (fun e he h => by rw [h45 e he h]; exact CM.out))
        clear hx5 hs5 ha5 h45
        go_wp2_with fail
        go_ret
        exact ⟨_, rfl, R.out⟩
  case true =>
    have e0 : sI true = 1 := rfl
    rw [e0] at hw0' k1 BX ⊢
    clear e0
    go_enter Tryz.func31, Tryz.ntmps31
    go_wp2_with fail
    clear hw0' hgs'
    go_quiet (fail)
    obtain ⟨wb, hwb⟩ : ∃ W, W = w0.drewN nq := ⟨_, rfl⟩
    rw [← hwb]
    have GB : Hid (Below w0.heap.size w0 wb) := Lib.hid (by rw [hwb]; exact below_drewN (Below.refl _ _) _)
    have SB : Hid (Stp (fun _ => False) o o0 w wb) := Lib.hid (S0.out.trans (Stp.below GB.out))
    have HD := Lib.hid (H0.out.below GB.out)
    have VB := Lib.hid (V0.out.below GB.out)
    have BXB := Lib.hid (BX.out.below GB.out)
    have sBb : B ≤ wb.heap.size := Nat.le_trans sB GB.out.size
    clear hwb H0 V0 BX k0 k1 k2 k3 k4 k5 n0 n1
    have k0 := BXB.out.cell 0
    have k1 := BXB.out.cell 1
    have k2 := BXB.out.cell 2
    have k3 := BXB.out.cell 3
    have k4 := BXB.out.cell 4
    have k5 := BXB.out.cell 5
    have n0 := HD.out.blk.cell 0
    have n1 := HD.out.blk.cell 1
    simp only [List.getElem?_toArray, List.getElem?_cons_zero, List.getElem?_cons_succ] at k0 k1 k2 k3 k4 k5 n0 n1
    go_wp2_with fail
    refine wp_region_held_drew (S := fun w' => w'.cell? ⟨gs, 1, none⟩ = some (.int .i64 1) ∧ w'.cell? ⟨gs, 2, none⟩ = some (.int .i64 n)) (by kernel_rfl) ⟨k1, k2⟩ (fun hHeld => ?_)
    obtain ⟨wd, hwd⟩ : ∃ W, W = wb.drew := ⟨_, rfl⟩
    have GD : Hid (Below wb.heap.size wb wd) := Lib.hid (by rw [hwd]; exact (Below.refl _ _).drew)
    have HDD := Lib.hid (HD.out.below GD.out)
    have BXD := Lib.hid (BXB.out.below GD.out)
    have sBd : B ≤ wd.heap.size := Nat.le_trans sBb GD.out.size
    have SD := Lib.hid (SB.out.trans (Stp.below GD.out))
    have IN : Hid (∀ c, (c = 300 ∨ c = 302 + sN true) → DC c) := Lib.hid (fun c hc => by rcases hc with rfl | rfl <;> simp [DC, sN])
    rw [← hwd] at hHeld ⊢
    clear hwd k0 k1 k2 k3 k4 k5 n0 n1
    refine tk 0 (oi := ⟨some 124, _, _, _, _, _⟩) rfl ?_
    refine tk 1 (oi := ⟨some 125, _, _, _, _, _⟩) rfl ?_
    refine tk 2 (oi := ⟨some 126, _, _, _, _, _⟩) rfl ?_
    refine tk 3 (oi := ⟨some 127, _, _, _, _, _⟩) rfl ?_
    refine tk 4 (oi := ⟨some 128, _, _, _, _, _⟩) rfl ?_
    refine tk 5 (oi := ⟨some 129, _, _, _, _, _⟩) rfl ?_
    refine tk 6 (oi := ⟨some 130, _, _, _, _, _⟩) rfl ?_
    refine wpAnyH_ready (rs := [7]) (by kernel_rfl) (by simp) ?_; refine AllReadyH.cons (o := ⟨some 131, _, _, _, _, _⟩) rfl (fun K hK => ?_) AllReadyH.nil
    go_simp
    refine (ntake_any wd gd o0 B d.v d.l true n (HDD.out.blk.cell 2) (HDD.out.blk.cell 3) (fun i => HDD.out.blk.free i) HDD.out.n HDD.out.og sBd (by have := IV.out.nl true; omega)).mono ?_
    rintro e w2 (⟨hno, rfl, rfl⟩ | ⟨i, y, vy, hin, hy, hvy, rfl, hset⟩)
    · refine hK.out _ _ ⟨BXD.out.cell 1, BXD.out.cell 2⟩ (fun hHeld => ?_)
      clear hK K
      (try simp only [Act.put, List.setIfInBounds_toArray, List.set_cons_zero, List.set_cons_succ])
      refine tk 8 (oi := ⟨some 123, _, _, _, _, _⟩) rfl ?_
      refine tk 9 (oi := ⟨some 132, _, _, _, _, _⟩) rfl ?_
      refine tk 10 (oi := ⟨some 133, _, _, _, _, _⟩) rfl ?_
      refine tk 11 (oi := ⟨some 9, _, _, _, _, _⟩) rfl ?_
      refine tk 12 (oi := ⟨some 10, _, _, _, _, _⟩) rfl ?_
      refine wpAnyH_done (by kernel_rfl) ?_ _
      clear hHeld hno
      have R : Hid (Stp (fun _ => False) o o0 w wd) := SD
      go_wp2_with fail
      refine (unpack_any wd (frozen o0) _ [] (BV.nil _ _) (by simp)).mono ?_
      rintro e w3 ⟨p, vd, q, rfl, hvd, _, _, hb3⟩
      obtain ⟨Ad, cd, rfl, _, _⟩ := hvd.len
      have R : Hid (∀ W, Below wd.heap.size wd W → DuR o B w gd N W) := Lib.hid (fun W hW => DuR.rest hN ((SD.out.trans (Stp.below hW)).mono (fun _ h => h.elim)) (HDD.out.below hW) IV.out)
      have B3 := Lib.hid hb3
      have s3 := hb3.size
      clear hb3 hvd
      go_wp2_with fail
      go_ret
      exact ⟨_, rfl, R.out _ (B3.out.alloc s3 _)⟩
    · obtain ⟨o2, v2, h2, s2⟩ := HDD.out.putN hset
      have H2 := Lib.hid h2
      have S2 := Lib.hid s2
      have BX2 := Lib.hid (BXD.out.frm s2.f (by rw [og]; simp [sN]))
      have VY := Lib.hid (BV.stpK hvy s2 (by omega))
      have HYM := Lib.hid (List.mem_of_getElem? hy)
      have I2 := Lib.hid (IV.out.netw (s := true) (l' := (d.l true).take i ++ (d.l true).drop (i + 1)) (up d.v true v2) (by have := IV.out.nl true; rw [List.length_append, List.length_take, List.length_drop]; omega) (fun z hz => IV.out.net true z (by
        rcases List.mem_append.1 hz with h | h
        · exact List.mem_of_mem_take h
        · exact List.mem_of_mem_drop h)))
      have SA : Hid (Stp DC o o2 w w2) := Lib.hid ((SD.out.mono (fun _ h => h.elim)).trans (s2.mono IN.out))
      obtain ⟨Ay, cy, rfl, _, _⟩ := hvy.len
      clear h2 s2 hset hy hvy hin
      refine hK.out _ _ ⟨BX2.out.cell 1, BX2.out.cell 2⟩ (fun hHeld => ?_)
      clear hK K
      (try simp only [Act.put, List.setIfInBounds_toArray, List.set_cons_zero, List.set_cons_succ])
      refine tk 8 (oi := ⟨some 123, _, _, _, _, _⟩) rfl ?_
      refine tk 9 (oi := ⟨some 132, _, _, _, _, _⟩) rfl ?_
      refine tk 10 (oi := ⟨some 133, _, _, _, _, _⟩) rfl ?_
      refine tk 11 (oi := ⟨some 9, _, _, _, _, _⟩) rfl ?_
      refine tk 12 (oi := ⟨some 10, _, _, _, _, _⟩) rfl ?_
      refine wpAnyH_done (by kernel_rfl) ?_ _
      clear hHeld
      go_wp2_with fail
      refine (unpack_any w2 (frozen o2) _ y.1 VY.out (by have := (IV.out.net true y HYM.out).len; omega)).mono ?_
      rintro e w3 ⟨p, vd, q, rfl, hvd, hpl, hq, hb3⟩
      obtain ⟨Ad, cd, rfl, _, _⟩ := hvd.len
      have s3 := hb3.size
      obtain ⟨W, hW⟩ : ∃ W, W = w3.alloc (.cells #[.int .i64 p.kind, .int .i64 p.path, .int .i64 p.number, .int .i64 p.of_, .int .i64 p.from_, .slice Ad p.data.length cd, .bool p.fin, .int .i64 p.seen, .int .i64 p.limit] 27) := ⟨_, rfl⟩
      have BW : Hid (Below w2.heap.size w2 W) := Lib.hid (by rw [hW]; exact hb3.alloc s3 _)
      obtain ⟨gp, hgp⟩ : ∃ h, h = w3.heap.size := ⟨_, rfl⟩
      have BXW : Hid (Blk W gp (pcells p (.slice Ad p.data.length cd)).toArray 27) := Lib.hid (by rw [hW, hgp]; exact Blk.new _ _ _)
      obtain ⟨j0, j1, j2, j3, j4, j5, j6, j7, j8⟩ := PB.of BXW.out
      have hW' := hW.symm
      have hgp' := hgp.symm
      have SW : Hid (Stp (fun _ => False) o2 (scr o2 w2.heap.size 0) w2 W) := Lib.hid ⟨Frm.of_below BW.out, scr_agr _ _ _⟩
      have HW := Lib.hid (H2.out.frm SW.out (fun h => h) (fun _ h => h.elim))
      have VW : Hid (BV W (frozen (scr o2 w2.heap.size 0)) (.slice Ad p.data.length cd) p.data) := Lib.hid ((hvd.below (show Below w3.heap.size w3 W by rw [hW]; exact (Below.refl _ _).alloc (Nat.le_refl _) _)).mono (fun j hj _ => scr_new hj))
      have SAW : Hid (Stp DC o (scr o2 w2.heap.size 0) w W) := Lib.hid (SA.out.trans (SW.out.mono (fun _ h => h.elim)))
      have NOK := Lib.hid (IV.out.net true y HYM.out)
      have HQ := Lib.hid hq
      have HPL : Hid (p.data.length ≤ 1000000) := Lib.hid (by have := NOK.out.len; omega)
      clear hvd hb3 hpl hq hW hgp
      cases q
      · go_wp2_with fail
        go_ret
        exact ⟨_, rfl, DuR.rest hN SAW.out HW.out I2.out⟩
      · obtain ⟨rp, he⟩ := HQ.out rfl
        have CM := Lib.hid (NOK.out.came VY.out.byt rp he)
        clear rp he HQ
        go_wp2_with fail
        refine (come_any (scr o2 w2.heap.size 0) (kk true) B N W (d.ge true) (d.x true) p Ad cd (HW.out.e true) (I2.out.ok true) hN (Nat.le_trans hB SAW.out.size) VW.out HPL.out).mono ?_
        rintro e w5 ⟨q5, rfl, o5, x5, es5, hx5, hs5, ha5, h45⟩
        have R : Hid (DuR o B w gd N w5) := Lib.hid (DuR.act (s := true) hN SAW.out HW.out I2.out hx5 hs5 ha5 (fun e he h => by rw [h45 e he h]; exact CM.out))
        clear hx5 hs5 ha5 h45
        go_wp2_with fail
        go_ret
        exact ⟨_, rfl, R.out⟩
end Go.Proofs.YtdneakejlbabeaaGreat
