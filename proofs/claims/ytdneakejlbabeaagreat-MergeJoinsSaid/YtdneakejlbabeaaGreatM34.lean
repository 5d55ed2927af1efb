/- Parts of the walk: Ud, Ue. -/
import Derived.Test.YtdneakejlbabeaaGreatM00
import Derived.Deep.RegionLaw
import Derived.Test.YtdneakejlbabeaaGreatM33
namespace Go.Proofs.YtdneakejlbabeaaGreat
open Go.RowKit
set_option linter.unusedVariables false
set_option linter.unusedSimpArgs false
section
theorem DuS.got {o : Nat → Nat} {B : Nat} {w w7 : World} {gd : Nat} {d : DuV} (h : DuS o B w gd d) (s : Bool) {v7 : Value} {l1 : List Int} (hfr : Frm (fun j => (d.u s).ownBlock = some j) w w7) (hown : w7.ownsRow B 5 1 v7 ((d.g s).length + l1.length) (u8s (d.g s) ++ u8s l1)) (hat : v7.ownBlock = (d.u s).ownBlock ∨ ∀ j, v7.ownBlock = some j → w.heap.size ≤ j) (hb : Byt l1) :
  ∃ o', DuS o' B (w7.setCell ⟨gd, 4 + sN s, none⟩ v7) gd { d with u := up d.u s v7, g := up d.g s (d.g s ++ l1) } ∧ Stp (fun c => c = 300 ∨ c = 304 + sN s) o o' w (w7.setCell ⟨gd, 4 + sN s, none⟩ v7) := by
 have ow := h.go s
 have og := h.og
 have hg := h.blk.lt
 have hw := ext_ow (w' := w7) (c := 304 + sN s) ow hat (fun j hj => (hown.lt j hj).2)
 have hvg : ¬ (d.u s).ownBlock = some gd := fun e => by have := (ow gd e).1; omega
 have hne : ∀ j, v7.ownBlock = some j → j ≠ gd := fun j hj e => by
  have h1 := (hw j hj).1
  rw [e, ext_agr o _ v7 _ gd hg] at h1
  omega
 have f8 := (Frm.refl (· = gd) w7).setg (i := 4 + sN s) v7
 have st : Stp (fun c => c = 300 ∨ c = 304 + sN s) o (ext o w.heap.size v7 (304 + sN s)) w (w7.setCell ⟨gd, 4 + sN s, none⟩ v7) := ⟨(hfr.mono (fun j hj => .inr (ow j hj).1)).setCell (.inl (.inl og)) v7, ext_agr _ _ _ _⟩
 refine ⟨_, h.putG st ((h.blk.frm hfr hvg).set _ _) ⟨?_, fun y hy => ?_⟩ (fun j hj => ⟨(hw j hj).1, Nat.lt_of_lt_of_le (hw j hj).2 f8.size⟩), st⟩
 ·rw [u8s_append, List.length_append]
  exact own_frm hown f8 (fun j hj e => hne j hj e)
 ·rcases List.mem_append.1 hy with hy | hy
  ·exact (h.g s).2 y hy
  ·exact hb y hy
set_option maxHeartbeats 16000000 in
set_option maxRecDepth 100000 in
theorem do_k2 (o : Nat → Nat) (B : Nat) (w : World) (gd N : Nat) (d : DuV) (wl : List (Int × Ev)) (s : Bool) (n bit mask : Int) (v : Value) (l : List Int) (h : DuS o B w gd d) (hi : DInv (fun _ => N) d wl) (hN : N + 500000 ≤ 40000000) (hB : B ≤ w.heap.size) (hv : BV w (frozen o) v l) (hl : l.length ≤ 1000000) :
  Calls Tryz.prog 31 #[.pointer (some ⟨gd, 0, none⟩), .agg #[.int .i64 2, .int .i64 (sI s), .int .i64 n, .int .i64 bit, .int .u32 mask, v]] w fun e w' => DoR o B w gd N d wl e w' := by
 obtain ⟨Av, cv, rfl, _, _⟩ := hv.len
 obtain ⟨w0, hw0⟩ := lx (w.alloc (.cells #[.int .i64 2, .int .i64 (sI s), .int .i64 n, .int .i64 bit, .int .u32 mask, .slice Av l.length cv] 61))
 obtain ⟨gs, hgs⟩ := lx (w.heap.size)
 have B0 : Hid (Below w.heap.size w w0) := hid (by rw [hw0]; exact ba)
 have BX : Hid (Blk w0 gs #[.int .i64 2, .int .i64 (sI s), .int .i64 n, .int .i64 bit, .int .u32 mask, .slice Av l.length cv] 61) := hid (by rw [hw0, hgs]; exact Blk.new _ _ _)
 have S0 : Hid (Stp (fun _ => False) o (scr o w.heap.size 0) w w0) := hid ⟨Frm.of_below B0.out, scr_agr _ _ _⟩
 have og : scr o w.heap.size 0 gs = 0 := by rw [hgs]; exact scr_new (Nat.le_refl _)
 obtain ⟨o0, ho0⟩ := lx (scr o w.heap.size 0)
 rw [← ho0] at S0 og
 have H0 := hid (h.frm S0.out (fun h => h) (fun _ h => h.elim))
 have V0 : Hid (BV w0 (frozen o0) (.slice Av l.length cv) l) := hid (BV.stpK hv S0.out (fun h => h))
 have IV := hid hi
 have hw0' := hw0.symm
 have hgs' := hgs.symm
 have sB : B ≤ w0.heap.size := Nat.le_trans hB B0.out.size
 have k0 := BX.out.cell 0
 have k1 := BX.out.cell 1
 have k2 := BX.out.cell 2
 have k3 := BX.out.cell 3
 have k4 := BX.out.cell 4
 have k5 := BX.out.cell 5
 have n0 := H0.out.blk.cell 0
 have n1 := H0.out.blk.cell 1
 simp only [gA, gZ, gC] at k0 k1 k2 k3 k4 k5 n0 n1
 clear h hi hv hw0 hgs ho0
 cases s
 case false =>
  have e0 : sI false = 0 := rfl
  rw [e0] at hw0' k1 BX ⊢
  clear e0
  go_enter Tryz.func31, Tryz.ntmps31
  go_wp2_with fail
  clear hw0' hgs'
  go_quiet (fail)
  obtain ⟨wb, hwb⟩ := lx (w0.drewN nq)
  rw [← hwb]
  have GB : Hid (Below w0.heap.size w0 wb) := hid (by rw [hwb]; exact below_drewN (Below.refl _ _) _)
  have SB : Hid (Stp (fun _ => False) o o0 w wb) := hid (S0.out.trans (Stp.below GB.out))
  have HD := hid (H0.out.below GB.out)
  have VB := hid (V0.out.below GB.out)
  have BXB := hid (BX.out.below GB.out)
  have sBb : B ≤ wb.heap.size := Nat.le_trans sB GB.out.size
  clear hwb H0 V0 BX k0 k1 k2 k3 k4 k5 n0 n1
  have k0 := BXB.out.cell 0
  have k1 := BXB.out.cell 1
  have k2 := BXB.out.cell 2
  have k3 := BXB.out.cell 3
  have k4 := BXB.out.cell 4
  have k5 := BXB.out.cell 5
  have n0 := HD.out.blk.cell 0
  have n1 := HD.out.blk.cell 1
  simp only [gA, gZ, gC] at k0 k1 k2 k3 k4 k5 n0 n1
  have HI := hid Tryz.info5
  go_wp2_with fail
  refine (eread_any o0 (kk false) B N wb (d.ge false) (d.x false) n (HD.out.e false) (IV.out.ok false) hN sBb).mono ?_
  rintro e w2 ⟨v1, l1, o2, x2, es2, rfl, hbv, hl1, hx2, hs2, ha2, h42⟩
  have H2 := hid (HD.out.putE hx2 hs2)
  have I2 : Hid (DInv (fun _ => N + 500000) { d with x := up d.x false x2 } (wl ++ es2.map fun e => (sI false, e))) := hid ((IV.out.act ha2 (fun e he h => absurd h (h42 e he))).upN (fun t => by
   by_cases ht : t = false
   ·subst ht; rw [up_same]; exact ⟨Nat.le_refl _, hN⟩
   ·rw [up_other _ _ ht]; exact ⟨by omega, hN⟩))
  have S2 : Hid (Stp DC o o2 w w2) := hid ((SB.out.mono (fun _ h => h.elim)).trans (hs2.mono (EC_DC false)))
  have EC0 : ¬ EC (kk false) 0 := fun h => by have := h.1; simp [kk] at this
  have BX2 := hid (BXB.out.frm hs2.f (by rw [og]; exact EC0))
  have HB := hid hbv
  obtain ⟨A1, c1, rfl, _, _⟩ := hbv.len
  have og2 : o2 gs = 0 := (hs2.ag gs BXB.out.lt).trans og
  have hgl := IV.out.gl false
  clear hx2 hs2 ha2 h42 hbv k0 k1 k2 k3 k4 k5 n0 n1
  obtain ⟨Au, cu, hvu⟩ := own_slice' (H2.out.g false).1
  dsimp only at hvu
  have OU : Hid (w2.ownsRow B 5 1 (.slice Au (d.g false).length cu) (d.g false).length (u8s (d.g false))) := hid (hvu ▸ (H2.out.g false).1)
  have OWU := hid (hvu ▸ H2.out.go false : Ow o2 w2 (304 + sN false) (.slice Au (d.g false).length cu))
  have HVU := hid hvu
  have n4 := H2.out.blk.cell 4
  have f4 := H2.out.blk.free 4
  have k1 := BX2.out.cell 1
  simp only [gA, gZ, gC] at n4 k1
  rw [hvu] at n4
  have sB2 : B ≤ w2.heap.size := Nat.le_trans hB S2.out.size
  have gsl := BX2.out.lt
  have gdl := H2.out.blk.lt
  have hgs4 : ¬ (Value.slice Au (d.g false).length cu).ownBlock = some gs := fun e => by have := (OWU.out gs e).1; omega
  have hgd4 : ¬ (Value.slice Au (d.g false).length cu).ownBlock = some gd := fun e => by have := (OWU.out gd e).1; have := H2.out.og; omega
  have HSL := hid HB.out.sl
  clear hvu
  go_wp2_with fail
  first | (go_region_law (first | (refine step_app (v := .slice Au (d.g false).length cu) B (by rfl) _ _ 25 5 (.int .u8 0) 1 1 (by rfl) Tryz.underlying25 HI.out rfl (by omega) (by omega) (by rfl) (by rfl) (show w2.drew.ownsRow B 5 1 _ _ _ from OU.out) (show Sl w2.drew 1 _ _ _ from HSL.out) (by omega) sB2 ?_; intro v7 w7 hown hfr hat; have F7 : Hid (Frm (fun j => (Value.slice Au (d.g false).length cu).ownBlock = some j) w2 w7) := hid ((Frm.refl _ w2).drew.trans hfr); have O7 := hid hown; have HAT : Hid (v7.ownBlock = (Value.slice Au (d.g false).length cu).ownBlock ∨ ∀ j, v7.ownBlock = some j → w2.heap.size ≤ j) := hid (hat.imp id (fun e j hj => by rw [e] at hj; injection hj with hj; rw [← hj]; exact Nat.le_refl _)); have e4 := (show w7.cell? ⟨gd, 4, none⟩ = w2.cell? ⟨gd, 4, none⟩ from World.cell?_of_block (F7.out.block gd gdl hgd4)).trans n4; have g4 := (show w7.frozen? ⟨gd, 4, none⟩ = w2.frozen? ⟨gd, 4, none⟩ from World.frozen?_of_block (F7.out.block gd gdl hgd4)).trans f4; have e1 := (show w7.cell? ⟨gs, 1, none⟩ = w2.cell? ⟨gs, 1, none⟩ from World.cell?_of_block (F7.out.block gs gsl hgs4)).trans k1; obtain ⟨A7, c7_, rfl⟩ := own_slice' hown; clear hown hfr hat) | fail)) | fail
  all_goals
   obtain ⟨o9, h9, s9⟩ := H2.out.got false (l1 := l1) (by dsimp only; rw [HVU.out]; exact F7.out) (by dsimp only; exact O7.out) (by dsimp only; rw [HVU.out]; exact HAT.out) HB.out.byt
   have R : Hid (DuR o B w gd N _) := hid ⟨o9, _, _, h9, S2.out.trans (s9.mono (fun c hc => by rcases hc with rfl | rfl <;> simp [DC, sN])), I2.out.gotw _ (by dsimp only; rw [List.length_append]; omega)⟩
   clear h9 s9
   go_wp2_with fail
   go_ret
   exact ⟨_, rfl, R.out⟩
 case true =>
  have e0 : sI true = 1 := rfl
  rw [e0] at hw0' k1 BX ⊢
  clear e0
  go_enter Tryz.func31, Tryz.ntmps31
  go_wp2_with fail
  clear hw0' hgs'
  go_quiet (fail)
  obtain ⟨wb, hwb⟩ := lx (w0.drewN nq)
  rw [← hwb]
  have GB : Hid (Below w0.heap.size w0 wb) := hid (by rw [hwb]; exact below_drewN (Below.refl _ _) _)
  have SB : Hid (Stp (fun _ => False) o o0 w wb) := hid (S0.out.trans (Stp.below GB.out))
  have HD := hid (H0.out.below GB.out)
  have VB := hid (V0.out.below GB.out)
  have BXB := hid (BX.out.below GB.out)
  have sBb : B ≤ wb.heap.size := Nat.le_trans sB GB.out.size
  clear hwb H0 V0 BX k0 k1 k2 k3 k4 k5 n0 n1
  have k0 := BXB.out.cell 0
  have k1 := BXB.out.cell 1
  have k2 := BXB.out.cell 2
  have k3 := BXB.out.cell 3
  have k4 := BXB.out.cell 4
  have k5 := BXB.out.cell 5
  have n0 := HD.out.blk.cell 0
  have n1 := HD.out.blk.cell 1
  simp only [gA, gZ, gC] at k0 k1 k2 k3 k4 k5 n0 n1
  have HI := hid Tryz.info5
  go_wp2_with fail
  refine (eread_any o0 (kk true) B N wb (d.ge true) (d.x true) n (HD.out.e true) (IV.out.ok true) hN sBb).mono ?_
  rintro e w2 ⟨v1, l1, o2, x2, es2, rfl, hbv, hl1, hx2, hs2, ha2, h42⟩
  have H2 := hid (HD.out.putE hx2 hs2)
  have I2 : Hid (DInv (fun _ => N + 500000) { d with x := up d.x true x2 } (wl ++ es2.map fun e => (sI true, e))) := hid ((IV.out.act ha2 (fun e he h => absurd h (h42 e he))).upN (fun t => by
   by_cases ht : t = true
   ·subst ht; rw [up_same]; exact ⟨Nat.le_refl _, hN⟩
   ·rw [up_other _ _ ht]; exact ⟨by omega, hN⟩))
  have S2 : Hid (Stp DC o o2 w w2) := hid ((SB.out.mono (fun _ h => h.elim)).trans (hs2.mono (EC_DC true)))
  have EC0 : ¬ EC (kk true) 0 := fun h => by have := h.1; simp [kk] at this
  have BX2 := hid (BXB.out.frm hs2.f (by rw [og]; exact EC0))
  have HB := hid hbv
  obtain ⟨A1, c1, rfl, _, _⟩ := hbv.len
  have og2 : o2 gs = 0 := (hs2.ag gs BXB.out.lt).trans og
  have hgl := IV.out.gl true
  clear hx2 hs2 ha2 h42 hbv k0 k1 k2 k3 k4 k5 n0 n1
  obtain ⟨Au, cu, hvu⟩ := own_slice' (H2.out.g true).1
  dsimp only at hvu
  have OU : Hid (w2.ownsRow B 5 1 (.slice Au (d.g true).length cu) (d.g true).length (u8s (d.g true))) := hid (hvu ▸ (H2.out.g true).1)
  have OWU := hid (hvu ▸ H2.out.go true : Ow o2 w2 (304 + sN true) (.slice Au (d.g true).length cu))
  have HVU := hid hvu
  have n4 := H2.out.blk.cell 5
  have f4 := H2.out.blk.free 5
  have k1 := BX2.out.cell 1
  simp only [gA, gZ, gC] at n4 k1
  rw [hvu] at n4
  have sB2 : B ≤ w2.heap.size := Nat.le_trans hB S2.out.size
  have gsl := BX2.out.lt
  have gdl := H2.out.blk.lt
  have hgs4 : ¬ (Value.slice Au (d.g true).length cu).ownBlock = some gs := fun e => by have := (OWU.out gs e).1; omega
  have hgd4 : ¬ (Value.slice Au (d.g true).length cu).ownBlock = some gd := fun e => by have := (OWU.out gd e).1; have := H2.out.og; omega
  have HSL := hid HB.out.sl
  clear hvu
  go_wp2_with fail
  first | (go_region_law (first | (refine step_app (v := .slice Au (d.g true).length cu) B (by rfl) _ _ 25 5 (.int .u8 0) 1 1 (by rfl) Tryz.underlying25 HI.out rfl (by omega) (by omega) (by rfl) (by rfl) (show w2.drew.ownsRow B 5 1 _ _ _ from OU.out) (show Sl w2.drew 1 _ _ _ from HSL.out) (by omega) sB2 ?_; intro v7 w7 hown hfr hat; have F7 : Hid (Frm (fun j => (Value.slice Au (d.g true).length cu).ownBlock = some j) w2 w7) := hid ((Frm.refl _ w2).drew.trans hfr); have O7 := hid hown; have HAT : Hid (v7.ownBlock = (Value.slice Au (d.g true).length cu).ownBlock ∨ ∀ j, v7.ownBlock = some j → w2.heap.size ≤ j) := hid (hat.imp id (fun e j hj => by rw [e] at hj; injection hj with hj; rw [← hj]; exact Nat.le_refl _)); have e4 := (show w7.cell? ⟨gd, 5, none⟩ = w2.cell? ⟨gd, 5, none⟩ from World.cell?_of_block (F7.out.block gd gdl hgd4)).trans n4; have g4 := (show w7.frozen? ⟨gd, 5, none⟩ = w2.frozen? ⟨gd, 5, none⟩ from World.frozen?_of_block (F7.out.block gd gdl hgd4)).trans f4; have e1 := (show w7.cell? ⟨gs, 1, none⟩ = w2.cell? ⟨gs, 1, none⟩ from World.cell?_of_block (F7.out.block gs gsl hgs4)).trans k1; obtain ⟨A7, c7_, rfl⟩ := own_slice' hown; clear hown hfr hat) | fail)) | fail
  all_goals
   obtain ⟨o9, h9, s9⟩ := H2.out.got true (l1 := l1) (by dsimp only; rw [HVU.out]; exact F7.out) (by dsimp only; exact O7.out) (by dsimp only; rw [HVU.out]; exact HAT.out) HB.out.byt
   have R : Hid (DuR o B w gd N _) := hid ⟨o9, _, _, h9, S2.out.trans (s9.mono (fun c hc => by rcases hc with rfl | rfl <;> simp [DC, sN])), I2.out.gotw _ (by dsimp only; rw [List.length_append]; omega)⟩
   clear h9 s9
   go_wp2_with fail
   go_ret
   exact ⟨_, rfl, R.out⟩
end

section
set_option maxHeartbeats 16000000 in
set_option maxRecDepth 100000 in
theorem do_k7 (o : Nat → Nat) (B : Nat) (w : World) (gd N : Nat) (d : DuV) (wl : List (Int × Ev)) (s : Bool) (n bit mask : Int) (v : Value) (l : List Int) (h : DuS o B w gd d) (hi : DInv (fun _ => N) d wl) (hN : N + 500000 ≤ 40000000) (hB : B ≤ w.heap.size) (hv : BV w (frozen o) v l) (hl : l.length ≤ 1000000) :
  Calls Tryz.prog 31 #[.pointer (some ⟨gd, 0, none⟩), .agg #[.int .i64 7, .int .i64 (sI s), .int .i64 n, .int .i64 bit, .int .u32 mask, v]] w fun e w' => DoR o B w gd N d wl e w' := by
 obtain ⟨Av, cv, rfl, _, _⟩ := hv.len
 obtain ⟨w0, hw0⟩ := lx (w.alloc (.cells #[.int .i64 7, .int .i64 (sI s), .int .i64 n, .int .i64 bit, .int .u32 mask, .slice Av l.length cv] 61))
 obtain ⟨gs, hgs⟩ := lx (w.heap.size)
 have B0 : Hid (Below w.heap.size w w0) := hid (by rw [hw0]; exact ba)
 have BX : Hid (Blk w0 gs #[.int .i64 7, .int .i64 (sI s), .int .i64 n, .int .i64 bit, .int .u32 mask, .slice Av l.length cv] 61) := hid (by rw [hw0, hgs]; exact Blk.new _ _ _)
 have S0 : Hid (Stp (fun _ => False) o (scr o w.heap.size 0) w w0) := hid ⟨Frm.of_below B0.out, scr_agr _ _ _⟩
 have og : scr o w.heap.size 0 gs = 0 := by rw [hgs]; exact scr_new (Nat.le_refl _)
 obtain ⟨o0, ho0⟩ := lx (scr o w.heap.size 0)
 rw [← ho0] at S0 og
 have H0 := hid (h.frm S0.out (fun h => h) (fun _ h => h.elim))
 have V0 : Hid (BV w0 (frozen o0) (.slice Av l.length cv) l) := hid (BV.stpK hv S0.out (fun h => h))
 have IV := hid hi
 have hw0' := hw0.symm
 have hgs' := hgs.symm
 have sB : B ≤ w0.heap.size := Nat.le_trans hB B0.out.size
 have k0 := BX.out.cell 0
 have k1 := BX.out.cell 1
 have k2 := BX.out.cell 2
 have k3 := BX.out.cell 3
 have k4 := BX.out.cell 4
 have k5 := BX.out.cell 5
 have n0 := H0.out.blk.cell 0
 have n1 := H0.out.blk.cell 1
 simp only [gA, gZ, gC] at k0 k1 k2 k3 k4 k5 n0 n1
 clear h hi hv hw0 hgs ho0
 cases s
 case false =>
  have e0 : sI false = 0 := rfl
  rw [e0] at hw0' k1 BX ⊢
  clear e0
  go_enter Tryz.func31, Tryz.ntmps31
  go_wp2_with fail
  clear hw0' hgs'
  go_quiet (fail)
  obtain ⟨wb, hwb⟩ := lx (w0.drewN nq)
  rw [← hwb]
  have GB : Hid (Below w0.heap.size w0 wb) := hid (by rw [hwb]; exact below_drewN (Below.refl _ _) _)
  have SB : Hid (Stp (fun _ => False) o o0 w wb) := hid (S0.out.trans (Stp.below GB.out))
  have HD := hid (H0.out.below GB.out)
  have VB := hid (V0.out.below GB.out)
  have BXB := hid (BX.out.below GB.out)
  have sBb : B ≤ wb.heap.size := Nat.le_trans sB GB.out.size
  clear hwb H0 V0 BX k0 k1 k2 k3 k4 k5 n0 n1
  have k0 := BXB.out.cell 0
  have k1 := BXB.out.cell 1
  have k2 := BXB.out.cell 2
  have k3 := BXB.out.cell 3
  have k4 := BXB.out.cell 4
  have k5 := BXB.out.cell 5
  have n0 := HD.out.blk.cell 0
  have n1 := HD.out.blk.cell 1
  simp only [gA, gZ, gC] at k0 k1 k2 k3 k4 k5 n0 n1
  go_wp2_with fail
  refine wp_region_held_drew (S := fun w' => w'.cell? ⟨gs, 1, none⟩ = some (.int .i64 0) ∧ w'.cell? ⟨gs, 2, none⟩ = some (.int .i64 n)) (by kernel_rfl) ⟨k1, k2⟩ (fun hHeld => ?_)
  obtain ⟨wd, hwd⟩ := lx (wb.drew)
  have GD : Hid (Below wb.heap.size wb wd) := hid (by rw [hwd]; exact bD)
  have HDD := hid (HD.out.below GD.out)
  have BXD := hid (BXB.out.below GD.out)
  have sBd : B ≤ wd.heap.size := Nat.le_trans sBb GD.out.size
  have SD := hid (SB.out.trans (Stp.below GD.out))
  have IN : Hid (∀ c, (c = 300 ∨ c = 302 + sN false) → DC c) := hid (fun c hc => by rcases hc with rfl | rfl <;> simp [DC, sN])
  rw [← hwd] at hHeld ⊢
  clear hwd k0 k1 k2 k3 k4 k5 n0 n1
  refine tk 0 (oi := ⟨some 124, _, _, _, _, _⟩) rfl ?_
  refine tk 1 (oi := ⟨some 125, _, _, _, _, _⟩) rfl ?_
  refine tk 2 (oi := ⟨some 126, _, _, _, _, _⟩) rfl ?_
  refine tk 3 (oi := ⟨some 127, _, _, _, _, _⟩) rfl ?_
  refine tk 4 (oi := ⟨some 128, _, _, _, _, _⟩) rfl ?_
  refine tk 5 (oi := ⟨some 129, _, _, _, _, _⟩) rfl ?_
  refine tk 6 (oi := ⟨some 130, _, _, _, _, _⟩) rfl ?_
  refine rD 7 (o := ⟨some 131, _, _, _, _, _⟩) rfl (fun K hK => ?_)
  go_simp
  refine (ntake_any wd gd o0 B d.v d.l false n (HDD.out.blk.cell 2) (HDD.out.blk.cell 3) (fun i => HDD.out.blk.free i) HDD.out.n HDD.out.og sBd (by have := IV.out.nl false; omega)).mono ?_
  rintro e w2 (⟨hno, rfl, rfl⟩ | ⟨i, y, vy, hin, hy, hvy, rfl, hset⟩)
  ·refine Ko hK ⟨BXD.out.cell 1, BXD.out.cell 2⟩ (fun hHeld => ?_)
   clear hK K
   refine tk 8 (oi := ⟨some 123, _, _, _, _, _⟩) rfl ?_
   refine tk 9 (oi := ⟨some 132, _, _, _, _, _⟩) rfl ?_
   refine tk 10 (oi := ⟨some 133, _, _, _, _, _⟩) rfl ?_
   refine tk 11 (oi := ⟨some 9, _, _, _, _, _⟩) rfl ?_
   refine tk 12 (oi := ⟨some 10, _, _, _, _, _⟩) rfl ?_
   refine dn ?_
   clear hHeld hno
   have R : Hid (Stp (fun _ => False) o o0 w wd) := SD
   go_wp2_with fail
   refine (unpack_any wd (frozen o0) _ [] (BV.nil _ _) (by simp)).mono ?_
   rintro e w3 ⟨p, vd, q, rfl, hvd, _, _, hb3⟩
   obtain ⟨Ad, cd, rfl, _, _⟩ := hvd.len
   have R : Hid (∀ W, Below wd.heap.size wd W → DuR o B w gd N W) := hid (fun W hW => DuR.rest hN ((SD.out.trans (Stp.below hW)).mono (fun _ h => h.elim)) (HDD.out.below hW) IV.out)
   have B3 := hid hb3
   have s3 := hb3.size
   clear hb3 hvd
   go_wp2_with fail
   go_ret
   exact ⟨_, rfl, R.out _ (B3.out.alloc s3 _)⟩
  ·obtain ⟨o2, v2, h2, s2⟩ := HDD.out.putN hset
   have H2 := hid h2
   have S2 := hid s2
   have BX2 := hid (BXD.out.frm s2.f (by rw [og]; simp [sN]))
   have VY := hid (BV.stpK hvy s2 (by omega))
   have HYM := hid (List.mem_of_getElem? hy)
   have I2 := hid (IV.out.netw (s := false) (l' := (d.l false).take i ++ (d.l false).drop (i + 1)) (up d.v false v2) (by have := IV.out.nl false; rw [List.length_append, List.length_take, List.length_drop]; omega) (fun z hz => IV.out.net false z (by
    rcases List.mem_append.1 hz with h | h
    ·exact List.mem_of_mem_take h
    ·exact List.mem_of_mem_drop h)))
   have SA : Hid (Stp DC o o2 w w2) := hid ((SD.out.mono (fun _ h => h.elim)).trans (s2.mono IN.out))
   obtain ⟨Ay, cy, rfl, _, _⟩ := hvy.len
   clear h2 s2 hset hy hvy hin
   refine Ko hK ⟨BX2.out.cell 1, BX2.out.cell 2⟩ (fun hHeld => ?_)
   clear hK K
   refine tk 8 (oi := ⟨some 123, _, _, _, _, _⟩) rfl ?_
   refine tk 9 (oi := ⟨some 132, _, _, _, _, _⟩) rfl ?_
   refine tk 10 (oi := ⟨some 133, _, _, _, _, _⟩) rfl ?_
   refine tk 11 (oi := ⟨some 9, _, _, _, _, _⟩) rfl ?_
   refine tk 12 (oi := ⟨some 10, _, _, _, _, _⟩) rfl ?_
   refine dn ?_
   clear hHeld
   go_wp2_with fail
   refine (unpack_any w2 (frozen o2) _ y.1 VY.out (by have := (IV.out.net false y HYM.out).len; omega)).mono ?_
   rintro e w3 ⟨p, vd, q, rfl, hvd, hpl, hq, hb3⟩
   obtain ⟨Ad, cd, rfl, _, _⟩ := hvd.len
   have s3 := hb3.size
   obtain ⟨W, hW⟩ := lx (w3.alloc (.cells #[.int .i64 p.kind, .int .i64 p.path, .int .i64 p.number, .int .i64 p.of_, .int .i64 p.from_, .slice Ad p.data.length cd, .bool p.fin, .int .i64 p.seen, .int .i64 p.limit] 27))
   have BW : Hid (Below w2.heap.size w2 W) := hid (by rw [hW]; exact hb3.alloc s3 _)
   obtain ⟨gp, hgp⟩ := lx (w3.heap.size)
   have BXW : Hid (Blk W gp (pcells p (.slice Ad p.data.length cd)).toArray 27) := hid (by rw [hW, hgp]; exact Blk.new _ _ _)
   obtain ⟨j0, j1, j2, j3, j4, j5, j6, j7, j8⟩ := PB.of BXW.out
   have hW' := hW.symm
   have hgp' := hgp.symm
   have SW : Hid (Stp (fun _ => False) o2 (scr o2 w2.heap.size 0) w2 W) := hid ⟨Frm.of_below BW.out, scr_agr _ _ _⟩
   have HW := hid (H2.out.frm SW.out (fun h => h) (fun _ h => h.elim))
   have VW : Hid (BV W (frozen (scr o2 w2.heap.size 0)) (.slice Ad p.data.length cd) p.data) := hid ((hvd.below (show Below w3.heap.size w3 W by rw [hW]; exact ba)).mono (fun j hj _ => scr_new hj))
   have SAW : Hid (Stp DC o (scr o2 w2.heap.size 0) w W) := hid (SA.out.trans (SW.out.mono (fun _ h => h.elim)))
   have NOK := hid (IV.out.net false y HYM.out)
   have HQ := hid hq
   have HPL : Hid (p.data.length ≤ 1000000) := hid (by have := NOK.out.len; omega)
   clear hvd hb3 hpl hq hW hgp
   cases q
   ·go_wp2_with fail
    go_ret
    exact ⟨_, rfl, DuR.rest hN SAW.out HW.out I2.out⟩
   ·obtain ⟨rp, he⟩ := HQ.out rfl
    have CM := hid (NOK.out.came VY.out.byt rp he)
    clear rp he HQ
    go_wp2_with fail
    refine (come_any (scr o2 w2.heap.size 0) (kk false) B N W (d.ge false) (d.x false) p Ad cd (HW.out.e false) (I2.out.ok false) hN (Nat.le_trans hB SAW.out.size) VW.out HPL.out).mono ?_
    rintro e w5 ⟨q5, rfl, o5, x5, es5, hx5, hs5, ha5, h45⟩
    have R : Hid (DuR o B w gd N w5) := hid (DuR.act (s := false) hN SAW.out HW.out I2.out hx5 hs5 ha5 (fun e he h => by rw [h45 e he h]; exact CM.out))
    clear hx5 hs5 ha5 h45
    go_wp2_with fail
    go_ret
    exact ⟨_, rfl, R.out⟩
 case true =>
  have e0 : sI true = 1 := rfl
  rw [e0] at hw0' k1 BX ⊢
  clear e0
  go_enter Tryz.func31, Tryz.ntmps31
  go_wp2_with fail
  clear hw0' hgs'
  go_quiet (fail)
  obtain ⟨wb, hwb⟩ := lx (w0.drewN nq)
  rw [← hwb]
  have GB : Hid (Below w0.heap.size w0 wb) := hid (by rw [hwb]; exact below_drewN (Below.refl _ _) _)
  have SB : Hid (Stp (fun _ => False) o o0 w wb) := hid (S0.out.trans (Stp.below GB.out))
  have HD := hid (H0.out.below GB.out)
  have VB := hid (V0.out.below GB.out)
  have BXB := hid (BX.out.below GB.out)
  have sBb : B ≤ wb.heap.size := Nat.le_trans sB GB.out.size
  clear hwb H0 V0 BX k0 k1 k2 k3 k4 k5 n0 n1
  have k0 := BXB.out.cell 0
  have k1 := BXB.out.cell 1
  have k2 := BXB.out.cell 2
  have k3 := BXB.out.cell 3
  have k4 := BXB.out.cell 4
  have k5 := BXB.out.cell 5
  have n0 := HD.out.blk.cell 0
  have n1 := HD.out.blk.cell 1
  simp only [gA, gZ, gC] at k0 k1 k2 k3 k4 k5 n0 n1
  go_wp2_with fail
  refine wp_region_held_drew (S := fun w' => w'.cell? ⟨gs, 1, none⟩ = some (.int .i64 1) ∧ w'.cell? ⟨gs, 2, none⟩ = some (.int .i64 n)) (by kernel_rfl) ⟨k1, k2⟩ (fun hHeld => ?_)
  obtain ⟨wd, hwd⟩ := lx (wb.drew)
  have GD : Hid (Below wb.heap.size wb wd) := hid (by rw [hwd]; exact bD)
  have HDD := hid (HD.out.below GD.out)
  have BXD := hid (BXB.out.below GD.out)
  have sBd : B ≤ wd.heap.size := Nat.le_trans sBb GD.out.size
  have SD := hid (SB.out.trans (Stp.below GD.out))
  have IN : Hid (∀ c, (c = 300 ∨ c = 302 + sN true) → DC c) := hid (fun c hc => by rcases hc with rfl | rfl <;> simp [DC, sN])
  rw [← hwd] at hHeld ⊢
  clear hwd k0 k1 k2 k3 k4 k5 n0 n1
  refine tk 0 (oi := ⟨some 124, _, _, _, _, _⟩) rfl ?_
  refine tk 1 (oi := ⟨some 125, _, _, _, _, _⟩) rfl ?_
  refine tk 2 (oi := ⟨some 126, _, _, _, _, _⟩) rfl ?_
  refine tk 3 (oi := ⟨some 127, _, _, _, _, _⟩) rfl ?_
  refine tk 4 (oi := ⟨some 128, _, _, _, _, _⟩) rfl ?_
  refine tk 5 (oi := ⟨some 129, _, _, _, _, _⟩) rfl ?_
  refine tk 6 (oi := ⟨some 130, _, _, _, _, _⟩) rfl ?_
  refine rD 7 (o := ⟨some 131, _, _, _, _, _⟩) rfl (fun K hK => ?_)
  go_simp
  refine (ntake_any wd gd o0 B d.v d.l true n (HDD.out.blk.cell 2) (HDD.out.blk.cell 3) (fun i => HDD.out.blk.free i) HDD.out.n HDD.out.og sBd (by have := IV.out.nl true; omega)).mono ?_
  rintro e w2 (⟨hno, rfl, rfl⟩ | ⟨i, y, vy, hin, hy, hvy, rfl, hset⟩)
  ·refine Ko hK ⟨BXD.out.cell 1, BXD.out.cell 2⟩ (fun hHeld => ?_)
   clear hK K
   refine tk 8 (oi := ⟨some 123, _, _, _, _, _⟩) rfl ?_
   refine tk 9 (oi := ⟨some 132, _, _, _, _, _⟩) rfl ?_
   refine tk 10 (oi := ⟨some 133, _, _, _, _, _⟩) rfl ?_
   refine tk 11 (oi := ⟨some 9, _, _, _, _, _⟩) rfl ?_
   refine tk 12 (oi := ⟨some 10, _, _, _, _, _⟩) rfl ?_
   refine dn ?_
   clear hHeld hno
   have R : Hid (Stp (fun _ => False) o o0 w wd) := SD
   go_wp2_with fail
   refine (unpack_any wd (frozen o0) _ [] (BV.nil _ _) (by simp)).mono ?_
   rintro e w3 ⟨p, vd, q, rfl, hvd, _, _, hb3⟩
   obtain ⟨Ad, cd, rfl, _, _⟩ := hvd.len
   have R : Hid (∀ W, Below wd.heap.size wd W → DuR o B w gd N W) := hid (fun W hW => DuR.rest hN ((SD.out.trans (Stp.below hW)).mono (fun _ h => h.elim)) (HDD.out.below hW) IV.out)
   have B3 := hid hb3
   have s3 := hb3.size
   clear hb3 hvd
   go_wp2_with fail
   go_ret
   exact ⟨_, rfl, R.out _ (B3.out.alloc s3 _)⟩
  ·obtain ⟨o2, v2, h2, s2⟩ := HDD.out.putN hset
   have H2 := hid h2
   have S2 := hid s2
   have BX2 := hid (BXD.out.frm s2.f (by rw [og]; simp [sN]))
   have VY := hid (BV.stpK hvy s2 (by omega))
   have HYM := hid (List.mem_of_getElem? hy)
   have I2 := hid (IV.out.netw (s := true) (l' := (d.l true).take i ++ (d.l true).drop (i + 1)) (up d.v true v2) (by have := IV.out.nl true; rw [List.length_append, List.length_take, List.length_drop]; omega) (fun z hz => IV.out.net true z (by
    rcases List.mem_append.1 hz with h | h
    ·exact List.mem_of_mem_take h
    ·exact List.mem_of_mem_drop h)))
   have SA : Hid (Stp DC o o2 w w2) := hid ((SD.out.mono (fun _ h => h.elim)).trans (s2.mono IN.out))
   obtain ⟨Ay, cy, rfl, _, _⟩ := hvy.len
   clear h2 s2 hset hy hvy hin
   refine Ko hK ⟨BX2.out.cell 1, BX2.out.cell 2⟩ (fun hHeld => ?_)
   clear hK K
   refine tk 8 (oi := ⟨some 123, _, _, _, _, _⟩) rfl ?_
   refine tk 9 (oi := ⟨some 132, _, _, _, _, _⟩) rfl ?_
   refine tk 10 (oi := ⟨some 133, _, _, _, _, _⟩) rfl ?_
   refine tk 11 (oi := ⟨some 9, _, _, _, _, _⟩) rfl ?_
   refine tk 12 (oi := ⟨some 10, _, _, _, _, _⟩) rfl ?_
   refine dn ?_
   clear hHeld
   go_wp2_with fail
   refine (unpack_any w2 (frozen o2) _ y.1 VY.out (by have := (IV.out.net true y HYM.out).len; omega)).mono ?_
   rintro e w3 ⟨p, vd, q, rfl, hvd, hpl, hq, hb3⟩
   obtain ⟨Ad, cd, rfl, _, _⟩ := hvd.len
   have s3 := hb3.size
   obtain ⟨W, hW⟩ := lx (w3.alloc (.cells #[.int .i64 p.kind, .int .i64 p.path, .int .i64 p.number, .int .i64 p.of_, .int .i64 p.from_, .slice Ad p.data.length cd, .bool p.fin, .int .i64 p.seen, .int .i64 p.limit] 27))
   have BW : Hid (Below w2.heap.size w2 W) := hid (by rw [hW]; exact hb3.alloc s3 _)
   obtain ⟨gp, hgp⟩ := lx (w3.heap.size)
   have BXW : Hid (Blk W gp (pcells p (.slice Ad p.data.length cd)).toArray 27) := hid (by rw [hW, hgp]; exact Blk.new _ _ _)
   obtain ⟨j0, j1, j2, j3, j4, j5, j6, j7, j8⟩ := PB.of BXW.out
   have hW' := hW.symm
   have hgp' := hgp.symm
   have SW : Hid (Stp (fun _ => False) o2 (scr o2 w2.heap.size 0) w2 W) := hid ⟨Frm.of_below BW.out, scr_agr _ _ _⟩
   have HW := hid (H2.out.frm SW.out (fun h => h) (fun _ h => h.elim))
   have VW : Hid (BV W (frozen (scr o2 w2.heap.size 0)) (.slice Ad p.data.length cd) p.data) := hid ((hvd.below (show Below w3.heap.size w3 W by rw [hW]; exact ba)).mono (fun j hj _ => scr_new hj))
   have SAW : Hid (Stp DC o (scr o2 w2.heap.size 0) w W) := hid (SA.out.trans (SW.out.mono (fun _ h => h.elim)))
   have NOK := hid (IV.out.net true y HYM.out)
   have HQ := hid hq
   have HPL : Hid (p.data.length ≤ 1000000) := hid (by have := NOK.out.len; omega)
   clear hvd hb3 hpl hq hW hgp
   cases q
   ·go_wp2_with fail
    go_ret
    exact ⟨_, rfl, DuR.rest hN SAW.out HW.out I2.out⟩
   ·obtain ⟨rp, he⟩ := HQ.out rfl
    have CM := hid (NOK.out.came VY.out.byt rp he)
    clear rp he HQ
    go_wp2_with fail
    refine (come_any (scr o2 w2.heap.size 0) (kk true) B N W (d.ge true) (d.x true) p Ad cd (HW.out.e true) (I2.out.ok true) hN (Nat.le_trans hB SAW.out.size) VW.out HPL.out).mono ?_
    rintro e w5 ⟨q5, rfl, o5, x5, es5, hx5, hs5, ha5, h45⟩
    have R : Hid (DuR o B w gd N w5) := hid (DuR.act (s := true) hN SAW.out HW.out I2.out hx5 hs5 ha5 (fun e he h => by rw [h45 e he h]; exact CM.out))
    clear hx5 hs5 ha5 h45
    go_wp2_with fail
    go_ret
    exact ⟨_, rfl, R.out⟩
end
end Go.Proofs.YtdneakejlbabeaaGreat
