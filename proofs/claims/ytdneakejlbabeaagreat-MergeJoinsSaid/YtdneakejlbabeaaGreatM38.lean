/- Parts of the walk: Vb, Vc, Vd. -/
import Derived.Test.YtdneakejlbabeaaGreatM00
import Derived.Test.YtdneakejlbabeaaGreatM37
namespace Go.Proofs.YtdneakejlbabeaaGreat
open Go.RowKit
set_option linter.unusedVariables false
set_option linter.unusedSimpArgs false
section
attribute [local go_sem] run_max2' run_min2' run_max_ run_min_
theorem Tryz.size61 : (Tryz.prog.info? 61).map (·.size) = some 6 := by kernel_rfl
abbrev stA (kd sd n bit mask : Int) (v : Value) : Value := .agg #[.int .i64 kd, .int .i64 sd, .int .i64 n, .int .i64 bit, .int .u32 mask, v]
abbrev stC (kd sd n bit mask : Int) (v : Value) : Array Value := #[.int .i64 kd, .int .i64 sd, .int .i64 n, .int .i64 bit, .int .u32 mask, v]
abbrev chA (c : ChV) (v : Value) : Value := .agg #[.int .i64 c.kd, .int .i64 c.sd, .int .i64 c.n, .int .i64 c.bit, .int .u32 c.mask, v]
def StepR (w : World) (e : Ending) (w' : World) : Prop := ∃ (kd sd n bit mask : Int) (v : Value) (l : List Int), e = .returned (stA kd sd n bit mask v) ∧ BV w' (fun j => w.heap.size ≤ j) v l ∧ l.length ≤ 1000000 ∧ Below w.heap.size w w'
def fill6 (W : World) (g : Nat) (a b c d e f : Value) : World := (((((W.setCell ⟨g, 0, none⟩ a).setCell ⟨g, 1, none⟩ b).setCell ⟨g, 2, none⟩ c).setCell ⟨g, 3, none⟩ d).setCell ⟨g, 4, none⟩ e).setCell ⟨g, 5, none⟩ f
theorem step_fin {w W : World} {gr : Nat} (kd sd n bit mask : Int) (v : Value) (l : List Int) (hr : Blk W gr (stC 0 0 0 0 0 (.slice none 0 0)) 61) (hb : Below w.heap.size w W) (hg : w.heap.size ≤ gr) (hv : BV W (fun j => w.heap.size ≤ j ∧ j ≠ gr) v l) (hl : l.length ≤ 1000000) :
  Blk (fill6 W gr (.int .i64 kd) (.int .i64 sd) (.int .i64 n) (.int .i64 bit) (.int .u32 mask) v) gr (stC kd sd n bit mask v) 61 ∧ StepR w (.returned (stA kd sd n bit mask v)) (fill6 W gr (.int .i64 kd) (.int .i64 sd) (.int .i64 n) (.int .i64 bit) (.int .u32 mask) v) := by
 have f : Frm (· = gr) W (fill6 W gr (.int .i64 kd) (.int .i64 sd) (.int .i64 n) (.int .i64 bit) (.int .u32 mask) v) := ((((((Frm.refl _ W).setg _).setg _).setg _).setg _).setg _).setg _
 refine ⟨?_, kd, sd, n, bit, mask, v, l, rfl, (hv.frm f (fun j hj e => hj.2 e)).mono (fun j hj _ => hj.1), hl, Frm.below hb f hb.size (fun i hi => by rw [hi]; exact hg)⟩
 have := (((((hr.set 0 (.int .i64 kd)).set 1 (.int .i64 sd)).set 2 (.int .i64 n)).set 3 (.int .i64 bit)).set 4 (.int .u32 mask)).set 5 v
 unfold fill6
 simpa [stC] using this
set_option maxHeartbeats 16000000 in
set_option maxRecDepth 100000 in
theorem hstep_any (o : Nat → Nat) (B : Nat) (w : World) (gd : Nat) (d : DuV) (c : ChV) (S : Nat → Prop) (v : Value) (h : DuS o B w gd d) (hl : ∀ s, (d.l s).length ≤ 200) (hv : BV w S v c.data) :
  Calls Tryz.prog 21 #[.pointer (some ⟨gd, 0, none⟩), chA c v] w fun e w' => StepR w e w' := by
 obtain ⟨Av, cv, rfl, _, _⟩ := hv.len
 have H := hid h
 have HV := hid hv
 obtain ⟨z2, hz2⟩ := lx (c.sd % 2)
 have zz2 : z2 = 0 ∨ z2 = 1 := by omega
 obtain ⟨gch, hgch⟩ := lx (w.heap.size)
 obtain ⟨W0, hW0⟩ := lx ((w.alloc (.cells #[.int .i64 c.kd, .int .i64 c.sd, .int .i64 c.n, .int .i64 c.bit, .int .u32 c.mask, .slice Av c.data.length cv] 64)).alloc (.cells #[.int .i64 0, .int .i64 0, .int .i64 0, .int .i64 0, .int .u32 0, .slice none 0 0] 61))
 obtain ⟨gr, hgr⟩ := lx (w.heap.size + 1)
 have BC : Hid (Blk W0 gch #[.int .i64 c.kd, .int .i64 c.sd, .int .i64 c.n, .int .i64 c.bit, .int .u32 c.mask, .slice Av c.data.length cv] 64) := hid (by rw [hW0, hgch]; exact (Blk.new _ _ _).alloc _)
 have BR : Hid (Blk W0 gr (stC 0 0 0 0 0 (.slice none 0 0)) 61) := hid (by
  have := Blk.new (w.alloc (.cells #[.int .i64 c.kd, .int .i64 c.sd, .int .i64 c.n, .int .i64 c.bit, .int .u32 c.mask, .slice Av c.data.length cv] 64)) (stC 0 0 0 0 0 (.slice none 0 0)) 61
  rw [hW0, hgr]
  simpa using this)
 have B0 : Hid (Below w.heap.size w W0) := hid (by rw [hW0]; exact (ba).alloc (by simp) _)
 have hW0' := hW0.symm
 have hgch' := hgch.symm
 have hgr' : gch + 1 = gr := by omega
 have hgw : w.heap.size ≤ gr := by omega
 have hcr : gch ≠ gr := by omega
 clear h hv hW0 hgch hgr
 have k0 := BC.out.cell 0
 have k1 := BC.out.cell 1
 have k2 := BC.out.cell 2
 have k3 := BC.out.cell 3
 have k4 := BC.out.cell 4
 have k5 := BC.out.cell 5
 simp only [gA, gZ, gC] at k0 k1 k2 k3 k4 k5
 have hz2' := hz2.symm
 clear hz2
 go_enter Tryz.func21, Tryz.ntmps21
 go_wp2_with fail
 refine (within_any c.sd 2 W0 (by omega) (by omega)).mono ?_
 rintro e _ ⟨rfl, rfl⟩
 clear hW0' hgch' hgr'
 go_wp2_with fail
 obtain ⟨W1, hW1⟩ := lx (W0.alloc (.cells (stC 0 z2 0 0 0 (.slice none 0 0)) 61))
 obtain ⟨g6, hg6⟩ := lx (W0.heap.size)
 have B61 : Hid (Blk W1 g6 (stC 0 z2 0 0 0 (.slice none 0 0)) 61) := hid (by rw [hW1, hg6]; exact Blk.new _ _ _)
 have b01 : Below W0.heap.size W0 W1 := by rw [hW1]; exact ba
 have BC1 := hid (BC.out.below b01)
 have BR1 := hid (BR.out.below b01)
 have B1 := hid (bO B0.out b01)
 have hr6 : gr ≠ g6 := by have := BR.out.lt; omega
 have hc6 : gch ≠ g6 := by have := BC.out.lt; omega
 have hw6 : w.heap.size ≤ g6 := by have := B0.out.size; omega
 rw [← hW1, ← hg6]
 clear hW1 hg6 b01 k0 k1 k2 k3 k4 k5
 have H1 := hid (H.out.below B1.out)
 obtain ⟨A0, d0, e0⟩ := (H1.out.n false).form
 obtain ⟨A1, d1, e1⟩ := (H1.out.n true).form
 have n2 := H1.out.blk.cell 2
 have n3 := H1.out.blk.cell 3
 have k61 := B61.out.cell 1
 simp only [gA, gZ, gC] at n2 n3 k61
 rw [e0] at n2
 rw [e1] at n3
 have hl0 := hl false
 have hl1 := hl true
 have LN : Hid (Calls Tryz.prog 33 #[.pointer (some ⟨gd, 2, none⟩), .int .i64 z2] W1.drew fun e w' => e = .returned (.int .i64 (lenB (d.l false).length (d.l true).length z2)) ∧ W1.drew = w') := hid (nlen_any W1.drew gd 2 A0 A1 _ _ d0 d1 z2 n2 n3)
 obtain ⟨un, hun⟩ := lx (mx (lenB (d.l false).length (d.l true).length z2) 1)
 have hu : 1 ≤ un ∧ un ≤ 200 := by
  rw [hun]
  unfold mx lenB
  split <;> split <;> (try split) <;> omega
 have hun' := hun.symm
 clear hun e0 e1 n2 n3
 go_wp2_with fail
 refine wp_region_held_drew (S := fun w' => w'.cell? ⟨g6, 1, none⟩ = some (.int .i64 z2)) (by kernel_rfl) k61 (fun hHeld => ?_)
 refine tk 0 (oi := ⟨some 14, _, _, _, _, _⟩) rfl ?_
 refine tk 1 (oi := ⟨some 15, _, _, _, _, _⟩) rfl ?_
 refine tk 2 (oi := ⟨some 16, _, _, _, _, _⟩) rfl ?_
 refine tk 3 (oi := ⟨some 17, _, _, _, _, _⟩) rfl ?_
 refine tk 4 (oi := ⟨some 18, _, _, _, _, _⟩) rfl ?_
 refine rD 5 (o := ⟨some 19, _, _, _, _, _⟩) rfl (fun K hK => ?_)
 go_simp
 refine LN.out.mono ?_
 rintro e _ ⟨rfl, rfl⟩
 refine Ko hK k61 (fun hHeld => ?_)
 clear hK K
 refine tk 6 (oi := ⟨some 20, _, _, _, _, _⟩) rfl ?_
 refine tk 7 (oi := ⟨some 7, _, _, _, _, _⟩) rfl ?_
 refine dn ?_
 clear hHeld hun'
 obtain ⟨W2, hW2⟩ := lx (W1.drew)
 have B62 : Hid (Blk W2 g6 (stC 0 z2 0 0 0 (.slice none 0 0)) 61) := hid (by rw [hW2]; exact B61.out.drew)
 have BC2 : Hid (Blk W2 gch #[.int .i64 c.kd, .int .i64 c.sd, .int .i64 c.n, .int .i64 c.bit, .int .u32 c.mask, .slice Av c.data.length cv] 64) := hid (by rw [hW2]; exact BC1.out.drew)
 have BR2 : Hid (Blk W2 gr (stC 0 0 0 0 0 (.slice none 0 0)) 61) := hid (by rw [hW2]; exact BR1.out.drew)
 have B2 : Hid (Below w.heap.size w W2) := hid (by rw [hW2]; exact B1.out.drew)
 rw [← hW2]
 clear hW2 k61 LN
 have HV2 := hid (HV.out.below B2.out)
 have k0 := BC2.out.cell 0
 have k1 := BC2.out.cell 1
 have k2 := BC2.out.cell 2
 have k3 := BC2.out.cell 3
 have k4 := BC2.out.cell 4
 have k5 := BC2.out.cell 5
 simp only [gA, gZ, gC] at k0 k1 k2 k3 k4 k5
 obtain ⟨k, hk⟩ := lx (c.kd % 40)
 have hk0 : 0 ≤ k ∧ k < 40 := by omega
 have hk' := hk.symm
 clear hk
 go_wp2_with fail
 refine (within_any c.kd 40 W2 (by omega) (by omega)).mono ?_
 rintro e _ ⟨rfl, rfl⟩
 clear k0
 have FACTS : Hid (∀ W, Below W2.heap.size W2 W → (W.cell? ⟨g6, 0, none⟩ = some (.int .i64 0) ∧ W.cell? ⟨g6, 1, none⟩ = some (.int .i64 z2) ∧ W.cell? ⟨g6, 2, none⟩ = some (.int .i64 0) ∧ W.cell? ⟨g6, 3, none⟩ = some (.int .i64 0) ∧ W.cell? ⟨g6, 4, none⟩ = some (.int .u32 0) ∧ W.cell? ⟨g6, 5, none⟩ = some (.slice none 0 0)) ∧
   (W.frozen? ⟨g6, 0, none⟩ = false ∧ W.frozen? ⟨g6, 1, none⟩ = false ∧ W.frozen? ⟨g6, 2, none⟩ = false ∧ W.frozen? ⟨g6, 3, none⟩ = false ∧ W.frozen? ⟨g6, 4, none⟩ = false ∧ W.frozen? ⟨g6, 5, none⟩ = false) ∧
   (W.cell? ⟨gr, 0, none⟩ = some (.int .i64 0) ∧ W.cell? ⟨gr, 1, none⟩ = some (.int .i64 0) ∧ W.cell? ⟨gr, 2, none⟩ = some (.int .i64 0) ∧ W.cell? ⟨gr, 3, none⟩ = some (.int .i64 0) ∧ W.cell? ⟨gr, 4, none⟩ = some (.int .u32 0) ∧ W.cell? ⟨gr, 5, none⟩ = some (.slice none 0 0)) ∧
   (W.frozen? ⟨gr, 0, none⟩ = false ∧ W.frozen? ⟨gr, 1, none⟩ = false ∧ W.frozen? ⟨gr, 2, none⟩ = false ∧ W.frozen? ⟨gr, 3, none⟩ = false ∧ W.frozen? ⟨gr, 4, none⟩ = false ∧ W.frozen? ⟨gr, 5, none⟩ = false)) := hid (fun W hW => by
  have b6 := B62.out.below hW
  have br := BR2.out.below hW
  exact ⟨⟨b6.cell 0, b6.cell 1, b6.cell 2, b6.cell 3, b6.cell 4, b6.cell 5⟩, ⟨b6.free 0, b6.free 1, b6.free 2, b6.free 3, b6.free 4, b6.free 5⟩, ⟨br.cell 0, br.cell 1, br.cell 2, br.cell 3, br.cell 4, br.cell 5⟩, ⟨br.free 0, br.free 1, br.free 2, br.free 3, br.free 4, br.free 5⟩⟩)
 have FIN : Hid (∀ W, Below W2.heap.size W2 W → ∀ (kd sd n bit mask : Int) (v : Value) (l : List Int), BV W (fun j => W2.heap.size ≤ j) v l → l.length ≤ 1000000 → ∀ W', Frm (· = g6) W W' → Blk (fill6 W' gr (.int .i64 kd) (.int .i64 sd) (.int .i64 n) (.int .i64 bit) (.int .u32 mask) v) gr (stC kd sd n bit mask v) 61 ∧ StepR w (.returned (stA kd sd n bit mask v)) (fill6 W' gr (.int .i64 kd) (.int .i64 sd) (.int .i64 n) (.int .i64 bit) (.int .u32 mask) v)) := hid (fun W hW kd sd n bit mask v l hv hl W' f => by
  have bl6 := B62.out.lt
  have blr := BR2.out.lt
  have s2 := B2.out.size
  exact step_fin kd sd n bit mask v l ((BR2.out.below hW).frm f (fun e => hr6 e)) (Frm.below (bO B2.out hW) f (Nat.le_trans s2 hW.size) (fun i hi => by rw [hi]; exact hw6)) hgw ((hv.frm f (fun j hj e => by omega)).mono (fun j hj _ => ⟨by omega, by omega⟩)) hl)
 by_cases h8 : k < 8
 ·clear k1 k2 k3 k4
  go_wp2_with fail
  refine (cutb_any W2 _ c.data.length (u8s c.data) 60 HV2.out.sl (by omega)).mono ?_
  rintro e W3 ⟨v3, rfl, ho3, hb3⟩
  have B3 := hid hb3
  have hlen : (c.data.take 60).length = min c.data.length 60 := by rw [List.length_take]; omega
  have O3 : Hid (BV W3 (fun j => W2.heap.size ≤ j) v3 (c.data.take 60)) := hid (BO.bv ⟨by rw [hlen]; have := ho3; rw [show (u8s c.data).take 60 = u8s (c.data.take 60) from by unfold u8s; rw [List.map_take]] at this; exact this, fun x hx => HV2.out.byt x (List.mem_of_mem_take hx)⟩)
  obtain ⟨A3, c3, rfl⟩ := own_slice' ho3
  clear hb3 ho3 k5
  obtain ⟨⟨p0, p1, p2, p3, p4, p5⟩, ⟨q0, q1, q2, q3, q4, q5⟩, ⟨r0, r1, r2, r3, r4, r5⟩, ⟨t0, t1, t2, t3, t4, t5⟩⟩ := FACTS.out W3 B3.out
  go_wp2_with fail
  have RR := FIN.out W3 B3.out 1 z2 0 0 0 (.slice A3 (min c.data.length 60) c3) (c.data.take 60) O3.out (by rw [hlen]; omega) ((W3.setCell ⟨g6, 0, none⟩ (.int .i64 1)).setCell ⟨g6, 5, none⟩ (.slice A3 (min c.data.length 60) c3)) (((Frm.refl (· = g6) W3).setg (i := 0) (.int .i64 1)).setg (i := 5) (.slice A3 (min c.data.length 60) c3))
  unfold fill6 at RR
  refine bodyPost_ret (results_cell_row rfl _ _ gr 61 _ (0, 0) _ rfl RR.1 Tryz.underlying61 rfl Tryz.size61) rfl ?_
  exact RR.2
 by_cases h11 : k < 11
 ·clear k1 k3 k4 k5
  go_wp2_with fail
  refine (within_any c.n 40 W2 (by omega) (by omega)).mono ?_
  rintro e _ ⟨rfl, rfl⟩
  clear k2
  obtain ⟨⟨p0, p1, p2, p3, p4, p5⟩, ⟨q0, q1, q2, q3, q4, q5⟩, ⟨r0, r1, r2, r3, r4, r5⟩, ⟨t0, t1, t2, t3, t4, t5⟩⟩ := FACTS.out W2 (Below.refl _ _)
  go_wp2_with fail
  have RR := FIN.out W2 (Below.refl _ _) 2 z2 (c.n % 40) 0 0 (.slice none 0 0) [] (BV.nil _ _) (by simp) ((W2.setCell ⟨g6, 0, none⟩ (.int .i64 2)).setCell ⟨g6, 2, none⟩ (.int .i64 (c.n % 40))) (((Frm.refl (· = g6) W2).setg (i := 0) (.int .i64 2)).setg (i := 2) (.int .i64 (c.n % 40)))
  unfold fill6 at RR
  refine bodyPost_ret (results_cell_row rfl _ _ gr 61 _ (0, 0) _ rfl RR.1 Tryz.underlying61 rfl Tryz.size61) rfl ?_
  exact RR.2
 by_cases h12 : k < 12
 ·obtain rfl : k = 11 := by omega
  clear k1 k3 k4 k5
  clear k2
  obtain ⟨⟨p0, p1, p2, p3, p4, p5⟩, ⟨q0, q1, q2, q3, q4, q5⟩, ⟨r0, r1, r2, r3, r4, r5⟩, ⟨t0, t1, t2, t3, t4, t5⟩⟩ := FACTS.out W2 (Below.refl _ _)
  go_wp2_with fail
  have RR := FIN.out W2 (Below.refl _ _) 3 z2 0 0 0 (.slice none 0 0) [] (BV.nil _ _) (by simp) (W2.setCell ⟨g6, 0, none⟩ (.int .i64 3)) ((Frm.refl (· = g6) W2).setg (i := 0) (.int .i64 3))
  unfold fill6 at RR
  refine bodyPost_ret (results_cell_row rfl _ _ gr 61 _ (0, 0) _ rfl RR.1 Tryz.underlying61 rfl Tryz.size61) rfl ?_
  exact RR.2
 by_cases h17 : k < 17
 ·have iwn : IntKind.i64.wrap (1 + c.n % 6) = 1 + c.n % 6 := iX
  clear k1 k3 k4 k5
  go_wp2_with fail
  refine (within_any c.n 6 W2 (by omega) (by omega)).mono ?_
  rintro e _ ⟨rfl, rfl⟩
  clear k2
  obtain ⟨⟨p0, p1, p2, p3, p4, p5⟩, ⟨q0, q1, q2, q3, q4, q5⟩, ⟨r0, r1, r2, r3, r4, r5⟩, ⟨t0, t1, t2, t3, t4, t5⟩⟩ := FACTS.out W2 (Below.refl _ _)
  go_wp2_with fail
  have RR := FIN.out W2 (Below.refl _ _) 4 z2 (1 + c.n % 6) 0 0 (.slice none 0 0) [] (BV.nil _ _) (by simp) ((W2.setCell ⟨g6, 0, none⟩ (.int .i64 4)).setCell ⟨g6, 2, none⟩ (.int .i64 (1 + c.n % 6))) (((Frm.refl (· = g6) W2).setg (i := 0) (.int .i64 4)).setg (i := 2) (.int .i64 (1 + c.n % 6)))
  unfold fill6 at RR
  refine bodyPost_ret (results_cell_row rfl _ _ gr 61 _ (0, 0) _ rfl RR.1 Tryz.underlying61 rfl Tryz.size61) rfl ?_
  exact RR.2
 by_cases h20 : k < 20
 ·clear k1 k3 k4 k5
  go_wp2_with fail
  refine (within_any c.n 3 W2 (by omega) (by omega)).mono ?_
  rintro e _ ⟨rfl, rfl⟩
  clear k2
  obtain ⟨⟨p0, p1, p2, p3, p4, p5⟩, ⟨q0, q1, q2, q3, q4, q5⟩, ⟨r0, r1, r2, r3, r4, r5⟩, ⟨t0, t1, t2, t3, t4, t5⟩⟩ := FACTS.out W2 (Below.refl _ _)
  go_wp2_with fail
  have RR := FIN.out W2 (Below.refl _ _) 5 z2 (c.n % 3) 0 0 (.slice none 0 0) [] (BV.nil _ _) (by simp) ((W2.setCell ⟨g6, 0, none⟩ (.int .i64 5)).setCell ⟨g6, 2, none⟩ (.int .i64 (c.n % 3))) (((Frm.refl (· = g6) W2).setg (i := 0) (.int .i64 5)).setg (i := 2) (.int .i64 (c.n % 3)))
  unfold fill6 at RR
  refine bodyPost_ret (results_cell_row rfl _ _ gr 61 _ (0, 0) _ rfl RR.1 Tryz.underlying61 rfl Tryz.size61) rfl ?_
  exact RR.2
 by_cases h21 : k < 21
 ·obtain rfl : k = 20 := by omega
  clear k1 k3 k4 k5
  go_wp2_with fail
  refine (within_any c.n 3 W2 (by omega) (by omega)).mono ?_
  rintro e _ ⟨rfl, rfl⟩
  clear k2
  obtain ⟨⟨p0, p1, p2, p3, p4, p5⟩, ⟨q0, q1, q2, q3, q4, q5⟩, ⟨r0, r1, r2, r3, r4, r5⟩, ⟨t0, t1, t2, t3, t4, t5⟩⟩ := FACTS.out W2 (Below.refl _ _)
  go_wp2_with fail
  have RR := FIN.out W2 (Below.refl _ _) 6 z2 (c.n % 3) 0 0 (.slice none 0 0) [] (BV.nil _ _) (by simp) ((W2.setCell ⟨g6, 0, none⟩ (.int .i64 6)).setCell ⟨g6, 2, none⟩ (.int .i64 (c.n % 3))) (((Frm.refl (· = g6) W2).setg (i := 0) (.int .i64 6)).setg (i := 2) (.int .i64 (c.n % 3)))
  unfold fill6 at RR
  refine bodyPost_ret (results_cell_row rfl _ _ gr 61 _ (0, 0) _ rfl RR.1 Tryz.underlying61 rfl Tryz.size61) rfl ?_
  exact RR.2
 by_cases h33 : k < 33
 ·clear k1 k3 k4 k5
  go_wp2_with fail
  refine (within_any c.n un W2 (by omega) (by omega)).mono ?_
  rintro e _ ⟨rfl, rfl⟩
  clear k2
  obtain ⟨⟨p0, p1, p2, p3, p4, p5⟩, ⟨q0, q1, q2, q3, q4, q5⟩, ⟨r0, r1, r2, r3, r4, r5⟩, ⟨t0, t1, t2, t3, t4, t5⟩⟩ := FACTS.out W2 (Below.refl _ _)
  go_wp2_with fail
  have RR := FIN.out W2 (Below.refl _ _) 7 z2 (c.n % un) 0 0 (.slice none 0 0) [] (BV.nil _ _) (by simp) ((W2.setCell ⟨g6, 0, none⟩ (.int .i64 7)).setCell ⟨g6, 2, none⟩ (.int .i64 (c.n % un))) (((Frm.refl (· = g6) W2).setg (i := 0) (.int .i64 7)).setg (i := 2) (.int .i64 (c.n % un)))
  unfold fill6 at RR
  refine bodyPost_ret (results_cell_row rfl _ _ gr 61 _ (0, 0) _ rfl RR.1 Tryz.underlying61 rfl Tryz.size61) rfl ?_
  exact RR.2
 by_cases h35 : k < 35
 ·clear k1 k3 k4 k5
  go_wp2_with fail
  refine (within_any c.n un W2 (by omega) (by omega)).mono ?_
  rintro e _ ⟨rfl, rfl⟩
  clear k2
  obtain ⟨⟨p0, p1, p2, p3, p4, p5⟩, ⟨q0, q1, q2, q3, q4, q5⟩, ⟨r0, r1, r2, r3, r4, r5⟩, ⟨t0, t1, t2, t3, t4, t5⟩⟩ := FACTS.out W2 (Below.refl _ _)
  go_wp2_with fail
  have RR := FIN.out W2 (Below.refl _ _) 8 z2 (c.n % un) 0 0 (.slice none 0 0) [] (BV.nil _ _) (by simp) ((W2.setCell ⟨g6, 0, none⟩ (.int .i64 8)).setCell ⟨g6, 2, none⟩ (.int .i64 (c.n % un))) (((Frm.refl (· = g6) W2).setg (i := 0) (.int .i64 8)).setg (i := 2) (.int .i64 (c.n % un)))
  unfold fill6 at RR
  refine bodyPost_ret (results_cell_row rfl _ _ gr 61 _ (0, 0) _ rfl RR.1 Tryz.underlying61 rfl Tryz.size61) rfl ?_
  exact RR.2
 by_cases h37 : k < 37
 ·clear k1 k3 k4 k5
  go_wp2_with fail
  refine (within_any c.n un W2 (by omega) (by omega)).mono ?_
  rintro e _ ⟨rfl, rfl⟩
  clear k2
  obtain ⟨⟨p0, p1, p2, p3, p4, p5⟩, ⟨q0, q1, q2, q3, q4, q5⟩, ⟨r0, r1, r2, r3, r4, r5⟩, ⟨t0, t1, t2, t3, t4, t5⟩⟩ := FACTS.out W2 (Below.refl _ _)
  go_wp2_with fail
  have RR := FIN.out W2 (Below.refl _ _) 9 z2 (c.n % un) 0 0 (.slice none 0 0) [] (BV.nil _ _) (by simp) ((W2.setCell ⟨g6, 0, none⟩ (.int .i64 9)).setCell ⟨g6, 2, none⟩ (.int .i64 (c.n % un))) (((Frm.refl (· = g6) W2).setg (i := 0) (.int .i64 9)).setg (i := 2) (.int .i64 (c.n % un)))
  unfold fill6 at RR
  refine bodyPost_ret (results_cell_row rfl _ _ gr 61 _ (0, 0) _ rfl RR.1 Tryz.underlying61 rfl Tryz.size61) rfl ?_
  exact RR.2
 by_cases h39 : k < 39
 ·go_wp2_with fail
  have k0 := BC2.out.cell 0
  simp only [gA, gZ] at k0
  refine wp_region_held_drew (S := fun w' => w'.cell? ⟨gch, 0, none⟩ = some (.int .i64 c.kd) ∧ w'.cell? ⟨gch, 1, none⟩ = some (.int .i64 c.sd) ∧ w'.cell? ⟨gch, 2, none⟩ = some (.int .i64 c.n) ∧ w'.cell? ⟨gch, 3, none⟩ = some (.int .i64 c.bit) ∧ w'.cell? ⟨gch, 4, none⟩ = some (.int .u32 c.mask) ∧ w'.cell? ⟨gch, 5, none⟩ = some (.slice Av c.data.length cv)) (by kernel_rfl) ⟨k0, k1, k2, k3, k4, k5⟩ (fun hHeld => ?_)
  obtain ⟨wd, hwd⟩ := lx (W2.drew)
  have GD : Hid (Below W2.heap.size W2 wd) := hid (by rw [hwd]; exact bD)
  have BCD := hid (BC2.out.below GD.out)
  have SS : Hid (∀ W, Frm (· = g6) wd W → W.cell? ⟨gch, 0, none⟩ = some (.int .i64 c.kd) ∧ W.cell? ⟨gch, 1, none⟩ = some (.int .i64 c.sd) ∧ W.cell? ⟨gch, 2, none⟩ = some (.int .i64 c.n) ∧ W.cell? ⟨gch, 3, none⟩ = some (.int .i64 c.bit) ∧ W.cell? ⟨gch, 4, none⟩ = some (.int .u32 c.mask) ∧ W.cell? ⟨gch, 5, none⟩ = some (.slice Av c.data.length cv)) := hid (fun W hW => by
   have b := BCD.out.frm hW hc6
   exact ⟨b.cell 0, b.cell 1, b.cell 2, b.cell 3, b.cell 4, b.cell 5⟩)
  rw [← hwd] at hHeld ⊢
  clear hwd k0 k1 k2 k3 k4 k5
  obtain ⟨⟨p0, p1, p2, p3, p4, p5⟩, ⟨q0, q1, q2, q3, q4, q5⟩, ⟨r0, r1, r2, r3, r4, r5⟩, ⟨t0, t1, t2, t3, t4, t5⟩⟩ := FACTS.out wd GD.out
  refine tk 0 (oi := ⟨some 124, _, _, _, _, _⟩) rfl ?_
  refine tk 1 (oi := ⟨some 125, _, _, _, _, _⟩) rfl ?_
  refine tk 2 (oi := ⟨some 126, _, _, _, _, _⟩) rfl ?_
  refine tk 3 (oi := ⟨some 127, _, _, _, _, _⟩) rfl ?_
  refine tk 5 (oi := ⟨some 129, _, _, _, _, _⟩) rfl ?_
  refine tk 6 (oi := ⟨some 130, _, _, _, _, _⟩) rfl ?_
  refine tk 7 (oi := ⟨some 131, _, _, _, _, _⟩) rfl ?_
  refine tk 9 (oi := ⟨some 133, _, _, _, _, _⟩) rfl ?_
  refine tk 10 (oi := ⟨some 134, _, _, _, _, _⟩) rfl ?_
  refine tk 11 (oi := ⟨some 135, _, _, _, _, _⟩) rfl ?_
  refine rD 4 (o := ⟨some 128, _, _, _, _, _⟩) rfl (fun K hK => ?_)
  go_simp
  refine (within_any c.n un wd (by omega) (by omega)).mono ?_
  rintro e _ ⟨rfl, rfl⟩
  refine Ko hK (SS.out _ (Frm.refl _ _)) (fun hHeld => ?_)
  clear hK K
  refine rD 8 (o := ⟨some 132, _, _, _, _, _⟩) rfl (fun K hK => ?_)
  go_simp
  refine (within_any c.bit 160 wd (by omega) (by omega)).mono ?_
  rintro e _ ⟨rfl, rfl⟩
  refine Ko hK (SS.out _ (Frm.refl _ _)) (fun hHeld => ?_)
  clear hK K
  refine rD 12 (o := ⟨none, _, _, _, _, _⟩) rfl (fun K hK => ?_)
  go_simp
  refine Ko hK (SS.out (wd.setCell ⟨g6, 0, none⟩ (.int .i64 10)) ((Frm.refl (· = g6) wd).setg (i := 0) (.int .i64 10))) (fun hHeld => ?_)
  clear hK K
  refine tk 13 (oi := ⟨some 136, _, _, _, _, _⟩) rfl ?_
  refine rD 14 (o := ⟨none, _, _, _, _, _⟩) rfl (fun K hK => ?_)
  go_simp
  refine Ko hK (SS.out ((wd.setCell ⟨g6, 0, none⟩ (.int .i64 10)).setCell ⟨g6, 2, none⟩ (.int .i64 (c.n % un))) (((Frm.refl (· = g6) wd).setg (i := 0) (.int .i64 10)).setg (i := 2) (.int .i64 (c.n % un)))) (fun hHeld => ?_)
  clear hK K
  refine tk 15 (oi := ⟨some 137, _, _, _, _, _⟩) rfl ?_
  refine rD 16 (o := ⟨none, _, _, _, _, _⟩) rfl (fun K hK => ?_)
  go_simp
  refine Ko hK (SS.out (((wd.setCell ⟨g6, 0, none⟩ (.int .i64 10)).setCell ⟨g6, 2, none⟩ (.int .i64 (c.n % un))).setCell ⟨g6, 3, none⟩ (.int .i64 (c.bit % 160))) ((((Frm.refl (· = g6) wd).setg (i := 0) (.int .i64 10)).setg (i := 2) (.int .i64 (c.n % un))).setg (i := 3) (.int .i64 (c.bit % 160)))) (fun hHeld => ?_)
  clear hK K
  refine tk 17 (oi := ⟨some 138, _, _, _, _, _⟩) rfl ?_
  refine rD 18 (o := ⟨none, _, _, _, _, _⟩) rfl (fun K hK => ?_)
  go_simp
  refine Ko hK (SS.out ((((wd.setCell ⟨g6, 0, none⟩ (.int .i64 10)).setCell ⟨g6, 2, none⟩ (.int .i64 (c.n % un))).setCell ⟨g6, 3, none⟩ (.int .i64 (c.bit % 160))).setCell ⟨g6, 4, none⟩ (.int .u32 c.mask)) (((((Frm.refl (· = g6) wd).setg (i := 0) (.int .i64 10)).setg (i := 2) (.int .i64 (c.n % un))).setg (i := 3) (.int .i64 (c.bit % 160))).setg (i := 4) (.int .u32 c.mask))) (fun hHeld => ?_)
  clear hK K
  refine dn ?_
  clear hHeld
  go_wp2_with fail
  have RR := FIN.out wd GD.out 10 z2 (c.n % un) (c.bit % 160) c.mask (.slice none 0 0) [] (BV.nil _ _) (by simp) ((((wd.setCell ⟨g6, 0, none⟩ (.int .i64 10)).setCell ⟨g6, 2, none⟩ (.int .i64 (c.n % un))).setCell ⟨g6, 3, none⟩ (.int .i64 (c.bit % 160))).setCell ⟨g6, 4, none⟩ (.int .u32 c.mask)) (((((Frm.refl (· = g6) wd).setg (i := 0) (.int .i64 10)).setg (i := 2) (.int .i64 (c.n % un))).setg (i := 3) (.int .i64 (c.bit % 160))).setg (i := 4) (.int .u32 c.mask))
  unfold fill6 at RR
  refine bodyPost_ret (results_cell_row rfl _ _ gr 61 _ (0, 0) _ rfl RR.1 Tryz.underlying61 rfl Tryz.size61) rfl ?_
  exact RR.2
 obtain rfl : k = 39 := by omega
 go_wp2_with fail
 have k0 := BC2.out.cell 0
 simp only [gA, gZ] at k0
 refine wp_region_held_drew (S := fun w' => w'.cell? ⟨gch, 0, none⟩ = some (.int .i64 c.kd) ∧ w'.cell? ⟨gch, 1, none⟩ = some (.int .i64 c.sd) ∧ w'.cell? ⟨gch, 2, none⟩ = some (.int .i64 c.n) ∧ w'.cell? ⟨gch, 3, none⟩ = some (.int .i64 c.bit) ∧ w'.cell? ⟨gch, 4, none⟩ = some (.int .u32 c.mask) ∧ w'.cell? ⟨gch, 5, none⟩ = some (.slice Av c.data.length cv)) (by kernel_rfl) ⟨k0, k1, k2, k3, k4, k5⟩ (fun hHeld => ?_)
 obtain ⟨wd, hwd⟩ := lx (W2.drew)
 have GD : Hid (Below W2.heap.size W2 wd) := hid (by rw [hwd]; exact bD)
 have BCD := hid (BC2.out.below GD.out)
 have SS : Hid (∀ W, Frm (· = g6) wd W → W.cell? ⟨gch, 0, none⟩ = some (.int .i64 c.kd) ∧ W.cell? ⟨gch, 1, none⟩ = some (.int .i64 c.sd) ∧ W.cell? ⟨gch, 2, none⟩ = some (.int .i64 c.n) ∧ W.cell? ⟨gch, 3, none⟩ = some (.int .i64 c.bit) ∧ W.cell? ⟨gch, 4, none⟩ = some (.int .u32 c.mask) ∧ W.cell? ⟨gch, 5, none⟩ = some (.slice Av c.data.length cv)) := hid (fun W hW => by
  have b := BCD.out.frm hW hc6
  exact ⟨b.cell 0, b.cell 1, b.cell 2, b.cell 3, b.cell 4, b.cell 5⟩)
 rw [← hwd] at hHeld ⊢
 clear hwd k0 k1 k2 k3 k4 k5
 refine tk 0 (oi := ⟨some 25, _, _, _, _, _⟩) rfl ?_
 refine tk 1 (oi := ⟨some 26, _, _, _, _, _⟩) rfl ?_
 refine tk 2 (oi := ⟨some 27, _, _, _, _, _⟩) rfl ?_
 refine tk 3 (oi := ⟨some 28, _, _, _, _, _⟩) rfl ?_
 refine tk 5 (oi := ⟨some 30, _, _, _, _, _⟩) rfl ?_
 refine tk 6 (oi := ⟨some 31, _, _, _, _, _⟩) rfl ?_
 refine tk 7 (oi := ⟨some 32, _, _, _, _, _⟩) rfl ?_
 refine tk 8 (oi := ⟨some 33, _, _, _, _, _⟩) rfl ?_
 refine tk 9 (oi := ⟨some 34, _, _, _, _, _⟩) rfl ?_
 refine tk 10 (oi := ⟨some 35, _, _, _, _, _⟩) rfl ?_
 refine tk 11 (oi := ⟨some 36, _, _, _, _, _⟩) rfl ?_
 refine tk 12 (oi := ⟨some 37, _, _, _, _, _⟩) rfl ?_
 refine tk 13 (oi := ⟨some 38, _, _, _, _, _⟩) rfl ?_
 refine tk 14 (oi := ⟨some 39, _, _, _, _, _⟩) rfl ?_
 refine rD 4 (o := ⟨some 29, _, _, _, _, _⟩) rfl (fun K hK => ?_)
 go_simp
 refine (within_any _ 13 wd (by omega) (by omega)).mono ?_
 rintro e _ ⟨rfl, rfl⟩
 generalize _ % (13 : Int) = kx
 refine Ko hK (SS.out _ (Frm.refl _ _)) (fun hHeld => ?_)
 clear hK K
 refine rD 15 (o := ⟨some 40, _, _, _, _, _⟩) rfl (fun K hK => ?_)
 go_simp
 refine (cutb_any wd _ c.data.length (u8s c.data) 60 (HV2.out.below GD.out).sl (by omega)).mono ?_
 rintro e W3 ⟨v3, rfl, ho3, hb3⟩
 have B3 := hid (bO GD.out hb3)
 have hlen : (c.data.take 60).length = min c.data.length 60 := by rw [List.length_take]; omega
 have O3 : Hid (BV W3 (fun j => W2.heap.size ≤ j) v3 (c.data.take 60)) := hid ((BO.bv ⟨by rw [hlen]; have := ho3; rw [show (u8s c.data).take 60 = u8s (c.data.take 60) from by unfold u8s; rw [List.map_take]] at this; exact this, fun x hx => HV2.out.byt x (List.mem_of_mem_take hx)⟩).mono (fun j hj _ => Nat.le_trans GD.out.size hj))
 obtain ⟨A3, c3, rfl⟩ := own_slice' ho3
 have F3 : Hid (Frm (· = g6) wd W3) := hid (Frm.of_below hb3)
 clear hb3 ho3
 refine Ko hK (SS.out _ F3.out) (fun hHeld => ?_)
 clear hK K
 obtain ⟨⟨p0, p1, p2, p3, p4, p5⟩, ⟨q0, q1, q2, q3, q4, q5⟩, ⟨r0, r1, r2, r3, r4, r5⟩, ⟨t0, t1, t2, t3, t4, t5⟩⟩ := FACTS.out W3 B3.out
 refine tk 16 (oi := ⟨some 41, _, _, _, _, _⟩) rfl ?_
 refine rD 17 (o := ⟨none, _, _, _, _, _⟩) rfl (fun K hK => ?_)
 go_simp
 refine Ko hK (SS.out ((((((W3.setCell ⟨g6, 0, none⟩ (.int .i64 kx)).setCell ⟨g6, 1, none⟩ (.int .i64 c.sd)).setCell ⟨g6, 2, none⟩ (.int .i64 c.n)).setCell ⟨g6, 3, none⟩ (.int .i64 c.bit)).setCell ⟨g6, 4, none⟩ (.int .u32 c.mask)).setCell ⟨g6, 5, none⟩ (.slice A3 (min c.data.length 60) c3)) ((((((F3.out.setg (i := 0) (.int .i64 kx)).setg (i := 1) (.int .i64 c.sd)).setg (i := 2) (.int .i64 c.n)).setg (i := 3) (.int .i64 c.bit)).setg (i := 4) (.int .u32 c.mask)).setg (i := 5) (.slice A3 (min c.data.length 60) c3))) (fun hHeld => ?_)
 clear hK K
 refine dn ?_
 clear hHeld
 go_wp2_with fail
 have RR := FIN.out W3 B3.out kx c.sd c.n c.bit c.mask (.slice A3 (min c.data.length 60) c3) (c.data.take 60) O3.out (by rw [hlen]; omega) ((((((W3.setCell ⟨g6, 0, none⟩ (.int .i64 kx)).setCell ⟨g6, 1, none⟩ (.int .i64 c.sd)).setCell ⟨g6, 2, none⟩ (.int .i64 c.n)).setCell ⟨g6, 3, none⟩ (.int .i64 c.bit)).setCell ⟨g6, 4, none⟩ (.int .u32 c.mask)).setCell ⟨g6, 5, none⟩ (.slice A3 (min c.data.length 60) c3)) (((((((Frm.refl (· = g6) W3).setg (i := 0) (.int .i64 kx)).setg (i := 1) (.int .i64 c.sd)).setg (i := 2) (.int .i64 c.n)).setg (i := 3) (.int .i64 c.bit)).setg (i := 4) (.int .u32 c.mask)).setg (i := 5) (.slice A3 (min c.data.length 60) c3))
 unfold fill6 at RR
 refine bodyPost_ret (results_cell_row rfl _ _ gr 61 _ (0, 0) _ rfl RR.1 Tryz.underlying61 rfl Tryz.size61) rfl ?_
 exact RR.2
end

section
theorem Stp.bel {o o' : Nat → Nat} {w w' : World} (ho : ∀ j, ¬ DC (o j)) (h : Stp DC o o' w w') : Below w.heap.size w w' := ⟨h.f.os, h.f.tape, h.f.output, h.f.size, fun j hj => h.f.block j hj (ho j)⟩
/-- A duel, at rest. -/
def DuelI (o : Nat → Nat) (w : World) (gd N : Nat) (wr : World) : Prop := ∃ (o' : Nat → Nat) (d : DuV) (wl : List (Int × Ev)), DuS o' w.heap.size wr gd d ∧ Stp DC o o' w wr ∧ DInv (fun _ => N) d wl
theorem DuelI.step {o : Nat → Nat} {w w2 w' : World} {gd N : Nat} {o' : Nat → Nat} (st : Stp DC o o' w w2) (h : DuR o' w.heap.size w2 gd N w') : DuelI o w gd (N + 500000) w' := by
 obtain ⟨o2, d2, wl2, h2, s2, i2⟩ := h
 exact ⟨o2, d2, wl2, h2, st.trans s2, i2⟩
theorem DuelI.bel {o : Nat → Nat} {w wr : World} {gd N : Nat} (ho : ∀ j, ¬ DC (o j)) (h : DuelI o w gd N wr) : Below w.heap.size w wr := by
 obtain ⟨o2, d2, wl2, h2, s2, i2⟩ := h
 exact s2.bel ho
/-- A step at a duel at rest. -/
theorem DuelI.go {o : Nat → Nat} {w wr : World} {gd N : Nat} (h : DuelI o w gd N wr) (hN : N + 500000 ≤ 40000000) (kd sd n bit mask : Int) :
  Calls Tryz.prog 20 #[.pointer (some ⟨gd, 0, none⟩), stA kd sd n bit mask (.slice none 0 0)] wr fun e w' => ∃ q : Bool, e = .returned (.bool q) ∧ DuelI o w gd (N + 500000) w' := by
 obtain ⟨o2, d2, wl2, h2, s2, i2⟩ := h
 refine (step_any o2 w.heap.size wr gd N d2 wl2 kd sd n bit mask (.slice none 0 0) [] h2 i2 hN s2.size (BV.nil _ _) (by simp)).mono ?_
 rintro e w' ⟨q, rfl, hr⟩
 exact ⟨q, rfl, DuelI.step s2 hr⟩
/-- A step of a choice at a duel at rest. -/
theorem DuelI.choice {o : Nat → Nat} {w wr : World} {gd N : Nat} (h : DuelI o w gd N wr) (c : ChV) {v : Value} {S : Nat → Prop} (hv : BV wr S v c.data) :
  Calls Tryz.prog 21 #[.pointer (some ⟨gd, 0, none⟩), chA c v] wr fun e w' => ∃ (kd sd n bit mask : Int) (v2 : Value) (l : List Int), e = .returned (stA kd sd n bit mask v2) ∧ Below wr.heap.size wr w' ∧
   (N + 500000 ≤ 40000000 → Calls Tryz.prog 20 #[.pointer (some ⟨gd, 0, none⟩), stA kd sd n bit mask v2] w' fun e w'' => ∃ q : Bool, e = .returned (.bool q) ∧ DuelI o w gd (N + 500000) w'') := by
 obtain ⟨o2, d2, wl2, h2, s2, i2⟩ := h
 refine (hstep_any o2 w.heap.size wr gd d2 c S v h2 (fun s => i2.nl s) hv).mono ?_
 rintro e w' ⟨kd, sd, n, bit, mask, v2, l, rfl, hb, hl, hbel⟩
 refine ⟨kd, sd, n, bit, mask, v2, l, rfl, hbel, fun hN => ?_⟩
 have st : Stp (fun _ => False) o2 (scr o2 wr.heap.size 0) wr w' := ⟨Frm.of_below hbel, scr_agr _ _ _⟩
 have st2 := s2.trans (st.mono (D := DC) (fun _ h => h.elim))
 refine (step_any (scr o2 wr.heap.size 0) w.heap.size w' gd N d2 wl2 kd sd n bit mask v2 l (h2.frm st (fun h => h) (fun _ h => h.elim)) i2 hN st2.size (hb.mono (fun j hj _ => scr_new hj)) hl).mono ?_
 rintro e w'' ⟨q, rfl, hr⟩
 exact ⟨q, rfl, DuelI.step st2 hr⟩
theorem OutG.base {α β : Type} {f : α → β → List Value} {k te B B' : Nat} {X : (Nat → Prop) → World → α → β → Prop} {S : Nat → Prop} {w : World} {v : Value} {l : List α} (h : OutG f k te X B S w v l) (hB : B' ≤ B) : OutG f k te X B' S w v l := by
 obtain ⟨vs, h1, h2⟩ := h
 exact ⟨vs, own_base h1 hB, h2⟩
theorem BRw.base {o : Nat → Nat} {B B' : Nat} {w : World} {v : Value} {l : List By2} (h : BRw o B w v l) (hB : B' ≤ B) : BRw o B' w v l := OutG.base h hB
theorem EndS.base {o : Nat → Nat} {k B B' : Nat} {w : World} {ge : Nat} {x : EndV} (h : EndS o k B w ge x) (hB : B' ≤ B) : EndS o k B' w ge x :=
 ⟨h.blk, h.og, Nat.le_trans hB h.ge, h.kp, h.c1, ⟨own_base h.c2.r hB, h.c2.ow⟩, ⟨h.c3.blk, ⟨own_base h.c3.r.1 hB, h.c3.r.2⟩, h.c3.ow, h.c3.og, Nat.le_trans hB h.c3.ge, h.c3.ne⟩, h.c4, ⟨⟨h.c5.r.blk, ⟨own_base h.c5.r.b.1 hB, h.c5.r.b.2⟩, h.c5.r.r, h.c5.r.srt, h.c5.r.top, h.c5.r.bn, h.c5.r.tk, h.c5.r.wi, h.c5.r.nb, h.c5.r.ng, Nat.le_trans hB h.c5.r.ge⟩, h.c5.ow⟩, ⟨h.c6.r, h.c6.ow, Nat.le_trans hB h.c6.ge⟩, ⟨OutG.base h.c7.r hB, h.c7.ow⟩, ⟨OutG.base h.c8.r hB, h.c8.ow⟩, fun i p hi => ⟨(h.c9 i p hi).r.base hB, (h.c9 i p hi).ow, (h.c9 i p hi).l⟩, h.np⟩
def ReadyR (o : Nat → Nat) (w : World) (e : Ending) (w' : World) : Prop := ∃ gd, e = .returned (.pointer (some ⟨gd, 0, none⟩)) ∧ DuelI o w gd 3000000 w'
set_option maxHeartbeats 8000000 in
set_option maxRecDepth 100000 in
theorem hready_any (o : Nat → Nat) (ho : ∀ j, ¬ DC (o j)) (w : World) (c : Cf) (n : Nat) (hc : c.c0 = (n : Int)) (hn : 1 ≤ n ∧ n ≤ 3) : Calls Tryz.prog 19 #[cfA c] w fun e w' => ReadyR o w e w' := by
 obtain ⟨w0, hw0⟩ := lx (w.alloc (.cells #[.int .i64 c.c0, .int .i64 c.c1, .int .i64 c.c2, .int .i64 c.c3, .int .i64 c.c4, .int .i64 c.c5, .int .i64 c.c6] 33))
 obtain ⟨gc, hgc⟩ := lx (w.heap.size)
 have BX : Hid (Blk w0 gc (cfL c).toArray 33) := hid (by rw [hw0, hgc]; exact Blk.new _ _ _)
 have B0 : Hid (Below w.heap.size w w0) := hid (by rw [hw0]; exact ba)
 have gcl : gc < w0.heap.size := BX.out.lt
 have hw0' := hw0.symm
 have hgc' := hgc.symm
 have HC := hid hc
 have k0 := BX.out.cell 0
 have k1 := BX.out.cell 1
 have k2 := BX.out.cell 2
 have k3 := BX.out.cell 3
 have k4 := BX.out.cell 4
 have k5 := BX.out.cell 5
 have k6 := BX.out.cell 6
 simp only [gA, gZ, gC] at k0 k1 k2 k3 k4 k5 k6
 clear hw0 hgc hc
 go_enter Tryz.func19, Tryz.ntmps19
 go_wp2_with fail
 clear hw0' hgc'
 refine (newduel_any o w0.heap.size w0 c n HC.out hn (Nat.le_refl _)).mono ?_
 rintro e w1 ⟨gd, o1, d1, rfl, h1, s1, i1⟩
 have START : Hid (DuelI o w0 gd 0 w1) := hid ⟨o1, d1, [], h1, s1.mono (fun _ h => h.elim), i1⟩
 clear h1 s1 i1 k0 k1 k2 k3 k4 k5 k6
 go_wp2_with fail
 go_loopw [4] (fun i wr => ∃ j : Nat, j ≤ n ∧ i = .int .i64 j ∧ DuelI o w0 gd (1000000 * j) wr) (fun i _ => n - (intOf i).toNat)
 case atStart => exact ⟨0, Nat.zero_le _, rfl, START.out⟩
 case round =>
  obtain ⟨j, hj, rfl, hI⟩ := hrel
  have HI := hid hI
  have k0 : wr.cell? ⟨gc, 0, none⟩ = some (.int .i64 (n : Int)) := by rw [← HC.out]; exact (BX.out.below (hI.bel ho)).cell 0
  clear hI
  by_cases hjn : j < n
  ·have j0 : (0 : Int) ≤ (j : Int) := by omega
   have j1 : (j : Int) < (n : Int) := by omega
   have iwj : IntKind.i64.wrap ((j : Int) + 1) = (j : Int) + 1 := iX
   go_wp2_with fail
   refine (HI.out.go (by omega) 5 1 (j : Int) 0 0).mono ?_
   rintro e w2 ⟨q, rfl, h2⟩
   have H2 := hid h2
   clear h2 k0
   go_wp2_with fail
   refine (H2.out.go (by omega) 5 0 (j : Int) 0 0).mono ?_
   rintro e w3 ⟨q3, rfl, h3⟩
   have H3 := hid h3
   clear h3
   go_wp2_with fail
   go_roundw
   case rel => exact ⟨j + 1, hjn, by go_num, by have := H3.out; rw [show 1000000 * (j + 1) = 1000000 * j + 500000 + 500000 from by omega]; exact this⟩
   case measure => simp [intOf]; omega
  ·have j1 : ¬ (j : Int) < (n : Int) := by omega
   have R : Hid (ReadyR o w (.returned (.pointer (some ⟨gd, 0, none⟩))) wr) := hid ⟨gd, rfl, by
    obtain ⟨o2, d2, wl2, h2, s2, i2⟩ := HI.out
    exact ⟨o2, d2, wl2, ⟨h2.blk, h2.og, Nat.le_trans B0.out.size h2.gb, fun s => (h2.e s).base B0.out.size, fun s => BRw.base (h2.n s) B0.out.size, h2.no, fun s => ⟨own_base (h2.g s).1 B0.out.size, (h2.g s).2⟩, h2.go⟩, (Stp.below B0.out).trans s2, i2.upN (fun _ => ⟨by omega, by omega⟩)⟩⟩
   go_wp2_with fail
   go_ret
   exact R.out
end

section
theorem Tryz.size31 : (Tryz.prog.info? 31).map (·.size) = some 2 := by kernel_rfl
def SmallE (es : List Ev) : Prop := ∀ e ∈ es, e.data.length ≤ 1000000 ∧ e.pk.data.length ≤ 1000000
theorem SmallE.up {es : List Ev} (h : SmallE es) : ∀ e ∈ es, e.data.length ≤ 2000000 ∧ e.pk.data.length ≤ 2000000 := fun e he => by
 have := h e he
 omega
def LogsR (w : World) (e : Ending) (w' : World) : Prop := ∃ (v0 v1 : Value) (a b : List Ev) (wl : List (Int × Ev)) (S : Nat → Prop), e = .returned (.agg #[v0, v1]) ∧ ERow S w' v0 a ∧ ERow S w' v1 b ∧ Right a b wl ∧ a.length ≤ 499999 ∧ b.length ≤ 499999 ∧ SmallE a ∧ SmallE b ∧ Below w.heap.size w w'
theorem EvRow.erow {o : Nat → Nat} {B : Nat} {w : World} {v : Value} {es : List Ev} (h : EvRow o B w v es) : ERow (frozen o) w v es := OutG.row (fun e x hx => hx.one) h
theorem logs_end {o o' : Nat → Nat} {w wr : World} {gd gr N : Nat} {d : DuV} {wl : List (Int × Ev)} {W : World} (hN : N ≤ 40000000) (h : DuS o' w.heap.size wr gd d) (hi : DInv (fun _ => N) d wl) (hg : o' gr = 500) (f : Frm (· = gr) wr W) :
  ∃ a b, ERow (frozen o') W (d.x false).vE a ∧ ERow (frozen o') W (d.x true).vE b ∧ Right a b wl ∧ a.length ≤ 499999 ∧ b.length ≤ 499999 ∧ SmallE a ∧ SmallE b := by
 have st : Stp (fun c => c = 500) o' o' wr W := ⟨f.mono (fun j hj => by rw [hj]; exact hg), Agr.refl _ _⟩
 have row : ∀ s, ERow (frozen o') W (d.x s).vE (d.x s).es ∧ (d.x s).es.length ≤ 499999 := fun s => by
  have e := h.e s
  have hk := kk_cases s
  have r : EvRow o' w.heap.size W (d.x s).vE (d.x s).es := e.c7.r.frmO liesE e.c7.ow st (by omega) (by omega) (by omega)
  refine ⟨r.erow, ?_⟩
  have h1 := (hi.ok s).es
  have h2 := e.said_le
  omega
 exact ⟨_, _, (row false).1, (row true).1, ⟨hi.es false, hi.es true, hi.c, hi.t⟩, (row false).2, (row true).2, hi.sm false, hi.sm true⟩
set_option maxHeartbeats 16000000 in
set_option maxRecDepth 100000 in
theorem logs_any (w : World) (c : Cf) (n : Nat) (hc : c.c0 = (n : Int)) (hn : 1 ≤ n ∧ n ≤ 3) (a : Option Addr) (len cap : Nat) (hr : ChRow w a len) (hlc : len ≤ cap) (hcm : cap ≤ maxLen) (most : Nat) (hm : most ≤ 60) :
  Calls Tryz.prog 5 #[cfA c, .slice a len cap, .int .i64 (most : Int)] w fun e w' => LogsR w e w' := by
 unfold maxLen at hcm
 obtain ⟨w0, hw0⟩ := lx ((w.alloc (.cells #[.int .i64 c.c0, .int .i64 c.c1, .int .i64 c.c2, .int .i64 c.c3, .int .i64 c.c4, .int .i64 c.c5, .int .i64 c.c6] 33)).alloc (.cells #[.slice none 0 0, .slice none 0 0] 31))
 obtain ⟨gc, hgc⟩ := lx (w.heap.size)
 obtain ⟨gr, hgr⟩ := lx (w.heap.size + 1)
 have BX : Hid (Blk w0 gc (cfL c).toArray 33) := hid (by rw [hw0, hgc]; exact (Blk.new _ _ _).alloc _)
 have BR : Hid (Blk w0 gr #[.slice none 0 0, .slice none 0 0] 31) := hid (by
  have := Blk.new (w.alloc (.cells #[.int .i64 c.c0, .int .i64 c.c1, .int .i64 c.c2, .int .i64 c.c3, .int .i64 c.c4, .int .i64 c.c5, .int .i64 c.c6] 33)) #[.slice none 0 0, .slice none 0 0] 31
  rw [hw0, hgr]
  simpa using this)
 have B0 : Hid (Below w.heap.size w w0) := hid (by rw [hw0]; exact (ba).alloc (by simp) _)
 have hgrw : w.heap.size ≤ gr := by omega
 have R0 := hid (hr.below B0.out)
 obtain ⟨o, ho⟩ : ∃ o : Nat → Nat, o = fun j => if j = gr then 500 else 0 := ⟨_, rfl⟩
 have hoD : Hid (∀ j, ¬ DC (o j)) := hid (fun j h => by rw [ho] at h; dsimp only at h; split at h <;> (have h1 := h.1; have h2 := h.2; omega))
 have hog : o gr = 500 := by rw [ho]; simp
 have grl : gr < w0.heap.size := BR.out.lt
 have hw0' := hw0.symm
 have hgc' := hgc.symm
 have hgr' : gc + 1 = gr := by omega
 have HC := hid hc
 have k0 := BX.out.cell 0
 have k1 := BX.out.cell 1
 have k2 := BX.out.cell 2
 have k3 := BX.out.cell 3
 have k4 := BX.out.cell 4
 have k5 := BX.out.cell 5
 have k6 := BX.out.cell 6
 simp only [gA, gZ, gC] at k0 k1 k2 k3 k4 k5 k6
 clear hw0 hgc hgr hc hr ho
 go_enter Tryz.func5, Tryz.ntmps5
 go_wp2_with fail
 clear hw0' hgc' hgr'
 refine (hready_any o hoD.out w0 c n HC.out hn).mono ?_
 rintro e w1 ⟨gd, rfl, h1⟩
 have START := hid h1
 clear h1 k0 k1 k2 k3 k4 k5 k6
 go_wp2_with fail
 go_loopw [8] (fun i wr => ∃ j : Nat, j ≤ most ∧ j ≤ len ∧ i = .int .i64 j ∧ DuelI o w0 gd (3000000 + 500000 * j) wr) (fun i _ => most - (intOf i).toNat)
 case atStart => exact ⟨0, Nat.zero_le _, Nat.zero_le _, rfl, START.out⟩
 case round =>
  obtain ⟨j, hj, hjl, rfl, hI⟩ := hrel
  have HI := hid hI
  have bw := hI.bel hoD.out
  have RW := hid (R0.out.below bw)
  have BRW := hid (BR.out.below bw)
  have BW := hid (bO B0.out bw)
  clear hI bw
  by_cases hgo : j < len ∧ j < most
  ·obtain ⟨h1, h2⟩ := hgo
   have j0 : (0 : Int) ≤ (j : Int) := by omega
   have j1 : (j : Int) < (len : Int) := by omega
   have j2 : (j : Int) < (most : Int) := by omega
   have iwj : IntKind.i64.wrap ((j : Int) + 1) = (j : Int) + 1 := iX
   obtain ⟨ad, x, v, rfl, hcell, hbv⟩ := RW.out j h1
   have q0 := hcell 0 _ rfl
   have q1 := hcell 1 _ rfl
   have q2 := hcell 2 _ rfl
   have q3 := hcell 3 _ rfl
   have q4 := hcell 4 _ rfl
   have q5 := hcell 5 _ rfl
   rw [addr_zero] at q0
   rw [addr_pos _ _ (by omega)] at q1 q2 q3 q4 q5
   obtain ⟨Av, cv, rfl, _, _⟩ := hbv.len
   have ST := hid (HI.out.choice x hbv)
   clear hcell hbv
   go_wp2_with fail
   refine ST.out.mono ?_
   rintro e w2 ⟨kd, sd, nn, bit, mask, v2, l2, rfl, hb2, hdo⟩
   have DO := hid (hdo (by omega))
   clear hdo hb2 q0 q1 q2 q3 q4 q5
   go_wp2_with fail
   refine DO.out.mono ?_
   rintro e w3 ⟨q, rfl, h3⟩
   have H3 := hid h3
   clear h3
   go_wp2_with fail
   go_roundw
   case rel => exact ⟨j + 1, by omega, by omega, by go_num, by have := H3.out; rw [show 3000000 + 500000 * (j + 1) = 3000000 + 500000 * j + 500000 from by omega]; exact this⟩
   case measure => simp [intOf]; omega
  ·obtain ⟨o2, d2, wl2, h2, s2, i2⟩ := HI.out
   have og2 : o2 gr = 500 := (s2.ag gr grl).trans hog
   have HD := hid h2
   have II := hid i2
   have n0 := h2.blk.cell 0
   have n1 := h2.blk.cell 1
   have e0 := (h2.e false).blk.cell 17
   have e1 := (h2.e true).blk.cell 17
   simp only [gA, gZ, gC] at n0 n1 e0 e1
   obtain ⟨A0, c0, f0⟩ := (h2.e false).c7.r.form
   obtain ⟨A1, c1, f1⟩ := (h2.e true).c7.r.form
   rw [f0] at e0
   rw [f1] at e1
   have HF := hid (And.intro f0 f1)
   have r0 := BRW.out.cell 0
   have r1 := BRW.out.cell 1
   have y0 := BRW.out.free 0
   have y1 := BRW.out.free 1
   simp only [gA, gZ, gC] at r0 r1
   clear h2 s2 i2 f0 f1 HI
   have hcond : (¬ j < len) ∨ (j < len ∧ ¬ j < most) := by omega
   have FIN : Hid (∀ u0 u1 W, u0 = (d2.x false).vE → u1 = (d2.x true).vE → Frm (· = gr) wr W → LogsR w (.returned (.agg #[u0, u1])) W) := hid (fun u0 u1 W e0 e1 f => by
    obtain ⟨a, b, h1, h2, h3, h4, h5, h6, h7⟩ := logs_end (o := o) (by omega) HD.out II.out og2 f
    exact ⟨u0, u1, a, b, wl2, frozen o2, rfl, e0 ▸ h1, e1 ▸ h2, h3, h4, h5, h6, h7, Frm.below BW.out f BW.out.size (fun i hi => by rw [hi]; exact hgrw)⟩)
   rcases hcond with h1 | ⟨h1, h2⟩
   all_goals
    first
     | have j1 : ¬ (j : Int) < (len : Int) := by omega
     | (have j1 : (j : Int) < (len : Int) := by omega); (have j2 : ¬ (j : Int) < (most : Int) := by omega)
    go_wp2_with fail
    refine wp_region_still_tail (id := 6) 17 (by kernel_rfl) (by kernel_rfl) ?_
    change wpStill _ _ (World.drew _) (fun a' => wpList _ _ _ _ a' (World.drew _)) _ _
    simp only [List.take_succ_cons, List.take_zero, List.drop_succ_cons, List.drop_zero]
    repeat still_step
    refine wpStill_nil ?_
    go_wp2_with fail
    have hfin := ((BRW.out.set 0 (.slice A0 (d2.x false).es.length c0)).set 1 (.slice A1 (d2.x true).es.length c1)).drew
    simp only [List.setIfInBounds_toArray, List.set_cons_zero, List.set_cons_succ] at hfin
    refine bodyPost_ret (results_cell_row rfl _ _ gr 31 _ (0, 0) _ rfl hfin Tryz.underlying31 rfl Tryz.size31) rfl ?_
    exact FIN.out _ _ _ HF.out.1.symm HF.out.2.symm (((Frm.refl _ wr).setg _).setg _).drew
end
end Go.Proofs.YtdneakejlbabeaaGreat
