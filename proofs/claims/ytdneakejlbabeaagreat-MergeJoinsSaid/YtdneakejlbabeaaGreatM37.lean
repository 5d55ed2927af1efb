/- Parts of the walk: Ui, Va. -/
import Derived.Test.YtdneakejlbabeaaGreatM00
import Derived.Laws.Rows
import Derived.Test.YtdneakejlbabeaaGreatM36
import Derived.Test.YtdneakejlbabeaaGreatM04
import Derived.Deep.Slices
import Derived.WideShapes
import Derived.Deep.Strs
import Derived.Test.YtdneakejlbabeaaGreatM32
namespace Go.Proofs.YtdneakejlbabeaaGreat
open Go.RowKit
set_option linter.unusedVariables false
set_option linter.unusedSimpArgs false
section
theorem Tryz.size33 : (Tryz.prog.info? 33).map (·.size) = some 7 := by kernel_rfl
def ConfigR (w : World) (e : Ending) (w' : World) : Prop := ∃ (c : Cf) (n : Nat), e = .returned (cfA c) ∧ c.c0 = (n : Int) ∧ 1 ≤ n ∧ n ≤ 3 ∧ Below w.heap.size w w'
set_option maxHeartbeats 8000000 in
set_option maxRecDepth 100000 in
theorem config_any (w : World) (s0 s1 s2 s3 s4 s5 s6 : Int) : Calls Tryz.prog 6 #[.agg #[.int .i64 s0, .int .i64 s1, .int .i64 s2, .int .i64 s3, .int .i64 s4, .int .i64 s5, .int .i64 s6]] w fun e w' => ConfigR w e w' := by
 obtain ⟨w0, hw0⟩ := lx ((w.alloc (.cells #[.int .i64 s0, .int .i64 s1, .int .i64 s2, .int .i64 s3, .int .i64 s4, .int .i64 s5, .int .i64 s6] 23)).alloc (.cells #[.int .i64 0, .int .i64 0, .int .i64 0, .int .i64 0, .int .i64 0, .int .i64 0, .int .i64 0] 33))
 obtain ⟨gs, hgs⟩ := lx (w.heap.size)
 obtain ⟨gr, hgr⟩ := lx (w.heap.size + 1)
 have BX : Hid (Blk w0 gs #[.int .i64 s0, .int .i64 s1, .int .i64 s2, .int .i64 s3, .int .i64 s4, .int .i64 s5, .int .i64 s6] 23) := hid (by rw [hw0, hgs]; exact (Blk.new _ _ _).alloc _)
 have BR : Hid (Blk w0 gr #[.int .i64 0, .int .i64 0, .int .i64 0, .int .i64 0, .int .i64 0, .int .i64 0, .int .i64 0] 33) := hid (by
  have := Blk.new (w.alloc (.cells #[.int .i64 s0, .int .i64 s1, .int .i64 s2, .int .i64 s3, .int .i64 s4, .int .i64 s5, .int .i64 s6] 23)) #[.int .i64 0, .int .i64 0, .int .i64 0, .int .i64 0, .int .i64 0, .int .i64 0, .int .i64 0] 33
  rw [hw0, hgr]
  simpa using this)
 have B0 : Hid (Below w.heap.size w w0) := hid (by rw [hw0]; exact (ba).alloc (by simp) _)
 have hne : gs ≠ gr := by omega
 have hgw : w.heap.size ≤ gr := by omega
 obtain ⟨z0, hz0⟩ := lx (1 + s0 % 3)
 have iw0 : IntKind.i64.wrap (1 + s0 % 3) = z0 := by rw [hz0]; exact iX
 obtain ⟨z1, hz1⟩ := lx (1 + s1 % 60)
 have iw1 : IntKind.i64.wrap (1 + s1 % 60) = z1 := by rw [hz1]; exact iX
 obtain ⟨z2, hz2⟩ := lx (1 + s2 % 50)
 have iw2 : IntKind.i64.wrap (1 + s2 % 50) = z2 := by rw [hz2]; exact iX
 obtain ⟨z3, hz3⟩ := lx (1 + s3 % 20)
 have iw3 : IntKind.i64.wrap (1 + s3 % 20) = z3 := by rw [hz3]; exact iX
 obtain ⟨z4, hz4⟩ := lx (1 + s4 % 6)
 have iw4 : IntKind.i64.wrap (1 + s4 % 6) = z4 := by rw [hz4]; exact iX
 obtain ⟨z5, hz5⟩ := lx (1 + s5 % 8)
 have iw5 : IntKind.i64.wrap (1 + s5 % 8) = z5 := by rw [hz5]; exact iX
 obtain ⟨z6, hz6⟩ := lx (1 + s6 % 3)
 have iw6 : IntKind.i64.wrap (1 + s6 % 3) = z6 := by rw [hz6]; exact iX
 have HZ0 : Hid (1 ≤ z0 ∧ z0 ≤ 3) := hid (by omega)
 have hw0' := hw0.symm
 have hgs' := hgs.symm
 have hgr' : gs + 1 = gr := by omega
 clear hw0 hgs hgr hz0 hz1 hz2 hz3 hz4 hz5 hz6
 have k0 := BX.out.cell 0
 have k1 := BX.out.cell 1
 have k2 := BX.out.cell 2
 have k3 := BX.out.cell 3
 have k4 := BX.out.cell 4
 have k5 := BX.out.cell 5
 have k6 := BX.out.cell 6
 have r0 := BR.out.cell 0
 have r1 := BR.out.cell 1
 have r2 := BR.out.cell 2
 have r3 := BR.out.cell 3
 have r4 := BR.out.cell 4
 have r5 := BR.out.cell 5
 have r6 := BR.out.cell 6
 have f0 := BR.out.free 0
 have f1 := BR.out.free 1
 have f2 := BR.out.free 2
 have f3 := BR.out.free 3
 have f4 := BR.out.free 4
 have f5 := BR.out.free 5
 have f6 := BR.out.free 6
 simp only [gA, gZ, gC] at k0 k1 k2 k3 k4 k5 k6 r0 r1 r2 r3 r4 r5 r6
 go_enter Tryz.func6, Tryz.ntmps6
 go_wp2_with fail
 clear hw0' hgs' hgr'
 refine wp_region_held_drew (S := fun w' => w'.cell? ⟨gs, 0, none⟩ = some (.int .i64 s0) ∧ w'.cell? ⟨gs, 1, none⟩ = some (.int .i64 s1) ∧ w'.cell? ⟨gs, 2, none⟩ = some (.int .i64 s2) ∧ w'.cell? ⟨gs, 3, none⟩ = some (.int .i64 s3) ∧ w'.cell? ⟨gs, 4, none⟩ = some (.int .i64 s4) ∧ w'.cell? ⟨gs, 5, none⟩ = some (.int .i64 s5) ∧ w'.cell? ⟨gs, 6, none⟩ = some (.int .i64 s6)) (by kernel_rfl) ⟨k0, k1, k2, k3, k4, k5, k6⟩ (fun hHeld => ?_)
 obtain ⟨wd, hwd⟩ := lx (w0.drew)
 have BRD : Hid (Blk wd gr #[.int .i64 0, .int .i64 0, .int .i64 0, .int .i64 0, .int .i64 0, .int .i64 0, .int .i64 0] 33) := hid (by rw [hwd]; exact BR.out.drew)
 have BXD : Hid (Blk wd gs #[.int .i64 s0, .int .i64 s1, .int .i64 s2, .int .i64 s3, .int .i64 s4, .int .i64 s5, .int .i64 s6] 23) := hid (by rw [hwd]; exact BX.out.drew)
 have BWD : Hid (Below w.heap.size w wd) := hid (by rw [hwd]; exact B0.out.drew)
 rw [← hwd] at hHeld ⊢
 clear hwd k0 k1 k2 k3 k4 k5 k6 r0 r1 r2 r3 r4 r5 r6 f0 f1 f2 f3 f4 f5 f6
 have k0 := BXD.out.cell 0
 have k1 := BXD.out.cell 1
 have k2 := BXD.out.cell 2
 have k3 := BXD.out.cell 3
 have k4 := BXD.out.cell 4
 have k5 := BXD.out.cell 5
 have k6 := BXD.out.cell 6
 have r0 := BRD.out.cell 0
 have r1 := BRD.out.cell 1
 have r2 := BRD.out.cell 2
 have r3 := BRD.out.cell 3
 have r4 := BRD.out.cell 4
 have r5 := BRD.out.cell 5
 have r6 := BRD.out.cell 6
 have f0 := BRD.out.free 0
 have f1 := BRD.out.free 1
 have f2 := BRD.out.free 2
 have f3 := BRD.out.free 3
 have f4 := BRD.out.free 4
 have f5 := BRD.out.free 5
 have f6 := BRD.out.free 6
 simp only [gA, gZ, gC] at k0 k1 k2 k3 k4 k5 k6 r0 r1 r2 r3 r4 r5 r6
 refine tk 0 (oi := ⟨some 4, _, _, _, _, _⟩) rfl ?_
 refine tk 1 (oi := ⟨some 5, _, _, _, _, _⟩) rfl ?_
 refine tk 2 (oi := ⟨some 6, _, _, _, _, _⟩) rfl ?_
 refine tk 5 (oi := ⟨some 9, _, _, _, _, _⟩) rfl ?_
 refine tk 6 (oi := ⟨some 10, _, _, _, _, _⟩) rfl ?_
 refine tk 7 (oi := ⟨some 11, _, _, _, _, _⟩) rfl ?_
 refine tk 10 (oi := ⟨some 14, _, _, _, _, _⟩) rfl ?_
 refine tk 11 (oi := ⟨some 15, _, _, _, _, _⟩) rfl ?_
 refine tk 12 (oi := ⟨some 16, _, _, _, _, _⟩) rfl ?_
 refine tk 15 (oi := ⟨some 19, _, _, _, _, _⟩) rfl ?_
 refine tk 16 (oi := ⟨some 20, _, _, _, _, _⟩) rfl ?_
 refine tk 17 (oi := ⟨some 21, _, _, _, _, _⟩) rfl ?_
 refine tk 20 (oi := ⟨some 24, _, _, _, _, _⟩) rfl ?_
 refine tk 21 (oi := ⟨some 25, _, _, _, _, _⟩) rfl ?_
 refine tk 22 (oi := ⟨some 26, _, _, _, _, _⟩) rfl ?_
 refine tk 25 (oi := ⟨some 29, _, _, _, _, _⟩) rfl ?_
 refine tk 26 (oi := ⟨some 30, _, _, _, _, _⟩) rfl ?_
 refine tk 27 (oi := ⟨some 31, _, _, _, _, _⟩) rfl ?_
 refine tk 30 (oi := ⟨some 34, _, _, _, _, _⟩) rfl ?_
 refine tk 31 (oi := ⟨some 35, _, _, _, _, _⟩) rfl ?_
 refine tk 32 (oi := ⟨some 36, _, _, _, _, _⟩) rfl ?_
 refine rD 3 (o := ⟨some 7, _, _, _, _, _⟩) rfl (fun K hK => ?_)
 go_simp
 refine (within_any s0 3 wd (by omega) (by omega)).mono ?_
 rintro e _ ⟨rfl, rfl⟩
 refine Ko hK ⟨k0, k1, k2, k3, k4, k5, k6⟩ (fun hHeld => ?_)
 clear hK K
 refine tk 4 (oi := ⟨some 8, _, _, _, _, _⟩) rfl ?_
 refine rD 8 (o := ⟨some 12, _, _, _, _, _⟩) rfl (fun K hK => ?_)
 go_simp
 refine (within_any s1 60 wd (by omega) (by omega)).mono ?_
 rintro e _ ⟨rfl, rfl⟩
 refine Ko hK ⟨k0, k1, k2, k3, k4, k5, k6⟩ (fun hHeld => ?_)
 clear hK K
 refine tk 9 (oi := ⟨some 13, _, _, _, _, _⟩) rfl ?_
 refine rD 13 (o := ⟨some 17, _, _, _, _, _⟩) rfl (fun K hK => ?_)
 go_simp
 refine (within_any s2 50 wd (by omega) (by omega)).mono ?_
 rintro e _ ⟨rfl, rfl⟩
 refine Ko hK ⟨k0, k1, k2, k3, k4, k5, k6⟩ (fun hHeld => ?_)
 clear hK K
 refine tk 14 (oi := ⟨some 18, _, _, _, _, _⟩) rfl ?_
 refine rD 18 (o := ⟨some 22, _, _, _, _, _⟩) rfl (fun K hK => ?_)
 go_simp
 refine (within_any s3 20 wd (by omega) (by omega)).mono ?_
 rintro e _ ⟨rfl, rfl⟩
 refine Ko hK ⟨k0, k1, k2, k3, k4, k5, k6⟩ (fun hHeld => ?_)
 clear hK K
 refine tk 19 (oi := ⟨some 23, _, _, _, _, _⟩) rfl ?_
 refine rD 23 (o := ⟨some 27, _, _, _, _, _⟩) rfl (fun K hK => ?_)
 go_simp
 refine (within_any s4 6 wd (by omega) (by omega)).mono ?_
 rintro e _ ⟨rfl, rfl⟩
 refine Ko hK ⟨k0, k1, k2, k3, k4, k5, k6⟩ (fun hHeld => ?_)
 clear hK K
 refine tk 24 (oi := ⟨some 28, _, _, _, _, _⟩) rfl ?_
 refine rD 28 (o := ⟨some 32, _, _, _, _, _⟩) rfl (fun K hK => ?_)
 go_simp
 refine (within_any s5 8 wd (by omega) (by omega)).mono ?_
 rintro e _ ⟨rfl, rfl⟩
 refine Ko hK ⟨k0, k1, k2, k3, k4, k5, k6⟩ (fun hHeld => ?_)
 clear hK K
 refine tk 29 (oi := ⟨some 33, _, _, _, _, _⟩) rfl ?_
 refine rD 33 (o := ⟨some 37, _, _, _, _, _⟩) rfl (fun K hK => ?_)
 go_simp
 refine (within_any s6 3 wd (by omega) (by omega)).mono ?_
 rintro e _ ⟨rfl, rfl⟩
 refine Ko hK ⟨k0, k1, k2, k3, k4, k5, k6⟩ (fun hHeld => ?_)
 clear hK K
 refine tk 34 (oi := ⟨some 38, _, _, _, _, _⟩) rfl ?_
 refine tk 35 (oi := ⟨some 39, _, _, _, _, _⟩) rfl ?_
 refine rD 36 (o := ⟨none, _, _, _, _, _⟩) rfl (fun K hK => ?_)
 go_simp
 have hfin := (((((((BRD.out).set 0 (.int .i64 z0)).set 1 (.int .i64 z1)).set 2 (.int .i64 z2)).set 3 (.int .i64 z3)).set 4 (.int .i64 z4)).set 5 (.int .i64 z5)).set 6 (.int .i64 z6)
 have hfs := ((((((((BXD.out).far (p := ⟨gr, 0, none⟩) hne (.int .i64 z0)).far (p := ⟨gr, 1, none⟩) hne (.int .i64 z1)).far (p := ⟨gr, 2, none⟩) hne (.int .i64 z2)).far (p := ⟨gr, 3, none⟩) hne (.int .i64 z3)).far (p := ⟨gr, 4, none⟩) hne (.int .i64 z4)).far (p := ⟨gr, 5, none⟩) hne (.int .i64 z5)).far (p := ⟨gr, 6, none⟩) hne (.int .i64 z6))
 have hbel := (((((((BWD.out).setCell (p := ⟨gr, 0, none⟩) hgw (.int .i64 z0)).setCell (p := ⟨gr, 1, none⟩) hgw (.int .i64 z1)).setCell (p := ⟨gr, 2, none⟩) hgw (.int .i64 z2)).setCell (p := ⟨gr, 3, none⟩) hgw (.int .i64 z3)).setCell (p := ⟨gr, 4, none⟩) hgw (.int .i64 z4)).setCell (p := ⟨gr, 5, none⟩) hgw (.int .i64 z5)).setCell (p := ⟨gr, 6, none⟩) hgw (.int .i64 z6)
 simp only [List.setIfInBounds_toArray, List.set_cons_zero, List.set_cons_succ] at hfin
 have FIN := hid (And.intro hfin hbel)
 refine Ko hK ⟨hfs.cell 0, hfs.cell 1, hfs.cell 2, hfs.cell 3, hfs.cell 4, hfs.cell 5, hfs.cell 6⟩ (fun hHeld => ?_)
 clear hK K hfin hfs hbel
 refine dn ?_
 clear hHeld
 go_wp2_with fail
 refine bodyPost_ret (results_cell_row rfl _ _ gr 33 _ (0, 0) _ rfl FIN.out.1 Tryz.underlying33 rfl Tryz.size33) rfl ?_
 exact ⟨⟨z0, z1, z2, z3, z4, z5, z6⟩, z0.toNat, rfl, by have := HZ0.out; show z0 = _; omega, by have := HZ0.out; omega, by have := HZ0.out; omega, FIN.out.2⟩
end

section
open Go.RowKit Go.ChangeShapes Go.WideShapes
section
variable {H : Type} {enc : TypeId × Value → H} {w : World} {base : Nat} {spare : Nat → Bool} {held : Bool} {n : Nat} {y : DataW H × List MemPlace}
theorem trod_int1 {t : TypeId} {k : IntKind} (ht : Tryz.prog.underlying t = some (.int k)) {c : List Value} (h : DataW.trod enc Tryz.prog w base spare held n t c = some y) : ∃ z, c = [.int k z] ∧ (Lit.int k z).wf = true := by
 cases n with
 | zero => simp [DataW.trod] at h
 | succ n =>
  unfold DataW.trod at h
  rw [ht] at h
  split at h
  all_goals (try (simp_all; done))
theorem trod_bool1 {t : TypeId} (ht : Tryz.prog.underlying t = some .bool) {c : List Value} (h : DataW.trod enc Tryz.prog w base spare held n t c = some y) : ∃ z, c = [.bool z] := by
 cases n with
 | zero => simp [DataW.trod] at h
 | succ n =>
  unfold DataW.trod at h
  rw [ht] at h
  split at h
  all_goals (try (simp_all; done))
def old (w : World) : Nat → Prop := fun j => j < w.heap.size
theorem trod_bytes {c : List Value} (h : DataW.trod enc Tryz.prog w base spare held n 25 c = some y) : ∃ v l, c = [v] ∧ BV w (old w) v l := by
 rcases open_ints Tryz.underlying25 Tryz.underlying5 (by kernel_rfl) h with ⟨rfl, _⟩ | ⟨a, len, cap, zs, rfl, _, hl, hm, hz, _, hcell, hwf⟩
 ·exact ⟨_, [], rfl, BV.nil _ _⟩
 ·have hzl : len ≤ zs.length := by rw [hz]; split <;> omega
  have htl : (zs.take len).length = len := by rw [List.length_take]; omega
  have hc : ∀ j u, (u8s (zs.take len))[j]? = some u → w.cell? (a.add j) = some u := fun j u hj => by
   have hjl := (List.getElem?_eq_some_iff.1 hj).1
   rw [u8s_length, htl] at hjl
   rw [hcell j (by omega)]
   unfold u8s at hj
   rw [List.getElem?_map, List.getElem?_take, if_pos hjl, List.getElem?_eq_getElem (by omega)] at hj
   rw [List.getD_eq_getElem?_getD, List.getElem?_eq_getElem (by omega)]
   simpa using hj
  refine ⟨_, zs.take len, rfl, some a, cap, by rw [htl], ⟨some a, cap, by rw [htl], by omega, hm, by rw [u8s_length]; omega, u8s_one _, fun _ => ⟨a, rfl, hc⟩⟩, fun h0 j hj => ?_, fun x hx => ?_⟩
  ·injection hj with hj
   have h1 := hc 0 _ (List.getElem?_eq_getElem (by rw [u8s_length]; exact h0))
   have h2 := World.block_lt_of_cell? w _ h1
   rw [addr_zero] at h2
   have hlt : j < w.heap.size := by rw [← hj]; exact h2
   exact ⟨hlt, hlt⟩
  ·have := hwf x (List.mem_of_mem_take hx)
   simp [Lit.wf] at this
   have e1 : IntKind.u8.min = 0 := by decide
   have e2 : IntKind.u8.max = 255 := by decide
   omega
/-- A choice. -/
structure ChV where
 kd : Int
 sd : Int
 n : Int
 bit : Int
 mask : Int
 data : List Int
def chcells (c : ChV) (v : Value) : List Value := [.int .i64 c.kd, .int .i64 c.sd, .int .i64 c.n, .int .i64 c.bit, .int .u32 c.mask, v]
set_option maxRecDepth 100000 in
theorem trod_choice {c : List Value} (h : DataW.trod enc Tryz.prog w base spare held n 64 c = some y) : ∃ x v, c = chcells x v ∧ BV w (old w) v x.data := by
 obtain ⟨xs, m, _, _, hl, hxl, hf⟩ := DataW.trod_struct Tryz.underlying64 h
 have hl6 : c.length = 6 := hl.trans (by kernel_rfl)
 match c, hl6 with
 | [c0, c1, c2, c3, c4, c5], _ =>
  match xs, hxl with
  | [x0, x1, x2, x3, x4, x5], _ =>
   have f0 := hf 0 _ rfl
   have f1 := hf 1 _ rfl
   have f2 := hf 2 _ rfl
   have f3 := hf 3 _ rfl
   have f4 := hf 4 _ rfl
   have f5 := hf 5 _ rfl
   obtain ⟨z0, e0, _⟩ := trod_int1 (c := [c0]) Tryz.underlying3 f0
   obtain ⟨z1, e1, _⟩ := trod_int1 (c := [c1]) Tryz.underlying3 f1
   obtain ⟨z2, e2, _⟩ := trod_int1 (c := [c2]) Tryz.underlying3 f2
   obtain ⟨z3, e3, _⟩ := trod_int1 (c := [c3]) Tryz.underlying3 f3
   obtain ⟨z4, e4, _⟩ := trod_int1 (c := [c4]) Tryz.underlying59 f4
   obtain ⟨v, l, e5, hb⟩ := trod_bytes (c := [c5]) f5
   injection e0 with e0
   injection e1 with e1
   injection e2 with e2
   injection e3 with e3
   injection e4 with e4
   injection e5 with e5
   subst e0 e1 e2 e3 e4 e5
   exact ⟨⟨z0, z1, z2, z3, z4, l⟩, c5, rfl, hb⟩
set_option maxRecDepth 100000 in
theorem trod_pk {c : List Value} (h : DataW.trod enc Tryz.prog w base spare held n 27 c = some y) : ∃ x v, c = pcells x v ∧ BV w (old w) v x.data := by
 obtain ⟨xs, m, _, _, hl, hxl, hf⟩ := DataW.trod_struct Tryz.underlying27 h
 have hl6 : c.length = 9 := hl.trans (by kernel_rfl)
 match c, hl6 with
 | [c0, c1, c2, c3, c4, c5, c6, c7, c8], _ =>
  match xs, hxl with
  | [x0, x1, x2, x3, x4, x5, x6, x7, x8], _ =>
   have f0 := hf 0 _ rfl
   have f1 := hf 1 _ rfl
   have f2 := hf 2 _ rfl
   have f3 := hf 3 _ rfl
   have f4 := hf 4 _ rfl
   have f5 := hf 5 _ rfl
   have f6 := hf 6 _ rfl
   have f7 := hf 7 _ rfl
   have f8 := hf 8 _ rfl
   obtain ⟨z0, e0, _⟩ := trod_int1 (c := [c0]) Tryz.underlying3 f0
   obtain ⟨z1, e1, _⟩ := trod_int1 (c := [c1]) Tryz.underlying3 f1
   obtain ⟨z2, e2, _⟩ := trod_int1 (c := [c2]) Tryz.underlying3 f2
   obtain ⟨z3, e3, _⟩ := trod_int1 (c := [c3]) Tryz.underlying3 f3
   obtain ⟨z4, e4, _⟩ := trod_int1 (c := [c4]) Tryz.underlying3 f4
   obtain ⟨v, l, e5, hb⟩ := trod_bytes (c := [c5]) f5
   obtain ⟨z6, e6⟩ := trod_bool1 (c := [c6]) Tryz.underlying4 f6
   obtain ⟨z7, e7, _⟩ := trod_int1 (c := [c7]) Tryz.underlying3 f7
   obtain ⟨z8, e8, _⟩ := trod_int1 (c := [c8]) Tryz.underlying3 f8
   injection e0 with e0
   injection e1 with e1
   injection e2 with e2
   injection e3 with e3
   injection e4 with e4
   injection e5 with e5
   injection e6 with e6
   injection e7 with e7
   injection e8 with e8
   subst e0 e1 e2 e3 e4 e5 e6 e7 e8
   exact ⟨⟨z0, z1, z2, z3, z4, l, z6, z7, z8⟩, c5, rfl, hb⟩
set_option maxRecDepth 100000 in
theorem trod_ev {c : List Value} (h : DataW.trod enc Tryz.prog w base spare held n 29 c = some y) : ∃ e x v, c = ecells e (x, v) ∧ EV w (old w) e (x, v) := by
 obtain ⟨xs, m, _, _, hl, hxl, hf⟩ := DataW.trod_struct Tryz.underlying29 h
 have hl6 : c.length = 12 := hl.trans (by kernel_rfl)
 match c, hl6 with
 | [c0, c1, c2, c3, c4, c5, c6, c7, c8, c9, c10, c11], _ =>
  match xs, hxl with
  | [x0, x1, x2, x3], _ =>
   have f0 := hf 0 _ rfl
   have f1 := hf 1 _ rfl
   have f2 := hf 2 _ rfl
   have f3 := hf 3 _ rfl
   obtain ⟨z0, e0, _⟩ := trod_int1 (c := [c0]) Tryz.underlying3 f0
   obtain ⟨z1, e1, _⟩ := trod_int1 (c := [c1]) Tryz.underlying3 f1
   obtain ⟨v, l, e2, hb⟩ := trod_bytes (c := [c2]) f2
   obtain ⟨p, vp, e3, hp⟩ := trod_pk (c := [c3, c4, c5, c6, c7, c8, c9, c10, c11]) f3
   injection e0 with e0
   injection e1 with e1
   injection e2 with e2
   subst e0 e1 e2
   refine ⟨⟨z0, z1, l, p⟩, c2, vp, ?_, hb, hp⟩
   have : ([.int .i64 z0, .int .i64 z1, c2, c3, c4, c5, c6, c7, c8, c9, c10, c11] : List Value) = [.int .i64 z0, .int .i64 z1, c2] ++ [c3, c4, c5, c6, c7, c8, c9, c10, c11] := rfl
   rw [this, e3]
   rfl
set_option maxRecDepth 100000 in
theorem trod_setup {c : List Value} (h : DataW.trod enc Tryz.prog w base spare held n 23 c = some y) : ∃ s0 s1 s2 s3 s4 s5 s6, c = [.int .i64 s0, .int .i64 s1, .int .i64 s2, .int .i64 s3, .int .i64 s4, .int .i64 s5, .int .i64 s6] := by
 obtain ⟨xs, m, _, _, hl, hxl, hf⟩ := DataW.trod_struct Tryz.underlying23 h
 have hl6 : c.length = 7 := hl.trans (by kernel_rfl)
 match c, hl6 with
 | [c0, c1, c2, c3, c4, c5, c6], _ =>
  match xs, hxl with
  | [x0, x1, x2, x3, x4, x5, x6], _ =>
   have f0 := hf 0 _ rfl
   have f1 := hf 1 _ rfl
   have f2 := hf 2 _ rfl
   have f3 := hf 3 _ rfl
   have f4 := hf 4 _ rfl
   have f5 := hf 5 _ rfl
   have f6 := hf 6 _ rfl
   obtain ⟨z0, e0, _⟩ := trod_int1 (c := [c0]) Tryz.underlying3 f0
   obtain ⟨z1, e1, _⟩ := trod_int1 (c := [c1]) Tryz.underlying3 f1
   obtain ⟨z2, e2, _⟩ := trod_int1 (c := [c2]) Tryz.underlying3 f2
   obtain ⟨z3, e3, _⟩ := trod_int1 (c := [c3]) Tryz.underlying3 f3
   obtain ⟨z4, e4, _⟩ := trod_int1 (c := [c4]) Tryz.underlying3 f4
   obtain ⟨z5, e5, _⟩ := trod_int1 (c := [c5]) Tryz.underlying3 f5
   obtain ⟨z6, e6, _⟩ := trod_int1 (c := [c6]) Tryz.underlying3 f6
   injection e0 with e0
   injection e1 with e1
   injection e2 with e2
   injection e3 with e3
   injection e4 with e4
   injection e5 with e5
   injection e6 with e6
   subst e0 e1 e2 e3 e4 e5 e6
   exact ⟨z0, z1, z2, z3, z4, z5, z6, rfl⟩
/-- A row of choices. -/
def ChRow (w : World) (a : Option Addr) (len : Nat) : Prop := ∀ i, i < len → ∃ (ad : Addr) (x : ChV) (v : Value), a = some ad ∧ (∀ (j : Nat) (u : Value), (chcells x v)[j]? = some u → w.cell? ((ad.add (i * 6)).add j) = some u) ∧ BV w (old w) v x.data
theorem ChRow.below {w w' : World} {a : Option Addr} {len : Nat} (h : ChRow w a len) (k : Below w.heap.size w w') : ChRow w' a len := fun i hi => by
 obtain ⟨ad, x, v, rfl, hc, hb⟩ := h i hi
 exact ⟨ad, x, v, rfl, fun j u hj => (k.cell (World.block_lt_of_cell? w _ (hc j u hj))).trans (hc j u hj), (hb.below k).mono (fun j hj hl => hl)⟩
theorem open_choices {cs : List Value} (h : DataW.trod enc Tryz.prog w base spare held n 24 cs = some y) : ∃ a len cap, cs = [.slice a len cap] ∧ len ≤ cap ∧ cap ≤ maxLen ∧ ChRow w a len := by
 rcases Go.Deep.open_slice Tryz.underlying24 h with ⟨rfl, _⟩ | ⟨a, len, cap, m, k, D, Pl, rfl, _, hl, hm, hmm, _, hx⟩
 ·exact ⟨none, 0, 0, rfl, Nat.le_refl _, by simp [maxLen], fun i hi => absurd hi (by omega)⟩
 ·refine ⟨some a, len, cap, rfl, hl, hm, fun i hi => ?_⟩
  obtain ⟨cs', h1, h2⟩ := hx i (by rw [hmm]; split <;> omega)
  obtain ⟨x, v, rfl, hb⟩ := trod_choice h2
  obtain ⟨_, hlen, hc⟩ := World.cells?_some h1
  refine ⟨a, x, v, rfl, fun j u hj => ?_, hb⟩
  have hj6 := (List.getElem?_eq_some_iff.1 hj).1
  rw [hlen] at hj6
  have e6 : Tryz.prog.cellsOf 64 = 6 := by kernel_rfl
  rw [e6] at hc hj6
  rw [hc j hj6, hj]
/-- A row of events. -/
theorem open_events {cs : List Value} (h : DataW.trod enc Tryz.prog w base spare held n 30 cs = some y) : ∃ a len cap, cs = [.slice a len cap] ∧ ∃ es, es.length = len ∧ ERow (old w) w (.slice a len cap) es := by
 rcases Go.Deep.open_slice Tryz.underlying30 h with ⟨rfl, _⟩ | ⟨a, len, cap, m, k, D, Pl, rfl, _, hl, hm, hmm, _, hx⟩
 ·exact ⟨none, 0, 0, rfl, [], rfl, [], rfl, Sl.nil _ _, fun i a b h => by simp at h⟩
 ·have e12 : Tryz.prog.cellsOf 29 = 12 := by kernel_rfl
  have each : ∀ i, i < len → ∃ p : Ev × (Value × Value), EV w (old w) p.1 p.2 ∧ ∀ (j : Nat) (u : Value), (ecells p.1 p.2)[j]? = some u → w.cell? (a.add (i * 12 + j)) = some u := fun i hi => by
   obtain ⟨cs', h1, h2⟩ := hx i (by rw [hmm]; split <;> omega)
   obtain ⟨e, x, v, rfl, hb⟩ := trod_ev h2
   obtain ⟨_, hlen, hc⟩ := World.cells?_some h1
   refine ⟨(e, (x, v)), hb, fun j u hj => ?_⟩
   have hj6 := (List.getElem?_eq_some_iff.1 hj).1
   rw [ecells_len] at hj6
   rw [e12] at hc
   rw [← addr_add, hc j hj6, hj]
  haveI : Inhabited (Ev × (Value × Value)) := ⟨(⟨0, 0, [], ⟨0, 0, 0, 0, 0, [], false, 0, 0⟩⟩, (.slice none 0 0, .slice none 0 0))⟩
  obtain ⟨f, hf⟩ := Go.Deep.choose_lt each
  refine ⟨some a, len, cap, rfl, (List.range len).map fun i => (f i).1, by simp, (List.range len).map fun i => (f i).2, by simp, ?_, fun i e b he hb => ?_⟩
  ·have hrow : rowsG ecells ((List.range len).map fun i => (f i).1) ((List.range len).map fun i => (f i).2) = (List.range len).flatMap fun i => ecells (f i).1 (f i).2 := by
    have : ∀ l : List Nat, rowsG ecells (l.map fun i => (f i).1) (l.map fun i => (f i).2) = l.flatMap fun i => ecells (f i).1 (f i).2 := by
     intro l
     induction l with
     | nil => rfl
     | cons x l ih => simp only [List.map_cons, rowsG, List.flatMap_cons, ih]
    exact this _
   refine ⟨some a, cap, by simp, by simpa using hl, hm, ?_, ?_, fun _ => ⟨a, rfl, fun j u hj => ?_⟩⟩
   ·rw [rowsG_length ecells_len _ _ (by simp)]
   ·intro u hu
    rw [hrow, List.mem_flatMap] at hu
    obtain ⟨i, hi, hu⟩ := hu
    exact (hf i (List.mem_range.1 hi)).1.one u hu
   ·have hjl := (List.getElem?_eq_some_iff.1 hj).1
    rw [rowsG_length ecells_len _ _ (by simp)] at hjl
    simp only [List.length_map, List.length_range] at hjl
    have hi : j / 12 < len := by omega
    have h2 := rowsG_get ecells_len ((List.range len).map fun i => (f i).1) ((List.range len).map fun i => (f i).2) (j / 12) (j % 12) (f (j / 12)).1 (f (j / 12)).2 (by simp [hi]) (by simp [hi]) (by omega)
    rw [show j / 12 * 12 + j % 12 = j from by omega] at h2
    rw [h2] at hj
    have := (hf (j / 12) hi).2 (j % 12) u hj
    rw [show j / 12 * 12 + j % 12 = j from by omega] at this
    exact this
  ·rw [List.getElem?_map] at he hb
   have hil : i < len := by
    rcases Nat.lt_or_ge i len with h | h
    ·exact h
    ·rw [List.getElem?_eq_none (by simpa using h)] at he; cases he
   rw [List.getElem?_range hil] at he hb
   simp only [Option.map_some, Option.some.injEq] at he hb
   subst he hb
   exact (hf i hil).1
end
end
end Go.Proofs.YtdneakejlbabeaaGreat
